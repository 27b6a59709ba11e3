/-
  Lines: whose is the longest one, by both.
-/
import Derived.Test.YtaecgapoaagjfaaSteal4
import Derived.IntWalk
namespace Go.Proofs.Ytaecgapoaagjfaa
open Go.RowKit

def lnLen (vs : List (List Int)) (i : Nat) : Nat := (vs.getD i []).length
/-- The processor k behind one. -/
def rot (n cpu k : Nat) : Nat := if cpu + k < n then cpu + k else cpu + k - n
theorem rot_mod {n cpu k : Nat} (h1 : cpu < n) (h2 : k ≤ n) : (cpu + k) % n = rot n cpu k := by
  unfold rot
  split
  · exact Nat.mod_eq_of_lt (by omega)
  · rw [Nat.mod_eq_sub_mod (by omega)]
    exact Nat.mod_eq_of_lt (by omega)
theorem rot_lt {n cpu k : Nat} (h1 : cpu < n) (h2 : k ≤ n) : rot n cpu k < n := by unfold rot; split <;> omega
/-- The best behind k of the others. -/
def vicTo (vs : List (List Int)) (cpu : Nat) : Nat → Int
  | 0 => -1
  | k + 1 => if 0 < lnLen vs (rot vs.length cpu (k + 1)) ∧ (vicTo vs cpu k < 0 ∨ lnLen vs (vicTo vs cpu k).toNat < lnLen vs (rot vs.length cpu (k + 1))) then (rot vs.length cpu (k + 1) : Nat) else vicTo vs cpu k
theorem vic_spec (vs : List (List Int)) (cpu : Nat) : ∀ K, (vicTo vs cpu K = -1 ∧ ∀ k, 1 ≤ k → k ≤ K → lnLen vs (rot vs.length cpu k) = 0) ∨
    ∃ k0, 1 ≤ k0 ∧ k0 ≤ K ∧ vicTo vs cpu K = (rot vs.length cpu k0 : Nat) ∧ 0 < lnLen vs (rot vs.length cpu k0) ∧ (∀ k, 1 ≤ k → k ≤ K → lnLen vs (rot vs.length cpu k) ≤ lnLen vs (rot vs.length cpu k0)) ∧ ∀ k, 1 ≤ k → k < k0 → lnLen vs (rot vs.length cpu k) < lnLen vs (rot vs.length cpu k0)
  | 0 => .inl ⟨rfl, fun k h1 h2 => by omega⟩
  | K + 1 => by
    have hlast : ∀ k, k ≤ K + 1 → ¬ k ≤ K → k = K + 1 := fun k h1 h2 => by omega
    rcases vic_spec vs cpu K with ⟨h1, h2⟩ | ⟨k0, h1, h2, h3, h4, h5, h6⟩
    · by_cases hp : 0 < lnLen vs (rot vs.length cpu (K + 1))
      · refine .inr ⟨K + 1, by omega, Nat.le_refl _, ?_, hp, fun k a b => ?_, fun k a b => ?_⟩
        · rw [vicTo, if_pos ⟨hp, .inl (by rw [h1]; decide)⟩]
        · by_cases e : k ≤ K
          · rw [h2 k a e]; omega
          · rw [hlast k b e]; exact Nat.le_refl _
        · rw [h2 k a (by omega)]; exact hp
      · refine .inl ⟨by rw [vicTo, if_neg (fun h => hp h.1)]; exact h1, fun k a b => ?_⟩
        by_cases e : k ≤ K
        · exact h2 k a e
        · rw [hlast k b e]; omega
    · by_cases hp : lnLen vs (rot vs.length cpu k0) < lnLen vs (rot vs.length cpu (K + 1))
      · refine .inr ⟨K + 1, by omega, Nat.le_refl _, ?_, by omega, fun k a b => ?_, fun k a b => ?_⟩
        · rw [vicTo, if_pos ⟨by omega, .inr (by rw [h3, Int.toNat_natCast]; exact hp)⟩]
        · by_cases e : k ≤ K
          · have := h5 k a e; omega
          · rw [hlast k b e]; exact Nat.le_refl _
        · have := h5 k a (by omega); omega
      · refine .inr ⟨k0, h1, by omega, ?_, h4, fun k a b => ?_, h6⟩
        · rw [vicTo, if_neg (fun h => by
            rcases h.2 with e | e
            · rw [h3] at e; omega
            · rw [h3, Int.toNat_natCast] at e; exact hp e)]
          exact h3
        · by_cases e : k ≤ K
          · exact h5 k a e
          · rw [hlast k b e]; omega
theorem vicTo_lt (vs : List (List Int)) (cpu : Nat) (h : cpu < vs.length) (K : Nat) (hK : K ≤ vs.length) (h0 : 0 ≤ vicTo vs cpu K) : vicTo vs cpu K < vs.length := by
  rcases vic_spec vs cpu K with ⟨h1, _⟩ | ⟨k0, _, h2, h3, _⟩
  · omega
  · rw [h3]; have := rot_lt h (show k0 ≤ vs.length by omega); omega
def victim (vs : List (List Int)) (cpu : Int) : Int := if cpuFault vs cpu = 0 then vicTo vs cpu.toNat (vs.length - 1) else -1
theorem cpuFault_zero {vs : List (List Int)} {cpu : Int} (h : cpuFault vs cpu = 0) : linesFault vs = 0 ∧ 0 ≤ cpu ∧ cpu < vs.length ∧ 1 ≤ vs.length ∧ vs.length ≤ 8 := by
  unfold cpuFault at h
  by_cases h0 : linesFault vs = 0
  · rw [if_pos h0] at h
    by_cases h1 : cpu < 0 ∨ (vs.length : Int) ≤ cpu
    · rw [if_pos h1] at h; cases h
    · unfold linesFault at h0
      by_cases h2 : vs.length < 1 ∨ 8 < vs.length
      · rw [if_pos h2] at h0; cases h0
      · exact ⟨by assumption, by omega, by omega, by omega, by omega⟩
  · rw [if_neg h0] at h; exact absurd h h0

set_option maxRecDepth 100000 in
set_option maxHeartbeats 4000000 in
theorem victim_any (A : Option Addr) (c : Nat) (l : List BC) (vs : List (List Int)) (cpu : Int) (S : Nat → Prop) (w : World) (h : lnRow w S 0 A c l vs) :
    Calls Try.prog 136 #[.slice A l.length c, .int .i64 cpu] w fun e w' => e = .returned (.int .i64 (victim vs cpu)) ∧ Below w.heap.size w w' := by
  have HC := Lib.hid (checkCpu_any A c l vs cpu S w h)
  have hlv := h.1
  unfold victim
  by_cases h0 : cpuFault vs cpu = 0
  · rw [if_pos h0]
    rw [h0] at HC
    obtain ⟨_, hc0, hc1, hn1, hn8⟩ := cpuFault_zero h0
    obtain ⟨p, rfl⟩ := Int.eq_ofNat_of_zero_le hc0
    rw [Int.toNat_natCast]
    have HH := Lib.hid h.all
    have HLV := Lib.hid hlv
    have hpn : p < l.length := by omega
    have hl8 : l.length ≤ 8 := by omega
    have hl1 : 1 ≤ l.length := by omega
    have HRES := Lib.hid (show vicTo vs p (vs.length - 1) = vicTo vs p (l.length - 1) by rw [hlv])
    clear h h0 hlv hc0 hc1 hn1 hn8
    go_enter Try.func136, Try.ntmps136
    go_wp2_with fail
    refine HC.out.mono ?_
    rintro e w1 ⟨rfl, hb1⟩
    have HB1 := Lib.hid hb1
    have HR1 := Lib.hid (HH.out.below hb1 fun _ h => h)
    clear hb1 HC HH
    go_wp2_with fail
    go_loopg [5, 6] l.length (fun gk v i wr => ∃ (k : Nat) (q : Int), gk = l.length - k + 1 ∧ 1 ≤ k ∧ k ≤ l.length ∧ v = .int .i64 q ∧ i = .int .i64 k ∧ vicTo vs p (k - 1) = q ∧ ∃ n, wr = w1.drewN n)
    case atStart => exact ⟨1, -1, by omega, by omega, by omega, rfl, rfl, rfl, 0, rfl⟩
    case round =>
      obtain ⟨k, q, hgk, hk1, hk, rfl, rfl, hq, n, hwr⟩ := hrel
      have HK := Lib.hid hgk
      have HQ := Lib.hid hq
      have HW := Lib.hid hwr
      clear hgk hq hwr
      by_cases hlt : k < l.length
      · have hrl : rot l.length p k < l.length := rot_lt hpn (by omega)
        have hmod : ((p : Int) + (k : Int)) % (l.length : Int) = (rot l.length p k : Nat) := by rw [← rot_mod hpn (by omega)]; simp
        have HMOD := Lib.hid hmod
        obtain ⟨b, o, rfl, hbl, hcc, _⟩ := HR1.out.at hrl
        have HSTEP := Lib.hid (show vicTo vs p k = if 0 < lnLen vs (rot vs.length p k) ∧ (q < 0 ∨ lnLen vs q.toNat < lnLen vs (rot vs.length p k)) then ((rot vs.length p k : Nat) : Int) else q by
          obtain ⟨k', rfl⟩ : ∃ k', k = k' + 1 := ⟨k - 1, by omega⟩
          have h1 : vicTo vs p k' = q := HQ.out
          rw [vicTo, h1])
        rw [← HLV.out] at HSTEP
        have hd : wr.cell? ⟨b, o + rot l.length p k, none⟩ = some (.slice (l.getD (rot l.length p k) bc0).A (lnLen vs (rot l.length p k)) (l.getD (rot l.length p k) bc0).cap) := by rw [HW.out]; exact hcc
        have HQL := Lib.hid (fun h0 : 0 ≤ q => vicTo_lt vs p (by rw [← HLV.out]; exact hpn) (k - 1) (by rw [← HLV.out]; omega) (by rw [HQ.out]; exact h0))
        generalize l.getD (rot l.length p k) bc0 = x at *
        generalize hri : rot l.length p k = ri at *
        have HRI := Lib.hid hri
        clear hri hcc
        have hbi : (lnLen vs ri : Nat) ≤ 17592186044416 := by
          have h1 := (HR1.out.2.2.1 ri hrl).2.2.2.2.2.2
          exact h1
        by_cases hp0 : 0 < lnLen vs ri
        · have d1 : decide ((0 : Int) < (lnLen vs ri : Int)) = true := decide_eq_true (by omega)
          have d1' : decide (0 < lnLen vs ri) = true := decide_eq_true hp0
          by_cases hq0 : q < 0
          · have d2 : decide (q < 0) = true := decide_eq_true hq0
            have HEND := Lib.hid (show vicTo vs p (k + 1 - 1) = ri by rw [show k + 1 - 1 = k from rfl, HSTEP.out, if_pos ⟨hp0, .inl hq0⟩])
            go_wp2_with fail
            go_quiet (fail)
            go_wp2_with fail
            go_roundg (l.length - (k + 1) + 1)
            case measure => have := HK.out; omega
            case rel => exact ⟨k + 1, ri, rfl, by omega, by omega, by first | rfl | rw [hmod], by go_num, HEND.out, _, by rw [HW.out, World.drewN_drewN]⟩
          · have d2 : decide (q < 0) = false := decide_eq_false hq0
            obtain ⟨qn, rfl⟩ := Int.eq_ofNat_of_zero_le (show 0 ≤ q by omega)
            have hql : qn < l.length := by have := HQL.out (by omega); rw [HQ.out, ← HLV.out] at this; omega
            obtain ⟨b', o', hA', _, hcq, _⟩ := HR1.out.at hql
            injection hA' with hA'
            injection hA' with hbb hoo
            subst hbb hoo
            have hdq : wr.cell? ⟨b, o + qn, none⟩ = some (.slice (l.getD qn bc0).A (lnLen vs qn) (l.getD qn bc0).cap) := by rw [HW.out]; exact hcq
            have hbq : (lnLen vs qn : Nat) ≤ 17592186044416 := (HR1.out.2.2.1 qn hql).2.2.2.2.2.2
            rw [Int.toNat_natCast] at HSTEP
            generalize l.getD qn bc0 = x' at *
            clear hcq
            by_cases hlq : lnLen vs qn < lnLen vs ri
            · have d3 : decide ((lnLen vs qn : Int) < (lnLen vs ri : Int)) = true := decide_eq_true (by omega)
              have d3' : decide (lnLen vs qn < lnLen vs ri) = true := decide_eq_true hlq
              have HEND := Lib.hid (show vicTo vs p (k + 1 - 1) = ri by rw [show k + 1 - 1 = k from rfl, HSTEP.out, if_pos ⟨hp0, .inr hlq⟩])
              generalize lnLen vs qn = Lq at *
              generalize lnLen vs ri = Li at *
              go_wp2_with fail
              go_quiet (fail)
              go_wp2_with fail
              go_roundg (l.length - (k + 1) + 1)
              case measure => have := HK.out; omega
              case rel => exact ⟨k + 1, ri, rfl, by omega, by omega, by first | rfl | rw [hmod], by go_num, HEND.out, _, by rw [HW.out, World.drewN_drewN]⟩
            · have d3 : decide ((lnLen vs qn : Int) < (lnLen vs ri : Int)) = false := decide_eq_false (by omega)
              have d3' : decide (lnLen vs qn < lnLen vs ri) = false := decide_eq_false hlq
              have HEND := Lib.hid (show vicTo vs p (k + 1 - 1) = qn by rw [show k + 1 - 1 = k from rfl, HSTEP.out, if_neg (fun h => by rcases h.2 with e | e <;> omega)])
              generalize lnLen vs qn = Lq at *
              generalize lnLen vs ri = Li at *
              go_wp2_with fail
              go_quiet (fail)
              go_wp2_with fail
              go_roundg (l.length - (k + 1) + 1)
              case measure => have := HK.out; omega
              case rel => exact ⟨k + 1, qn, rfl, by omega, by omega, rfl, by go_num, HEND.out, _, by rw [HW.out, World.drewN_drewN]⟩
        · have d1 : decide ((0 : Int) < (lnLen vs ri : Int)) = false := decide_eq_false (by omega)
          have d1' : decide (0 < lnLen vs ri) = false := decide_eq_false hp0
          have HEND := Lib.hid (show vicTo vs p (k + 1 - 1) = q by rw [show k + 1 - 1 = k from rfl, HSTEP.out, if_neg (fun h => hp0 h.1)])
          generalize lnLen vs ri = Li at *
          go_wp2_with fail
          go_quiet (fail)
          go_wp2_with fail
          go_roundg (l.length - (k + 1) + 1)
          case measure => have := HK.out; omega
          case rel => exact ⟨k + 1, q, rfl, by omega, by omega, rfl, by go_num, HEND.out, _, by rw [HW.out, World.drewN_drewN]⟩
      · obtain rfl : k = l.length := by omega
        go_wp2_with fail
        go_ret
        exact ⟨by rw [HRES.out, HQ.out]; rfl, by rw [HW.out]; exact below_drewN HB1.out n⟩
  · rw [if_neg h0]
    have e0 : (cpuFault vs cpu != 0) = true := by simpa using h0
    generalize cpuFault vs cpu = r at *
    clear h h0 hlv
    go_enter Try.func136, Try.ntmps136
    go_wp2_with fail
    refine HC.out.mono ?_
    rintro e w1 ⟨rfl, hb1⟩
    go_wp2_with fail
    go_ret
    exact ⟨rfl, hb1⟩
end Go.Proofs.Ytaecgapoaagjfaa
