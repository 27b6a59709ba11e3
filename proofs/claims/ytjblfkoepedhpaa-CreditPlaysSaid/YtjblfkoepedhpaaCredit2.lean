/-
  Package credit's pool: there, next, grant; the reference's Share.
-/
import Derived.Test.YtjblfkoepedhpaaCredit
import Derived.Deep.LoopGhost
namespace Go.Proofs.Ytjblfkoepedhpaa
open Go.RowKit

theorem there_x (g gl : Nat) (room : Int) (t : Nat) (L : List Lane) (i : Int) (w : World) (h : XPool w g gl room t L) (_hn : L.length ≤ 8) :
    Calls Try.prog 112 #[.pointer (some ⟨g, 0, none⟩), .int .i64 i] w fun e w' => e = .returned (.bool (decide (0 ≤ i ∧ i < L.length))) ∧ ∃ n, w' = w.drewN n := by
  have c2 := h.c2
  by_cases h1 : 0 ≤ i
  · have d1 : decide (0 ≤ i) = true := by simp; omega
    by_cases h2 : i < L.length
    · have d2 : decide (i < (L.length : Int)) = true := by simp; omega
      rw [show decide (0 ≤ i ∧ i < (L.length : Int)) = true by simp; omega]
      go_enter Try.func112, Try.ntmps112
      go_wp2_with fail
      go_ret
      exact ⟨rfl, 0, rfl⟩
    · have d2 : decide (i < (L.length : Int)) = false := by simp; omega
      rw [show decide (0 ≤ i ∧ i < (L.length : Int)) = false by simp; omega]
      go_enter Try.func112, Try.ntmps112
      go_wp2_with fail
      go_ret
      exact ⟨rfl, 0, rfl⟩
  · have d1 : decide (0 ≤ i) = false := by simp; omega
    rw [show decide (0 ≤ i ∧ i < (L.length : Int)) = false by simp; omega]
    go_enter Try.func112, Try.ntmps112
    go_wp2_with fail
    go_ret
    exact ⟨rfl, 0, rfl⟩

set_option maxRecDepth 100000 in
set_option maxHeartbeats 1000000 in
theorem next_x (g gl : Nat) (room : Int) (t : Nat) (L : List Lane) (w : World) (h : XPool w g gl room t L) (hf : Fit room t L) :
    Calls Try.prog 130 #[.pointer (some ⟨g, 0, none⟩)] w fun e w' => e = .returned (.int .i64 (next t L)) ∧ ∃ n, w' = w.drewN n := by
  have c1 := h.c1
  have c2 := h.c2
  have hn1 := hf.n1
  have hn2 := hf.n2
  have ht1 := hf.t1
  have HN := Lib.hid (show next t L = nxt t L (L.length - 0) from rfl)
  go_enter Try.func130, Try.ntmps130
  go_wp2_with fail
  go_loopw [10] (fun v wr => ∃ k m : Nat, k ≤ L.length ∧ v = .int .i64 k ∧ Hid (next t L = nxt t L (L.length - k)) ∧ wr = w.drewN m) (fun v _ => L.length - (intOf v).toNat)
  case atStart => exact ⟨0, 0, by omega, rfl, HN, rfl⟩
  case round =>
    obtain ⟨k, m, hk, rfl, HK, rfl⟩ := hrel
    by_cases hlt : k < L.length
    · have hml : (t + k) % L.length < L.length := Nat.mod_lt _ (by omega)
      have l0 := h.l0 hml
      have HS := Lib.hid (nxt_at t L hlt)
      have hmod : ((t : Int) + (k : Int)) % (L.length : Int) = (((t + k) % L.length : Nat) : Int) := by simp
      have htm : Int.tmod ((t : Int) + (k : Int)) (L.length : Int) = (((t + k) % L.length : Nat) : Int) := by rw [Int.tmod_eq_emod_of_nonneg (by omega)]; exact hmod
      have hw1 : IntKind.i64.wrap ((t : Int) + (k : Int)) = (t : Int) + (k : Int) := IntWalk.i64_in _ (by omega)
      have hnz : ((L.length : Int) == 0) = false := beq_eq_false_iff_ne.2 (by omega)
      have hnz' : (L.length == 0) = false := beq_eq_false_iff_ne.2 (by omega)
      generalize hjj : (t + k) % L.length = j at *
      clear hjj
      generalize L.getD j (0, 0, 0) = x at *
      have hj1 : (j : Int) < (L.length : Int) := by omega
      by_cases hx : 0 < x.1
      · go_wp2_with fail
        go_quiet (fail)
        go_wp2_with fail
        go_ret
        refine ⟨?_, _, rfl⟩
        rw [HK.out, HS.out, if_pos hx]
        rfl
      · go_wp2_with fail
        go_quiet (fail)
        go_wp2_with fail
        go_roundw
        case rel =>
          refine ⟨k + 1, _, by omega, by go_num, ?_, rfl⟩
          unfold Hid
          rw [HK.out, HS.out, if_neg (by omega)]
        case measure => simp [intOf]; omega
    · go_wp2_with fail
      go_ret
      refine ⟨?_, _, rfl⟩
      rw [HK.out, show L.length - k = 0 by omega]
      rfl

/-- The blocks of a pool. -/
def Two (g gl : Nat) (i : Nat) : Prop := i = g ∨ i = gl

set_option maxRecDepth 100000 in
set_option maxHeartbeats 1000000 in
theorem grant_x (g gl : Nat) (room : Int) (t : Nat) (L : List Lane) (w : World) (h : XPool w g gl room t L) (hf : Fit room t L) :
    Calls Try.prog 113 #[.pointer (some ⟨g, 0, none⟩)] w fun e w' => e = .returned (.tuple #[]) ∧ XPool w' g gl room (granted room t L).1 (granted room t L).2 ∧ Only (Two g gl) w w' := by
  go_enter Try.func113, Try.ntmps113
  go_wp2_with fail
  go_loopg [2] (room - spent L).toNat (fun k _ wr => ∃ (t' : Nat) (L' : List Lane), XPool wr g gl room t' L' ∧ Fit room t' L' ∧ k = (room - spent L').toNat ∧ granted room t L = granted room t' L' ∧ Only (Two g gl) w wr)
  case atStart => exact ⟨t, L, h, hf, rfl, rfl, Only.refl _ _⟩
  case round =>
    obtain ⟨t', L', hp, hf', hk, hg, ho⟩ := hrel
    have HK := Lib.hid hk
    have HG := Lib.hid hg
    have hsp := spent_bounds hf' L'.length
    rw [List.take_of_length_le (Nat.le_refl _)] at hsp
    have hr2 := hf'.r2
    clear hk hg
    go_wp2_with fail
    refine (left_x g gl room t' L' wr hp hf').mono ?_
    rintro e w1 ⟨rfl, hb1⟩
    have hp1 := hp.below hb1
    have ho1 := ho.below hb1
    by_cases hl : 0 < room - spent L'
    · have hl' : spent L' < room := by omega
      have hn1 := hf'.n1
      have hn2 := hf'.n2
      go_wp2_with fail
      refine (next_x g gl room t' L' w1 hp1 hf').mono ?_
      rintro e w2 ⟨rfl, nq, rfl⟩
      have hp2 := hp1.drewN nq
      have ho2 := ho1.drewN nq
      generalize w1.drewN nq = w2 at *
      rcases nxt_cases t' L' L'.length (Nat.le_refl _) with hx | ⟨i, hi, hx, hw⟩
      · have HX := Lib.hid hx
        rw [show next t' L' = -1 from hx]
        clear hx
        go_wp2_with fail
        refine bodyPost_ret (results_none rfl _ _ _) rfl ?_
        refine ⟨rfl, ?_, ho2⟩
        rw [HG.out, granted_stop (.inr (by unfold next; rw [HX.out]; decide))]
        exact hp2
      · have HX := Lib.hid hx
        have HS := Lib.hid (granted_step hl hi hx)
        rw [show next t' L' = (i : Int) from hx]
        clear hx
        have HF := Lib.hid (give_fit (t' := (i + 1) % L'.length) hf' hi hw (Nat.mod_lt _ (by omega)) hl)
        have HGS := Lib.hid (give_spent L' hi)
        have c1 := hp2.c1
        have c2 := hp2.c2
        have l0 := hp2.l0 hi
        have l1 := hp2.l1 hi
        have f0 := hp2.lanes.frozen (i * 3)
        have f1 := hp2.lanes.frozen (i * 3 + 1)
        have f2 := hp2.own.frozen 1
        have hne := hp2.ne
        have hne' : gl ≠ g := fun e => hne e.symm
        have hm := hf'.each _ (getD_of_mem hi)
        have hms := spent_mem (fun x hx => (by have := hf'.each x hx; omega : 0 ≤ x.2.1 ∧ 0 ≤ x.2.2)) _ (getD_of_mem hi)
        have hi0 : decide ((i : Int) < 0) = false := by simp
        have hi1 : (i : Int) < (L'.length : Int) := by omega
        have HP := Lib.hid (((hp2.put (i := i) (j := 0) (.int .i64 ((L'.getD i (0, 0, 0)).1 - 1)) hi (by decide) ((L'.getD i (0, 0, 0)).1 - 1, (L'.getD i (0, 0, 0)).2.1, (L'.getD i (0, 0, 0)).2.2) rfl).put (i := i) (j := 1) (.int .i64 ((L'.getD i (0, 0, 0)).2.1 + 1)) (by simpa using hi) (by decide) ((L'.getD i (0, 0, 0)).1 - 1, (L'.getD i (0, 0, 0)).2.1 + 1, (L'.getD i (0, 0, 0)).2.2) (by simp [hi, laneC])).turn ((i + 1) % L'.length))
        rw [List.set_set] at HP
        have HO := Lib.hid (((ho2.set (p := ⟨gl, i * 3, none⟩) (.inr rfl) (.int .i64 ((L'.getD i (0, 0, 0)).1 - 1))).set (p := ⟨gl, i * 3 + 1, none⟩) (.inr rfl) (.int .i64 ((L'.getD i (0, 0, 0)).2.1 + 1))).set (p := ⟨g, 1, none⟩) (.inl rfl) (.int .i64 (((i + 1) % L'.length : Nat) : Int)))
        unfold give at HF HS HGS
        generalize L'.getD i (0, 0, 0) = x at *
        have hmod : ((i : Int) + 1) % (L'.length : Int) = (((i + 1) % L'.length : Nat) : Int) := by simp
        have hnz : ((L'.length : Int) == 0) = false := beq_eq_false_iff_ne.2 (by omega)
        have hnz' : (L'.length == 0) = false := beq_eq_false_iff_ne.2 (by omega)
        generalize (i + 1) % L'.length = j at *
        have hm1 : x.2.1 + 1 ≤ 65 := by omega
        go_wp2_with fail
        go_roundg (room - spent (L'.set i (x.1 - 1, x.2.1 + 1, x.2.2))).toNat
        case measure =>
          have := HK.out
          have := HGS.out
          omega
        case rel => exact ⟨j, _, HP.out, HF.out, rfl, HG.out.trans HS.out, HO.out⟩
    · have hl' : ¬ spent L' < room := by omega
      go_wp2_with fail
      go_end0
      refine ⟨rfl, ?_, ho1⟩
      rw [HG.out, granted_stop (.inl (by omega))]
      exact hp1
end Go.Proofs.Ytjblfkoepedhpaa
