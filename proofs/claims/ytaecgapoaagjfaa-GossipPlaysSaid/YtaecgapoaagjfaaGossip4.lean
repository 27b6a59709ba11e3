/-
  Rows that are told: what is wrong with them, and what a gossip makes of them.
-/
import Derived.Test.YtaecgapoaagjfaaGossip3
namespace Go.Proofs.Ytaecgapoaagjfaa
open Go.RowKit

def newerB (a b : RowT) : Bool := decide (b.2.1 < a.2.1) || (a.2.1 == b.2.1 && decide (b.2.2 < a.2.2))
theorem newer_any (a b : RowT) (w : World) : Calls Try.prog 163 #[grV a, grV b] w fun e w' => e = .returned (.bool (newerB a b)) ∧ Below w.heap.size w w' := by
  have HB := Lib.hid (show ∀ o1 o2, Below w.heap.size w ((w.alloc o1).alloc o2) from fun _ _ => ((Below.refl _ _).alloc (Nat.le_refl _) _).alloc (by simp) _)
  obtain ⟨a0, a1, a2⟩ := a
  obtain ⟨b0, b1, b2⟩ := b
  unfold newerB grV
  simp only
  by_cases h1 : b1 < a1
  · have d1 : decide (b1 < a1) = true := by simp; omega
    rw [d1]
    clear h1
    go_enter Try.func163, Try.ntmps163
    go_wp2_with fail
    go_ret
    exact ⟨rfl, HB.out _ _⟩
  · have d1 : decide (b1 < a1) = false := by simp; omega
    rw [d1]
    by_cases h2 : a1 = b1
    · have d2 : (a1 == b1) = true := by simp [h2]
      rw [d2]
      clear h1 h2
      go_enter Try.func163, Try.ntmps163
      go_wp2_with fail
      go_ret
      exact ⟨by simp, HB.out _ _⟩
    · have d2 : (a1 == b1) = false := by simp [h2]
      rw [d2]
      clear h1 h2
      go_enter Try.func163, Try.ntmps163
      go_wp2_with fail
      go_ret
      exact ⟨rfl, HB.out _ _⟩

/-- What is wrong from the k-th row on. -/
def rowsAt (l : List RowT) (k : Nat) : Int := rowsF (if k = 0 then none else some (l.getD (k - 1) (0, 0, 0)).1) (l.drop k)
theorem rowsAt_succ (l : List RowT) (k : Nat) (hk : k < l.length) : rowsAt l k = if rowBad (l.getD k (0, 0, 0)) then 1 else if (decide (0 < k) && decide ((l.getD k (0, 0, 0)).1 ≤ (l.getD (k - 1) (0, 0, 0)).1)) then 21 else rowsAt l (k + 1) := by
  unfold rowsAt
  rw [drop_getD l (0, 0, 0) hk, rowsF]
  have e : rowsF (some (l.getD k (0, 0, 0)).1) (l.drop (k + 1)) = rowsF (if k + 1 = 0 then none else some (l.getD (k + 1 - 1) (0, 0, 0)).1) (l.drop (k + 1)) := by simp
  rw [← e]
  cases k with
  | zero => simp [prevBad]
  | succ k => simp [prevBad]

set_option maxRecDepth 100000 in
set_option maxHeartbeats 1000000 in
theorem checkRows_any (A : Option Addr) (c : Nat) (l : List RowT) (w : World) (hr : Row w w.heap.size A (flat grC l)) (hm : l.length ≤ maxLen) :
    Calls Try.prog 162 #[.slice A l.length c] w fun e w' => e = .returned (.int .i64 (rowsFault l)) ∧ Below w.heap.size w w' := by
  have HR := Lib.hid hr
  clear hr
  unfold rowsFault
  unfold maxLen at hm
  by_cases h8 : 8 < l.length
  · have d1 : decide ((8 : Int) < (l.length : Int)) = true := by simp; omega
    have d2 : decide (8 < l.length) = true := by simp; omega
    rw [if_pos h8]
    go_enter Try.func162, Try.ntmps162
    go_wp2_with fail
    go_ret
    exact ⟨rfl, Below.refl _ _⟩
  · have d1 : decide ((8 : Int) < (l.length : Int)) = false := by simp; omega
    have d2 : decide (8 < l.length) = false := by simp; omega
    rw [if_neg h8]
    have HRES := Lib.hid (show rowsF none l = rowsAt l 0 by unfold rowsAt; simp)
    generalize rowsF none l = res at *
    go_enter Try.func162, Try.ntmps162
    go_wp2_with fail
    go_loopg [10] l.length (fun gk i wr => ∃ k : Nat, gk = l.length - k ∧ k ≤ l.length ∧ i = .int .i64 k ∧ Hid (res = rowsAt l k) ∧ Below w.heap.size w wr)
    case atStart => exact ⟨0, by omega, by omega, rfl, HRES.out, Below.refl _ _⟩
    case round =>
      obtain ⟨k, hgk, hk, rfl, HE, hb⟩ := hrel
      have HK := Lib.hid hgk
      clear hgk
      by_cases hlt : k < l.length
      · have HS := Lib.hid (rowsAt_succ l k hlt)
        obtain ⟨b, o, rfl, _, hc0, hc1, hc2⟩ := (HR.out.below hb).gr hlt (0, 0, 0)
        have HPV := Lib.hid (show 0 < k → wr.cell? ⟨b, o + (k - 1) * 3, none⟩ = some (.int .i64 (l.getD (k - 1) (0, 0, 0)).1) from fun h0 => by
          obtain ⟨b', o', e', _, hd0, _⟩ := (HR.out.below hb).gr (show k - 1 < l.length by omega) (0, 0, 0)
          injection e' with e'
          injection e' with e1 e2
          subst e1 e2
          exact hd0)
        generalize l.getD k (0, 0, 0) = x at *
        generalize (l.getD (k - 1) (0, 0, 0)).1 = pv at *
        obtain ⟨x0, x1, x2⟩ := x
        simp only at hc0 hc1 hc2
        have hbs := hb.size
        have HIS := Lib.hid (fun w => isNode_any x0 w)
        have HBN := Lib.hid (hb.alloc hbs (.cells #[.int .i64 x0, .int .i64 x1, .int .i64 x2] 54))
        unfold rowBad at HS
        simp only at HS
        by_cases g1 : 1 ≤ x0 ∧ x0 ≤ 8
        case neg =>
          have HEND := Lib.hid (show res = 1 by
            rw [HE.out, HS.out, if_pos]
            rcases Int.lt_or_le x0 1 with h | h
            · simp [h]
            · have : 8 < x0 := by omega
              simp [this])
          rw [show isN x0 = false by unfold isN; simpa using g1] at HIS
          clear HS HE g1
          go_wp2_with fail
          refine (HIS.out _).mono ?_
          rintro e w' ⟨rfl, rfl⟩
          go_wp2_with fail
          go_ret
          exact ⟨by rw [HEND.out]; rfl, HBN.out⟩
        rw [show isN x0 = true by unfold isN; simpa using g1] at HIS
        by_cases g2 : x1 < 0
        case pos =>
          have HEND := Lib.hid (show res = 1 by rw [HE.out, HS.out, if_pos]; simp [g2])
          have d3 : decide (x1 < 0) = true := by simp; omega
          clear HS HE g2
          go_wp2_with fail
          refine (HIS.out _).mono ?_
          rintro e w' ⟨rfl, rfl⟩
          go_wp2_with fail
          go_ret
          exact ⟨by rw [HEND.out]; rfl, HBN.out⟩
        have d3 : decide (x1 < 0) = false := by simp; omega
        by_cases g3 : 1099511627776 < x1
        case pos =>
          have HEND := Lib.hid (show res = 1 by rw [HE.out, HS.out, if_pos]; simp [g3])
          have d4 : decide (1099511627776 < x1) = true := by simp; omega
          clear HS HE g3
          go_wp2_with fail
          refine (HIS.out _).mono ?_
          rintro e w' ⟨rfl, rfl⟩
          go_wp2_with fail
          go_ret
          exact ⟨by rw [HEND.out]; rfl, HBN.out⟩
        have d4 : decide (1099511627776 < x1) = false := by simp; omega
        by_cases g4 : x2 < 1
        case pos =>
          have HEND := Lib.hid (show res = 1 by rw [HE.out, HS.out, if_pos]; simp [g4])
          have d5 : decide (x2 < 1) = true := by simp; omega
          clear HS HE g4
          go_wp2_with fail
          refine (HIS.out _).mono ?_
          rintro e w' ⟨rfl, rfl⟩
          go_wp2_with fail
          go_ret
          exact ⟨by rw [HEND.out]; rfl, HBN.out⟩
        have d5 : decide (x2 < 1) = false := by simp; omega
        by_cases g5 : 3 < x2
        case pos =>
          have HEND := Lib.hid (show res = 1 by rw [HE.out, HS.out, if_pos]; simp [g5])
          have d6 : decide (3 < x2) = true := by simp; omega
          clear HS HE g5
          go_wp2_with fail
          refine (HIS.out _).mono ?_
          rintro e w' ⟨rfl, rfl⟩
          go_wp2_with fail
          go_ret
          exact ⟨by rw [HEND.out]; rfl, HBN.out⟩
        have d6 : decide (3 < x2) = false := by simp; omega
        have HOK := Lib.hid (show res = if (decide (0 < k) && decide (x0 ≤ pv)) then 21 else rowsAt l (k + 1) by
          rw [HE.out, HS.out, if_neg]
          have h1 : ¬ x0 < 1 := by omega
          have h2 : ¬ 8 < x0 := by omega
          simp [h1, h2, d3, d4, d5, d6])
        clear HS HE g1 g2 g3 g4 g5
        by_cases hk0 : 0 < k
        · have hd0 := HPV.out hk0
          have dk : decide ((0 : Int) < (k : Int)) = true := by simp; omega
          have dk' : decide (0 < k) = true := by simp; omega
          have hsub : (k : Int) - 1 = ((k - 1 : Nat) : Int) := by omega
          have hkl : ((k - 1 : Nat) : Int) < (l.length : Int) := by omega
          have hkl0 : k - 1 < l.length := by omega
          rw [dk', Bool.true_and] at HOK
          clear HPV
          have hd1 : (wr.alloc (.cells #[.int .i64 x0, .int .i64 x1, .int .i64 x2] 54)).cell? ⟨b, o + (k - 1) * 3, none⟩ = some (.int .i64 pv) := by
            rw [World.cell?_alloc_lt _ _ _ (lt_of_cell hd0)]; exact hd0
          by_cases hpv : x0 ≤ pv
          · have dp : decide (x0 ≤ pv) = true := by simp; omega
            rw [dp] at HOK
            clear hpv
            go_wp2_with fail
            refine (HIS.out _).mono ?_
            rintro e w' ⟨rfl, rfl⟩
            go_wp2_with fail
            go_quiet (fail)
            go_wp2_with fail
            go_ret
            exact ⟨by rw [HOK.out]; rfl, below_drewN HBN.out _⟩
          · have dp : decide (x0 ≤ pv) = false := by simp; omega
            rw [dp] at HOK
            clear hpv
            go_wp2_with fail
            refine (HIS.out _).mono ?_
            rintro e w' ⟨rfl, rfl⟩
            go_wp2_with fail
            go_quiet (fail)
            go_wp2_with fail
            go_roundg (l.length - (k + 1))
            case measure => have := HK.out; omega
            case rel => exact ⟨k + 1, rfl, by omega, by go_num, HOK.out, below_drewN HBN.out _⟩
        · have dk : decide ((0 : Int) < (k : Int)) = false := by simp; omega
          have dk' : decide (0 < k) = false := by simp; omega
          rw [dk', Bool.false_and] at HOK
          clear HPV
          go_wp2_with fail
          refine (HIS.out _).mono ?_
          rintro e w' ⟨rfl, rfl⟩
          go_wp2_with fail
          go_quiet (fail)
          go_wp2_with fail
          go_roundg (l.length - (k + 1))
          case measure => have := HK.out; omega
          case rel => exact ⟨k + 1, rfl, by omega, by go_num, HOK.out, below_drewN HBN.out _⟩
      · obtain rfl : k = l.length := by omega
        go_wp2_with fail
        go_ret
        refine ⟨?_, hb⟩
        rw [HE.out]
        unfold rowsAt
        rw [List.drop_length, rowsF]
        rfl
end Go.Proofs.Ytaecgapoaagjfaa
