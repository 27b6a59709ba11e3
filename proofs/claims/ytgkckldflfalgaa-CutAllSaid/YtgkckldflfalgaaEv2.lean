
/-
  Histories: what the reference says (roadref4.History).
-/
import Derived.Test.YtgkckldflfalgaaEv1
import Derived.Outline
namespace Go.Proofs.Ytgkckldflfalgaa
open Go.RowKit

theorem within_any (n a b : Int) (w : World) :
    Calls Try.prog 13 #[.int .i64 n, .int .i64 a, .int .i64 b] w fun e w' => e = .returned (.bool (decide (a ≤ n ∧ n ≤ b))) ∧ w = w' := by
  by_cases h1 : a ≤ n
  · have e1 : decide (a ≤ n) = true := decide_eq_true (by omega)
    rw [show decide (a ≤ n ∧ n ≤ b) = decide (n ≤ b) by simp [h1]]
    go_enter Try.func13, Try.ntmps13
    go_wp2_with fail
    go_ret
    exact ⟨rfl, rfl⟩
  · have e1 : decide (a ≤ n) = false := decide_eq_false (by omega)
    rw [show decide (a ≤ n ∧ n ≤ b) = false by simp [h1]]
    clear h1
    go_enter Try.func13, Try.ntmps13
    go_wp2_with fail
    go_ret
    exact ⟨rfl, rfl⟩

def evIs (k m : Int) (x : Ev) : Bool := x.2.1 == k && x.2.2 == m
theorem evHas_is (l : List Ev) (k m : Int) : l.any (evIs k m) = evHas l k m := rfl

set_option maxHeartbeats 400000 in
theorem h11_any (x : Ev) (k m : Int) (gk ge : Nat) (w : World) (hk : w.cell? ⟨gk, 0, none⟩ = some (.int .i64 k)) (hm : w.cell? ⟨ge, 2, none⟩ = some (.int .i64 m)) :
    Calls Try.prog 12 #[evV x, .pointer (some ⟨gk, 0, none⟩), .pointer (some ⟨ge, 0, none⟩)] w fun e w' => e = .returned (.bool (evIs k m x)) ∧ Below w.heap.size w w' := by
  obtain ⟨x1, x2, x3⟩ := x
  have hk1 := lt_of_cell hk
  have hm1 := lt_of_cell hm
  dsimp only at hk1 hm1
  unfold evV
  dsimp only
  cases hx : (x2 == k) with
  | true =>
    have HI := Lib.hid (show evIs k m (x1, x2, x3) = (x3 == m) by simp only [evIs, hx, Bool.true_and])
    generalize evIs k m (x1, x2, x3) = r at *
    go_enter Try.func12, Try.ntmps12
    go_wp2_with fail
    go_ret
    exact ⟨by rw [HI.out]; rfl, (Below.refl _ _).alloc (Nat.le_refl _) _⟩
  | false =>
    have HI := Lib.hid (show evIs k m (x1, x2, x3) = false by simp only [evIs, hx, Bool.false_and])
    generalize evIs k m (x1, x2, x3) = r at *
    go_enter Try.func12, Try.ntmps12
    go_wp2_with fail
    go_ret
    exact ⟨by rw [HI.out]; rfl, (Below.refl _ _).alloc (Nat.le_refl _) _⟩

theorem enters_h11 : Enters 12 := fun _ _ => by kernel_rfl
theorem enters_h1 : Enters 10 := fun _ _ => by kernel_rfl

set_option maxHeartbeats 400000 in
theorem h1_any (k m : Int) (A : Option Addr) (c i : Nat) (l : List Ev) (gl gi ge : Nat) (w : World) (hr : Row w w.heap.size A (flat evC l)) (hlm : l.length ≤ maxLen) (hi : i ≤ l.length) (hlc : l.length ≤ c)
    (hl : w.cell? ⟨gl, 0, none⟩ = some (.slice A l.length c)) (hgi : w.cell? ⟨gi, 0, none⟩ = some (.int .i64 i)) (hm : w.cell? ⟨ge, 2, none⟩ = some (.int .i64 m)) :
    Calls Try.prog 10 #[.int .i64 k, .pointer (some ⟨gl, 0, none⟩), .pointer (some ⟨gi, 0, none⟩), .pointer (some ⟨ge, 0, none⟩)] w fun e w' => e = .returned (.bool (evHas (l.take i) k m)) ∧ Below w.heap.size w w' := by
  have hal : Below w.heap.size w (w.alloc (.cells #[.int .i64 k] 3)) := (Below.refl _ _).alloc (Nat.le_refl _) _
  have hc : (w.alloc (.cells #[.int .i64 k] 3)).cell? ⟨w.heap.size, 0, none⟩ = some (.int .i64 k) := (Box.new _ _ _).cell 0
  have hge : ge < w.heap.size := lt_of_cell hm
  have hgl : gl < w.heap.size := lt_of_cell hl
  have hgi1 : gi < w.heap.size := lt_of_cell hgi
  have hlen : (l.take i).length = i := by simp; omega
  have hx := containsFunc_ev A c (l.take i) 12 #[.pointer (some ⟨w.heap.size, 0, none⟩), .pointer (some ⟨ge, 0, none⟩)] (evIs k m) w.heap.size (fun u => Below (w.heap.size + 1) (w.alloc (.cells #[.int .i64 k] 3)) u) (w.alloc (.cells #[.int .i64 k] 3)) enters_h11 (by omega)
    (fun u hu => ((hr.below hal).below (hu.mono (by omega))).takeF evC_len i)
    (fun x _ u hu => (h11_any x k m w.heap.size ge u ((hu.cell (p := ⟨w.heap.size, 0, none⟩) (by simp)).trans hc) ((hu.cell (p := ⟨ge, 2, none⟩) (by simp; omega)).trans ((hal.cell (p := ⟨ge, 2, none⟩) hge).trans hm))).mono fun e w' ⟨h1, h2⟩ => ⟨h1, hu.trans (h2.mono (by have := hu.size; simp at this; omega))⟩) (Below.refl _ _)
  rw [hlen, evHas_is] at hx
  have HX := Lib.hid hx
  have HB := Lib.hid (fun u (hu : Below (w.heap.size + 1) (w.alloc (.cells #[.int .i64 k] 3)) u) => hal.trans (hu.mono (by simp)))
  unfold maxLen at hlm
  clear hx hal hc hr hlen
  generalize evHas (l.take i) k m = r at *
  go_enter Try.func10, Try.ntmps10
  go_wp2_with fail
  refine HX.out.mono ?_
  rintro e w1 ⟨rfl, hw1⟩
  go_wp2_with fail
  go_ret
  exact ⟨rfl, HB.out w1 hw1⟩

set_option maxRecDepth 100000 in
set_option maxHeartbeats 4000000 in
theorem historyE_any (A : Option Addr) (c : Nat) (l : List Ev) (W : World) (hr : Row W W.heap.size A (flat evC l)) (hlc : l.length ≤ c) (hcm : c ≤ maxLen) :
    Calls Try.prog 6 #[.slice A l.length c] W fun e w' => e = .returned (.int .i64 (history l)) ∧ Below W.heap.size W w' := by
  have hlm : l.length ≤ maxLen := by omega
  have HLM := Lib.hid hlm
  have HLC := Lib.hid hlc
  unfold maxLen at hlm
  unfold history
  by_cases h200 : 200 < l.length
  · rw [if_pos h200]
    have d1 : decide ((200 : Int) < (l.length : Int)) = true := decide_eq_true (by omega)
    have d1' : decide (200 < l.length) = true := decide_eq_true h200
    clear hcm hlc
    go_enter Try.func6, Try.ntmps6
    go_wp2_with fail
    go_ret
    exact ⟨rfl, (Below.refl _ _).alloc (Nat.le_refl _) _⟩
  rw [if_neg h200]
  have d1 : decide ((200 : Int) < (l.length : Int)) = false := decide_eq_false (by omega)
  have d1' : decide (200 < l.length) = false := decide_eq_false h200
  generalize hres : histF [] l = res
  have HRES := Lib.hid hres
  have HR := Lib.hid hr
  have hal : Below W.heap.size W (W.alloc (.cells #[.slice A l.length c] 22)) := (Below.refl _ _).alloc (Nat.le_refl _) _
  have hcl : (W.alloc (.cells #[.slice A l.length c] 22)).cell? ⟨W.heap.size, 0, none⟩ = some (.slice A l.length c) := (Box.new _ _ _).cell 0
  have HAL := Lib.hid hal
  have HCL := Lib.hid hcl
  have HEND := Lib.hid (fun u (hu : Below (W.heap.size + 1) (W.alloc (.cells #[.slice A l.length c] 22)) u) => hal.trans (hu.mono (by simp)))
  have HROW := Lib.hid (fun u (hu : Below (W.heap.size + 1) (W.alloc (.cells #[.slice A l.length c] 22)) u) => (hr.below hal).below (hu.mono (by omega)))
  have HCELL := Lib.hid (fun u (hu : Below (W.heap.size + 1) (W.alloc (.cells #[.slice A l.length c] 22)) u) => (hu.cell (p := ⟨W.heap.size, 0, none⟩) (by simp)).trans hcl)
  have hsz1 : (W.alloc (.cells #[.slice A l.length c] 22)).heap.size = W.heap.size + 1 := by simp
  have HSZ := Lib.hid hsz1
  clear hres hr hal hcl hlc hcm hsz1
  go_enter Try.func6, Try.ntmps6
  go_wp2_with fail
  generalize W.alloc (.cells #[.slice A l.length c] 22) = W1 at *
  go_loopg [11] l.length (fun gk i wr => ∃ (k : Nat), gk = l.length - k ∧ k ≤ l.length ∧ i = .int .i64 k ∧ res = histF (l.take k) (l.drop k) ∧ Below (W.heap.size + 1) W1 wr)
  case atStart => exact ⟨0, by omega, by omega, rfl, HRES.out.symm, Below.refl _ _⟩
  case round =>
    obtain ⟨k, hgk, hk, rfl, hR, hb⟩ := hrel
    have HK := Lib.hid hgk
    have HRR := Lib.hid hR
    have HB := Lib.hid hb
    have hszr : W.heap.size + 1 ≤ wr.heap.size := by have := hb.size; have := HSZ.out; omega
    clear hgk hR hb
    by_cases hlt : k < l.length
    · obtain ⟨b, o, hA, hbl, hc0, hc1, hc2⟩ := (HROW.out wr HB.out).ev hlt (0, 0, 0)
      subst hA
      have HTK := Lib.hid (take_getD l (0, 0, 0) hlt)
      have HD := Lib.hid (show res = histF (l.take k) (l.getD k (0, 0, 0) :: l.drop (k + 1)) by rw [HRR.out, drop_getD l (0, 0, 0) hlt])
      generalize l.getD k (0, 0, 0) = x at *
      obtain ⟨pl, kd, mg⟩ := x
      dsimp only at hc0 hc1 hc2
      go_wp2_with fail
      have hbx1 : Box ((wr.alloc (.cells #[.int .i64 (k : Int)] 3)).alloc (.cells #[.int .i64 pl, .int .i64 kd, .int .i64 mg] 41)) wr.heap.size 3 #[.int .i64 (k : Int)] := (Box.new _ _ _).alloc _
      have hbx2 : Box ((wr.alloc (.cells #[.int .i64 (k : Int)] 3)).alloc (.cells #[.int .i64 pl, .int .i64 kd, .int .i64 mg] 41)) (wr.heap.size + 1) 41 #[.int .i64 pl, .int .i64 kd, .int .i64 mg] := by
        have := Box.new (wr.alloc (.cells #[.int .i64 (k : Int)] 3)) 41 #[.int .i64 pl, .int .i64 kd, .int .i64 mg]
        rw [show (wr.alloc (.cells #[.int .i64 (k : Int)] 3)).heap.size = wr.heap.size + 1 by simp] at this
        exact this
      have hb2 : Below (W.heap.size + 1) W1 ((wr.alloc (.cells #[.int .i64 (k : Int)] 3)).alloc (.cells #[.int .i64 pl, .int .i64 kd, .int .i64 mg] 41)) := (HB.out.alloc hszr _).alloc (by simp; omega) _
      have hs2 : wr.heap.size + 2 = ((wr.alloc (.cells #[.int .i64 (k : Int)] 3)).alloc (.cells #[.int .i64 pl, .int .i64 kd, .int .i64 mg] 41)).heap.size := by simp
      generalize (wr.alloc (.cells #[.int .i64 (k : Int)] 3)).alloc (.cells #[.int .i64 pl, .int .i64 kd, .int .i64 mg] 41) = w2 at *
      have hcl := HCELL.out w2 hb2
      have hci := hbx1.cell 0
      have hce0 := hbx2.cell 0
      have hce1 := hbx2.cell 1
      have hce2 := hbx2.cell 2
      have HB2 := Lib.hid hb2
      have hszw : W.heap.size + 1 ≤ w2.heap.size := by omega
      have H1 := Lib.hid (fun q => h1_any q mg (some ⟨b, o, none⟩) c k l W.heap.size wr.heap.size (wr.heap.size + 1) w2 ((HROW.out w2 hb2).more (by omega)) HLM.out (by omega) HLC.out hcl (hci.trans rfl) (hce2.trans rfl))
      clear hs2 hbx1 hbx2 hb2 hc0 hc1 hc2
      refine (within_any _ _ _ _).mono ?_
      rintro e w' ⟨rfl, rfl⟩
      by_cases hform : evForm (pl, kd, mg)
      · have HE := Lib.hid (show res = 3 by rw [HD.out, histF, if_pos hform])
        unfold evForm at hform
        dsimp only at hform
        rw [show decide (1 ≤ kd ∧ kd ≤ 3) = false from decide_eq_false (by omega)]
        clear hform
        go_wp2_with fail
        go_ret
        exact ⟨by rw [HE.out]; rfl, HEND.out _ HB2.out⟩
      have hk1 : 1 ≤ kd ∧ kd ≤ 3 := by unfold evForm at hform; dsimp only at hform; omega
      rw [show decide (1 ≤ kd ∧ kd ≤ 3) = true from decide_eq_true hk1]
      have HD2 := Lib.hid (show res = if evArg (pl, kd, mg) then 1 else if kd = 2 ∧ evHas (l.take k) 2 mg = true then 5 else if kd = 3 ∧ evHas (l.take k) 2 mg = false then 4 else if kd = 3 ∧ evHas (l.take k) 3 mg = true then 5 else histF (l.take k ++ [(pl, kd, mg)]) (l.drop (k + 1)) by rw [HD.out, histF, if_neg hform])
      clear hform
      go_wp2_with fail
      refine (within_any _ _ _ _).mono ?_
      rintro e w' ⟨rfl, rfl⟩
      by_cases hpl : 0 ≤ pl ∧ pl ≤ 7
      case neg =>
        have HE := Lib.hid (show res = 1 by rw [HD2.out, if_pos (by unfold evArg; dsimp only; omega)])
        rw [show decide (0 ≤ pl ∧ pl ≤ 7) = false from decide_eq_false hpl]
        clear hpl
        go_wp2_with fail
        go_ret
        exact ⟨by rw [HE.out]; rfl, HEND.out _ HB2.out⟩
      rw [show decide (0 ≤ pl ∧ pl ≤ 7) = true from decide_eq_true hpl]
      have HPL := Lib.hid hpl
      clear hpl
      by_cases k1 : kd = 1
      · subst k1
        have HE := Lib.hid (show res = histF (l.take (k + 1)) (l.drop (k + 1)) by rw [HD2.out, if_neg (by have := HPL.out; unfold evArg; dsimp only; omega), if_neg (fun h => by cases h.1), if_neg (fun h => by cases h.1), if_neg (fun h => by cases h.1), HTK.out])
        go_wp2_with fail
        go_roundg (l.length - (k + 1))
        case measure => have := HK.out; omega
        case rel => exact ⟨k + 1, rfl, by omega, by go_num, HE.out, HB2.out⟩
      have q1 : decide (1 < kd) = true := decide_eq_true (by omega)
      go_wp2_with fail
      refine (within_any _ _ _ _).mono ?_
      rintro e w' ⟨rfl, rfl⟩
      by_cases hmg : 0 ≤ mg ∧ mg ≤ 999
      case neg =>
        have HE := Lib.hid (show res = 1 by rw [HD2.out, if_pos (by unfold evArg; dsimp only; omega)])
        rw [show decide (0 ≤ mg ∧ mg ≤ 999) = false from decide_eq_false hmg]
        clear hmg
        go_wp2_with fail
        go_ret
        exact ⟨by rw [HE.out]; rfl, HEND.out _ HB2.out⟩
      rw [show decide (0 ≤ mg ∧ mg ≤ 999) = true from decide_eq_true hmg]
      have HD3 := Lib.hid (show res = if kd = 2 ∧ evHas (l.take k) 2 mg = true then 5 else if kd = 3 ∧ evHas (l.take k) 2 mg = false then 4 else if kd = 3 ∧ evHas (l.take k) 3 mg = true then 5 else histF (l.take k ++ [(pl, kd, mg)]) (l.drop (k + 1)) by rw [HD2.out, if_neg (by have := HPL.out; unfold evArg; dsimp only; omega)])
      clear HD HD2 hmg HPL
      by_cases k2 : kd = 2
      · subst k2
        go_wp2_with fail
        refine (H1.out 2).mono ?_
        rintro e w3 ⟨rfl, hb3⟩
        have hb4 := HB2.out.trans (hb3.mono (by omega))
        have hce1' := (hb3.cell (p := ⟨wr.heap.size + 1, 1, none⟩) (lt_of_cell hce1)).trans hce1
        have HB4 := Lib.hid hb4
        clear hb3 hb4
        cases hseen : evHas (l.take k) 2 mg with
        | true =>
          have HE := Lib.hid (show res = 5 by rw [HD3.out]; simp [hseen])
          clear hseen
          go_wp2_with fail
          go_ret
          exact ⟨by rw [HE.out]; rfl, HEND.out _ HB4.out⟩
        | false =>
          have HE := Lib.hid (show res = histF (l.take (k + 1)) (l.drop (k + 1)) by rw [HD3.out]; simp [hseen, HTK.out])
          clear hseen
          go_wp2_with fail
          go_roundg (l.length - (k + 1))
          case measure => have := HK.out; omega
          case rel => exact ⟨k + 1, rfl, by omega, by go_num, HE.out, HB4.out⟩
      · obtain rfl : kd = 3 := by omega
        go_wp2_with fail
        refine (H1.out 2).mono ?_
        rintro e w3 ⟨rfl, hb3⟩
        have hb4 := HB2.out.trans (hb3.mono (by omega))
        have hs3 := hb3.size
        have hce1' := (hb3.cell (p := ⟨wr.heap.size + 1, 1, none⟩) (lt_of_cell hce1)).trans hce1
        have hcl' := (hb3.cell (p := ⟨W.heap.size, 0, none⟩) (lt_of_cell hcl)).trans hcl
        have hci' := (hb3.cell (p := ⟨wr.heap.size, 0, none⟩) (lt_of_cell hci)).trans hci
        have hce2' := (hb3.cell (p := ⟨wr.heap.size + 1, 2, none⟩) (lt_of_cell hce2)).trans hce2
        have H2 := Lib.hid (h1_any 3 mg (some ⟨b, o, none⟩) c k l W.heap.size wr.heap.size (wr.heap.size + 1) w3 ((HROW.out w3 hb4).more (by omega)) HLM.out (by omega) HLC.out hcl' (hci'.trans rfl) (hce2'.trans rfl))
        have HB4 := Lib.hid hb4
        clear hb3 hb4 hcl' hci' hce2'
        cases hseen : evHas (l.take k) 2 mg with
        | false =>
          have HE := Lib.hid (show res = 4 by rw [HD3.out]; simp [hseen])
          clear hseen
          go_wp2_with fail
          go_ret
          exact ⟨by rw [HE.out]; rfl, HEND.out _ HB4.out⟩
        | true =>
          have HD4 := Lib.hid (show res = if evHas (l.take k) 3 mg = true then 5 else histF (l.take (k + 1)) (l.drop (k + 1)) by rw [HD3.out]; simp [hseen, HTK.out])
          clear hseen
          go_wp2_with fail
          refine H2.out.mono ?_
          rintro e w5 ⟨rfl, hb5⟩
          have HB6 := Lib.hid (HB4.out.trans (hb5.mono (by omega)))
          clear hb5
          cases ht : evHas (l.take k) 3 mg with
          | true =>
            have HE := Lib.hid (show res = 5 by rw [HD4.out, if_pos ht])
            clear ht
            go_wp2_with fail
            go_ret
            exact ⟨by rw [HE.out]; rfl, HEND.out _ HB6.out⟩
          | false =>
            have HE := Lib.hid (show res = histF (l.take (k + 1)) (l.drop (k + 1)) by rw [HD4.out, if_neg (by rw [ht]; decide)])
            clear ht
            go_wp2_with fail
            go_roundg (l.length - (k + 1))
            case measure => have := HK.out; omega
            case rel => exact ⟨k + 1, rfl, by omega, by go_num, HE.out, HB6.out⟩
    · have HE := Lib.hid (show res = 0 by rw [HRR.out, List.drop_of_length_le (by omega)]; rfl)
      go_wp2_with fail
      go_ret
      exact ⟨by rw [HE.out]; rfl, HEND.out wr HB.out⟩
end Go.Proofs.Ytgkckldflfalgaa
