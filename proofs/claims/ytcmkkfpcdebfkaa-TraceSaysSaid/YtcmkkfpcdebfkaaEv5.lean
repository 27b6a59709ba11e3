/-
  Histories: clocks and numbers of the reference (roadref4.Clock, Number).
-/
import Derived.Test.YtcmkkfpcdebfkaaEv3
import Derived.Test.YtcmkkfpcdebfkaaHistVec
namespace Go.Proofs.Ytcmkkfpcdebfkaa
open Go.RowKit

open Classical in
theorem upto_iff_b {l : List Ev} {x k : Nat} : Upto l x k ↔ (k = x ∨ befB l x k = true) := by
  unfold Upto befB
  rw [decide_eq_true_eq]
theorem ints_cell {w : World} {g : Nat} {t : TypeId} {xs : List Int} (h : Box w g t (ints xs).toArray) {i : Nat} (hi : i < xs.length) : w.cell? ⟨g, i, none⟩ = some (.int .i64 (xs.getD i 0)) := by
  rw [h.cell, List.getElem?_toArray]
  simp [ints, hi, List.getD_eq_getElem?_getD]
theorem row_of_ints {w : World} {g : Nat} {t : TypeId} {xs : List Int} (h : Box w g t (ints xs).toArray) : Row w w.heap.size (some ⟨g, 0, none⟩) (ints xs) := fun _ =>
  ⟨g, 0, rfl, h.lt, fun i v hv => by rw [Nat.zero_add, h.cell, List.getElem?_toArray]; exact hv⟩
theorem ints_set {xs : List Int} {i : Nat} {v : Int} : (ints xs).toArray.setIfInBounds i (.int .i64 v) = (ints (xs.set i v)).toArray := by
  rw [List.setIfInBounds_toArray]
  unfold ints
  rw [List.map_set]
theorem Box.int {w : World} {g : Nat} {t : TypeId} {xs : List Int} (h : Box w g t (ints xs).toArray) {i : Nat} (v : Int) : Box (w.setCell ⟨g, i, none⟩ (.int .i64 v)) g t (ints (xs.set i v)).toArray := by
  have := h.set i (.int .i64 v)
  rwa [ints_set] at this

set_option maxRecDepth 100000 in
set_option maxHeartbeats 4000000 in
theorem clockR_any (A : Option Addr) (c gp x : Nat) (l : List Ev) (W : World) (hr : Row W W.heap.size A (flat evC l)) (hl200 : l.length ≤ 200) (hpl : ∀ j, j < l.length → 0 ≤ (evAt l j).1 ∧ (evAt l j).1 < 8)
    (hgp : gp < W.heap.size) (hp : ∀ j, j < l.length → W.cell? ⟨gp, j, none⟩ = some (.bool (befB l x j))) :
    Calls Try.prog 75 #[.slice A l.length c, .slice (some ⟨gp, 0, none⟩) l.length l.length, .int .i64 (x : Int)] W fun e w' =>
      ∃ g, e = .returned (.slice (some ⟨g, 0, none⟩) 8 8) ∧ Row w' w'.heap.size (some ⟨g, 0, none⟩) (ints (vec l (Upto l x) l.length)) ∧ Below W.heap.size W w' := by
  have hmk : ∀ w, (Instr.makeSlice 33 (.int .i64 8) (.int .i64 8)).run Try.prog w = .ok (.slice (some ⟨w.heap.size, 0, none⟩) 8 8) (w.alloc (.cells (ints (zerosI 8)).toArray 3)) := fun w => make_ints 8 (by omega) w
  have HR := Lib.hid hr
  have HP := Lib.hid hp
  have HPL := Lib.hid hpl
  have HB0 := Lib.hid (Box.new W 3 (ints (zerosI 8)).toArray)
  have HAL := Lib.hid (show Below W.heap.size W (W.alloc (.cells (ints (zerosI 8)).toArray 3)) from (Below.refl _ _).alloc (Nat.le_refl _) _)
  clear hr hp hpl
  go_enter Try.func75, Try.ntmps75
  go_wp2_with fail
  clear hmk
  generalize W.alloc (.cells (ints (zerosI 8)).toArray 3) = W1 at *
  go_loopg [13] l.length (fun gk v wr => ∃ (k : Nat), gk = l.length - k ∧ k ≤ l.length ∧ v = .int .i64 k ∧ Box wr W.heap.size 3 (ints (vec l (Upto l x) k)).toArray ∧ Below W.heap.size W wr)
  case atStart => exact ⟨0, by omega, by omega, rfl, (by rw [vec_zero]; exact HB0.out), HAL.out⟩
  case round =>
    clear HB0 HAL
    obtain ⟨k, hgk, hk, rfl, hbx, hb⟩ := hrel
    have HK := Lib.hid hgk
    clear hgk
    by_cases hlt : k < l.length
    · obtain ⟨b, o, hA, hbl, hc0, hc1, hc2⟩ := (HR.out.below hb).ev hlt (0, 0, 0)
      have hq := HPL.out k hlt
      have HE := Lib.hid (show evAt l k = l.getD k (0, 0, 0) from rfl)
      rw [HE.out] at hq
      generalize l.getD k (0, 0, 0) = y at *
      obtain ⟨ep, ek, em⟩ := y
      dsimp only at hc0 hc1 hc2 hq
      obtain ⟨p, rfl⟩ : ∃ p : Nat, ep = (p : Int) := ⟨ep.toNat, by omega⟩
      subst hA
      have hp8 : p < 8 := by omega
      have hpc := (hb.cell (p := ⟨gp, k, none⟩) hgp).trans (HP.out k hlt)
      have hvc := ints_cell hbx (i := p) (by rw [vec_len]; exact hp8)
      rw [vec_getD hp8] at hvc
      have hcle := cnt_le (l := l) (S := Upto l x) (q := (p : Int)) (n := k)
      have HYES := Lib.hid (fun hs => vec_yes (l := l) (S := Upto l x) (n := k) hp8 (by rw [HE.out]) hs)
      have HNO := Lib.hid (fun hs => vec_no (l := l) (S := Upto l x) (n := k) hs)
      have hvf := hbx.frozen p
      have hlta := hbx.lt
      have hgpr : gp < wr.heap.size := lt_of_cell hpc
      have HBX := Lib.hid hbx
      have HB := Lib.hid hb
      have HUP := Lib.hid (upto_iff_b (l := l) (x := x) (k := k))
      generalize hcv : cnt l (Upto l x) (p : Int) k = v at *
      have hv200 : (v : Int) ≤ 200 := by omega
      have hv0 : 0 ≤ (v : Int) := by omega
      generalize hbb : befB l x k = bb at *
      have HBB := Lib.hid hbb
      clear hbb hbx hb hcv hcle hq
      by_cases hkx : k = x
      case pos =>
        have d1 : ((k : Int) == (x : Int)) = true := by rw [beq_iff_eq]; omega
        have d2 : (k == x) = true := by rw [beq_iff_eq]; omega
        have HEQ := Lib.hid (HYES.out (HUP.out.2 (.inl hkx)))
        clear hkx
        go_wp2_with fail
        go_roundg (l.length - (k + 1))
        case measure => have := HK.out; omega
        case rel =>
          refine ⟨k + 1, rfl, by omega, by go_num, ?_, ?_⟩
          · rw [← HEQ.out]
            exact (HBX.out.int (i := p) _).alloc _
          · exact (HB.out.setCell (Nat.le_refl _) _).alloc (by have := HB.out.size; simpa [World.setCell] using this) _
      case neg =>
        have d1 : ((k : Int) == (x : Int)) = false := by rw [beq_eq_false_iff_ne]; omega
        have d2 : (k == x) = false := by rw [beq_eq_false_iff_ne]; omega
        cases bb with
        | true =>
          have HEQ := Lib.hid (HYES.out (HUP.out.2 (.inr rfl)))
          clear hkx
          go_wp2_with fail
          go_roundg (l.length - (k + 1))
          case measure => have := HK.out; omega
          case rel =>
            refine ⟨k + 1, rfl, by omega, by go_num, ?_, ?_⟩
            · rw [← HEQ.out]
              exact (HBX.out.int (i := p) _).alloc _
            · exact (HB.out.setCell (Nat.le_refl _) _).alloc (by have := HB.out.size; simpa [World.setCell] using this) _
        | false =>
          have HEQ := Lib.hid (HNO.out (fun h => by rcases HUP.out.1 h with h | h; exact hkx h; cases h))
          clear hkx
          go_wp2_with fail
          go_roundg (l.length - (k + 1))
          case measure => have := HK.out; omega
          case rel =>
            refine ⟨k + 1, rfl, by omega, by go_num, ?_, ?_⟩
            · rw [HEQ.out]
              exact HBX.out.alloc _
            · exact HB.out.alloc HB.out.size _
    · obtain rfl : k = l.length := by omega
      have HBX := Lib.hid hbx
      have HB := Lib.hid hb
      clear hbx hb
      go_wp2_with fail
      go_ret
      exact ⟨W.heap.size, rfl, row_of_ints HBX.out, HB.out⟩
end Go.Proofs.Ytcmkkfpcdebfkaa
