/-
  Operator: where a name stands among the nine.
-/
import Derived.Test.YtlnjapbpfhcloaaIn1
namespace Go.Proofs.Ytlnjapbpfhcloaa
open Go.RowKit

def strs (l : List ByteArray) : List Value := l.map .string
theorem strs_len (l : List ByteArray) : (strs l).length = l.length := by simp [strs]
def nameIx : List ByteArray → ByteArray → Int → Int
  | [], _, _ => -1
  | x :: r, y, k => if y = x then k else nameIx r y (k + 1)
def idxS (l : List ByteArray) (y : ByteArray) : Int := nameIx l y 0
theorem nameIx_ge : ∀ (l : List ByteArray) (y : ByteArray) (k : Int), 0 ≤ k → nameIx l y k = -1 ∨ 0 ≤ nameIx l y k
  | [], _, _, _ => .inl rfl
  | x :: r, y, k, h => by
    simp only [nameIx]
    split
    · exact .inr h
    · exact nameIx_ge r y (k + 1) (by omega)
theorem nameIx_drop (l : List ByteArray) (y : ByteArray) (z : Int) {k : Nat} (h : k < l.length) : nameIx (l.drop k) y z = if y = l.getD k ⟨#[]⟩ then z else nameIx (l.drop (k + 1)) y (z + 1) := by
  rw [List.drop_eq_getElem_cons h, List.getD_eq_getElem?_getD, List.getElem?_eq_getElem h]
  rfl

set_option maxRecDepth 100000 in
set_option maxHeartbeats 1000000 in
theorem index_str (A : Option Addr) (c : Nat) (l : List ByteArray) (y : ByteArray) (B : Nat) (w : World) (hr : Row w B A (strs l)) (hl : l.length ≤ 100) :
    Calls Try.prog 11 #[.slice A l.length c, .string y] w fun e w' => e = .returned (.int .i64 (idxS l y)) ∧ w = w' := by
  have HR := Lib.hid hr
  clear hr
  generalize hres : idxS l y = res
  have HRES := Lib.hid hres
  clear hres
  go_enter Try.func11, Try.ntmps11
  go_wp2_with fail
  go_loopg [8] l.length (fun gk i wr => ∃ k : Nat, gk = l.length - k ∧ k ≤ l.length ∧ i = .int .i64 k ∧ res = nameIx (l.drop k) y k ∧ w = wr)
  case atStart => exact ⟨0, rfl, Nat.zero_le _, rfl, HRES.out.symm, rfl⟩
  case round =>
    obtain ⟨k, hgk, hk, rfl, hR, rfl⟩ := hrel
    have HK := Lib.hid hgk
    have HRR := Lib.hid hR
    clear hgk hR
    by_cases hlt : k < l.length
    · obtain ⟨b, o, rfl, _, hc⟩ := HR.out (by rw [strs_len]; omega)
      have c0 := hc k (.string (l.getD k ⟨#[]⟩)) (by simp [strs, List.getD_eq_getElem?_getD, List.getElem?_eq_getElem hlt])
      have HD := Lib.hid (nameIx_drop l y k hlt)
      generalize l.getD k ⟨#[]⟩ = x at *
      have hk1 : (k : Int) < (l.length : Int) := by omega
      clear hc
      by_cases hxy : y = x
      · subst hxy
        have HE := Lib.hid (show res = (k : Int) by rw [HRR.out, HD.out, if_pos rfl])
        go_wp2_with fail
        go_ret
        exact ⟨by rw [HE.out]; rfl, rfl⟩
      · have b1 : (y.toList == x.toList) = false := by
          rw [beq_eq_false_iff_ne]
          intro e
          rw [ByteArray.toList_eq, ByteArray.toList_eq] at e
          exact hxy (ByteArray.ext (Array.toList_inj.1 e))
        have HE := Lib.hid (show res = nameIx (l.drop (k + 1)) y ((k + 1 : Nat) : Int) by rw [HRR.out, HD.out, if_neg hxy]; rfl)
        go_wp2_with fail
        go_roundg (l.length - (k + 1))
        case measure => have := HK.out; omega
        case rel => exact ⟨k + 1, rfl, by omega, by go_num, HE.out, rfl⟩
    · have HE := Lib.hid (show res = -1 by rw [HRR.out, List.drop_of_length_le (by omega)]; rfl)
      go_wp2_with fail
      go_ret
      exact ⟨by rw [HE.out]; rfl, rfl⟩

def namesL : List ByteArray := [⟨#[43]⟩, ⟨#[45]⟩, ⟨#[42]⟩, ⟨#[47]⟩, ⟨#[37]⟩, ⟨#[60]⟩, ⟨#[61]⟩, ⟨#[94]⟩, ⟨#[110, 111, 116]⟩]
theorem names_any (w : World) : Calls Try.prog 72 #[] w fun e w' => e = .returned (.slice (some ⟨w.heap.size, 0, none⟩) 9 9) ∧ w' = w.alloc (.cells (strs namesL).toArray 9) := by
  go_enter Try.func72, Try.ntmps72
  go_wp2_with fail
  go_ret
  exact ⟨rfl, rfl⟩
theorem strs_new (w : World) (l : List ByteArray) : Row (w.alloc (.cells (strs l).toArray 9)) (w.heap.size + 1) (some ⟨w.heap.size, 0, none⟩) (strs l) := fun _ =>
  ⟨w.heap.size, 0, rfl, Nat.lt_succ_self _, fun i v hv => by rw [Nat.zero_add, (Box.new w 9 (strs l).toArray).cell i, ← hv]; simp⟩
theorem index_names (w : World) (y : ByteArray) : Calls Try.prog 11 #[.slice (some ⟨w.heap.size, 0, none⟩) 9 9, .string y] (w.alloc (.cells (strs namesL).toArray 9)) fun e w' => e = .returned (.int .i64 (idxS namesL y)) ∧ w.alloc (.cells (strs namesL).toArray 9) = w' :=
  index_str (some ⟨w.heap.size, 0, none⟩) 9 namesL y _ _ (strs_new w namesL) (by decide)

def opE (y : ByteArray) : Int := if idxS namesL y < 0 then 4 else 0
def opV (y : ByteArray) : Int := if idxS namesL y < 0 then 0 else idxS namesL y
set_option maxRecDepth 100000 in
set_option maxHeartbeats 1000000 in
theorem operator_any (y : ByteArray) (w : World) : Calls Try.prog 10 #[.string y] w fun e w' => e = .returned (.tuple #[.int .i64 (opV y), .int .i64 (opE y)]) ∧ Below w.heap.size w w' := by
  have HN := Lib.hid (names_any w)
  have HI := Lib.hid (index_names w y)
  unfold opV opE
  have HB := Lib.hid ((Below.refl w.heap.size w).alloc (Nat.le_refl _) (.cells (strs namesL).toArray 9))
  generalize idxS namesL y = k at *
  by_cases h : k < 0
  · rw [if_pos h, if_pos h]
    have d1 : decide (0 ≤ k) = false := by simp; omega
    clear h
    go_enter Try.func10, Try.ntmps10
    go_wp2_with fail
    refine HN.out.mono ?_
    rintro e w1 ⟨rfl, rfl⟩
    go_wp2_with fail
    refine HI.out.mono ?_
    rintro e w1 ⟨rfl, rfl⟩
    go_wp2_with fail
    go_ret2
    exact ⟨rfl, HB.out⟩
  · rw [if_neg h, if_neg h]
    have d1 : decide (0 ≤ k) = true := by simp; omega
    clear h
    go_enter Try.func10, Try.ntmps10
    go_wp2_with fail
    refine HN.out.mono ?_
    rintro e w1 ⟨rfl, rfl⟩
    go_wp2_with fail
    refine HI.out.mono ?_
    rintro e w1 ⟨rfl, rfl⟩
    go_wp2_with fail
    go_ret2
    exact ⟨rfl, HB.out⟩
end Go.Proofs.Ytlnjapbpfhcloaa
