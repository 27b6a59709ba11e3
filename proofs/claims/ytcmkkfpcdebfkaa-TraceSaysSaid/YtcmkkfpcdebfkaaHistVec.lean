/-
  Histories in plain Lean: clocks as lists of eight counts.
-/
import Derived.Test.YtcmkkfpcdebfkaaHistDef
namespace Go.Proofs.Ytcmkkfpcdebfkaa

/-- Of each place, how many events of S there are among the first n. -/
noncomputable def vec (l : List Ev) (S : Nat → Prop) (n : Nat) : List Int := (List.range 8).map fun q : Nat => ((cnt l S (q : Int) n : Nat) : Int)
section
variable {l : List Ev} {S T : Nat → Prop} {n : Nat}
theorem vec_len : (vec l S n).length = 8 := by simp [vec]
theorem vec_get {q : Nat} (hq : q < 8) : (vec l S n)[q]? = some ((cnt l S (q : Int) n : Nat) : Int) := by
  unfold vec
  rw [List.getElem?_map, List.getElem?_range hq]
  rfl
theorem vec_getD {q : Nat} (hq : q < 8) : (vec l S n).getD q 0 = ((cnt l S (q : Int) n : Nat) : Int) := by
  rw [List.getD_eq_getElem?_getD, vec_get hq]
  rfl
theorem vec_congr (h : ∀ q : Nat, q < 8 → cnt l S (q : Int) n = cnt l T (q : Int) n) : vec l S n = vec l T n := by
  unfold vec
  apply List.map_congr_left
  intro q hq
  rw [h q (by simpa using hq)]
theorem vec_ext {xs : List Int} (hl : xs.length = 8) (h : ∀ q : Nat, q < 8 → xs.getD q 0 = ((cnt l S (q : Int) n : Nat) : Int)) : xs = vec l S n := by
  apply List.ext_getElem?
  intro q
  by_cases hq : q < 8
  · rw [vec_get hq, ← h q hq, List.getD_eq_getElem?_getD, List.getElem?_eq_getElem (by omega)]
    rfl
  · rw [List.getElem?_eq_none (by omega), List.getElem?_eq_none (by rw [vec_len]; omega)]
theorem vec_iff (h : ∀ j, j < n → (S j ↔ T j)) : vec l S n = vec l T n := vec_congr fun _ _ => cnt_congr fun j hj _ => h j hj
theorem set_getDv {xs : List Int} {p q : Nat} {v : Int} (hp : p < xs.length) : (xs.set p v).getD q 0 = if q = p then v else xs.getD q 0 := by
  rw [List.getD_eq_getElem?_getD, List.getElem?_set]
  by_cases e : p = q
  · subst e
    rw [if_pos rfl, if_pos hp, if_pos rfl]
    rfl
  · rw [if_neg e, if_neg (fun h => e h.symm), List.getD_eq_getElem?_getD]
theorem vec_yes {p : Nat} (hp : p < 8) (hpl : (evAt l n).1 = (p : Int)) (hs : S n) : (vec l S n).set p (((cnt l S (p : Int) n : Nat) : Int) + 1) = vec l S (n + 1) := by
  refine vec_ext (by rw [List.length_set, vec_len]) fun q hq => ?_
  rw [set_getDv (by rw [vec_len]; exact hp), cnt_succ]
  by_cases e : q = p
  · subst e
    rw [if_pos rfl, if_pos ⟨hpl, hs⟩]
    omega
  · rw [if_neg e, vec_getD hq, if_neg (fun h => e (by have := h.1; omega))]
    rfl
theorem vec_no (hs : ¬ S n) : vec l S (n + 1) = vec l S n := by
  unfold vec
  apply List.map_congr_left
  intro q _
  rw [cnt_succ, if_neg (fun h => hs h.2)]
  rfl
theorem vec_none (h : ∀ j, j < n → ¬ S j) : vec l S n = List.replicate 8 0 := by
  unfold vec
  rw [List.map_congr_left (g := fun _ => (0 : Int)) (fun q _ => by rw [cnt_none h]; rfl)]
  rfl
theorem cnt_zero (q : Int) : cnt l S q 0 = 0 := rfl
theorem vec_zero : vec l S 0 = List.replicate 8 0 := vec_none fun j hj => by omega
end
end Go.Proofs.Ytcmkkfpcdebfkaa
