
/-
  Rows of structs: a slice whose elements take several cells each reads as the flat list of their cells.
-/
import Derived.Test.YtgkckldflfalgaaClone
namespace Go.Proofs.Ytgkckldflfalgaa
open Go.RowKit

/-- The cells of a list of elements, each taken apart by enc. -/
def flat {α : Type} (enc : α → List Value) (l : List α) : List Value := l.flatMap enc

section
variable {α : Type} {enc : α → List Value} {size : Nat}
theorem flat_len (hs : ∀ x, (enc x).length = size) (l : List α) : (flat enc l).length = l.length * size := by
  induction l with
  | nil => simp [flat]
  | cons x l ih =>
    have : flat enc (x :: l) = enc x ++ flat enc l := rfl
    rw [this, List.length_append, ih, hs, List.length_cons, Nat.add_mul]
    omega
theorem flat_append (l m : List α) : flat enc (l ++ m) = flat enc l ++ flat enc m := by simp [flat]
theorem flat_one (x : α) : flat enc [x] = enc x := by simp [flat]
theorem flat_get (hs : ∀ x, (enc x).length = size) {l : List α} {i j : Nat} {x : α} {u : Value} (hx : l[i]? = some x) (hu : (enc x)[j]? = some u) : (flat enc l)[i * size + j]? = some u := by
  induction l generalizing i with
  | nil => simp at hx
  | cons y l ih =>
    have e : flat enc (y :: l) = enc y ++ flat enc l := rfl
    rw [e]
    cases i with
    | zero =>
      simp at hx
      subst hx
      have hj : j < (enc y).length := (List.getElem?_eq_some_iff.1 hu).1
      rw [Nat.zero_mul, Nat.zero_add, List.getElem?_append_left hj]
      exact hu
    | succ i =>
      simp only [List.getElem?_cons_succ] at hx
      rw [List.getElem?_append_right (by rw [hs, Nat.add_mul]; omega), hs, show (i + 1) * size + j - size = i * size + j by rw [Nat.add_mul]; omega]
      exact ih hx
theorem flat_take (hs : ∀ x, (enc x).length = size) (l : List α) (k : Nat) : flat enc (l.take k) = (flat enc l).take (k * size) := by
  induction l generalizing k with
  | nil => simp [flat]
  | cons x l ih =>
    cases k with
    | zero => simp [flat]
    | succ k =>
      have e : flat enc (x :: l) = enc x ++ flat enc l := rfl
      have e2 : flat enc ((x :: l).take (k + 1)) = enc x ++ flat enc (l.take k) := rfl
      have h1 : (enc x).take ((k + 1) * size) = enc x := List.take_of_length_le (by rw [hs, Nat.add_mul]; omega)
      rw [e, e2, ih, List.take_append, hs, show (k + 1) * size - size = k * size by rw [Nat.add_mul]; omega, h1]
theorem flat_drop (hs : ∀ x, (enc x).length = size) (l : List α) (k : Nat) : flat enc (l.drop k) = (flat enc l).drop (k * size) := by
  induction l generalizing k with
  | nil => simp [flat]
  | cons x l ih =>
    cases k with
    | zero => simp [flat]
    | succ k =>
      have e : flat enc (x :: l) = enc x ++ flat enc l := rfl
      have h1 : (enc x).drop ((k + 1) * size) = [] := List.drop_of_length_le (by rw [hs, Nat.add_mul]; omega)
      rw [e, List.drop_append, hs, show (k + 1) * size - size = k * size by rw [Nat.add_mul]; omega, h1, List.nil_append]
      exact ih k

variable {w : World} {B : Nat} {A : Option Addr} {l : List α}
theorem Row.elem (hs : ∀ x, (enc x).length = size) (hz : 0 < size) (h : Row w B A (flat enc l)) {i : Nat} {x : α} (hx : l[i]? = some x) :
    ∃ b o, A = some ⟨b, o, none⟩ ∧ b < B ∧ ∀ j u, (enc x)[j]? = some u → w.cell? ⟨b, o + i * size + j, none⟩ = some u := by
  have hi : i < l.length := (List.getElem?_eq_some_iff.1 hx).1
  obtain ⟨b, o, e, hb, hc⟩ := h (by rw [flat_len hs]; exact Nat.mul_pos (by omega) hz)
  exact ⟨b, o, e, hb, fun j u hu => by rw [Nat.add_assoc]; exact hc _ u (flat_get hs hx hu)⟩
theorem Row.take {vs : List Value} (h : Row w B A vs) (k : Nat) : Row w B A (vs.take k) := fun hp => by
  obtain ⟨b, o, e, hb, hc⟩ := h (by rw [List.length_take] at hp; omega)
  refine ⟨b, o, e, hb, fun i v hv => hc i v ?_⟩
  rw [List.getElem?_take] at hv
  split at hv
  · exact hv
  · cases hv
theorem Row.takeF (hs : ∀ x, (enc x).length = size) (h : Row w B A (flat enc l)) (k : Nat) : Row w B A (flat enc (l.take k)) := by
  rw [flat_take hs]; exact h.take _
theorem getD_some {l : List α} {i : Nat} (d : α) (h : i < l.length) : l[i]? = some (l.getD i d) := by
  simp [List.getD_eq_getElem?_getD, h]
theorem getD_mem {l : List α} {i : Nat} (d : α) (h : i < l.length) : l.getD i d ∈ l := List.mem_of_getElem? (getD_some d h)

/-- A row of the call's own reads as a slice, whatever its elements' size. -/
theorem row_of_own_any {base : Nat} {e : TypeId} {v : Value} {n : Nat} {vs : List Value} (h : w.ownsRow base e size v n vs) :
    ∃ A c, v = .slice A n c ∧ Row w w.heap.size A vs ∧ n ≤ c ∧ c ≤ maxLen ∧ (A = none → c = 0) := by
  rcases h.2 with ⟨rfl, h0⟩ | ⟨g, cap, cur, rfl, _, hh, hn, hm, _, htk⟩
  · have : vs = [] := List.eq_nil_of_length_eq_zero (by rw [h.1, h0, Nat.zero_mul])
    subst this
    exact ⟨none, 0, by rw [h0], Row.nil, by omega, by simp, fun _ => rfl⟩
  · refine ⟨_, cap, rfl, fun hp => ⟨g, 0, rfl, ?_, fun i u hu => ?_⟩, hn, hm, fun he => by cases he⟩
    · rcases Nat.lt_or_ge g w.heap.size with hlt | hge
      · exact hlt
      · rw [Array.getElem?_eq_none hge] at hh; cases hh
    · have e1 : cur[i]? = some u := by
        rw [← Array.getElem?_toList]
        have h2 : (cur.toList.take (n * size))[i]? = some u := by rw [htk]; exact hu
        rw [List.getElem?_take] at h2
        split at h2
        · exact h2
        · cases h2
      simp [World.cell?, hh, e1]
end

/-- A list's elements from the k-th on. -/
theorem drop_getD {α : Type} (l : List α) (d : α) {k : Nat} (h : k < l.length) : l.drop k = l.getD k d :: l.drop (k + 1) := by
  rw [List.drop_eq_getElem_cons h]
  simp [List.getD_eq_getElem?_getD, h]
theorem take_getD {α : Type} (l : List α) (d : α) {k : Nat} (h : k < l.length) : l.take (k + 1) = l.take k ++ [l.getD k d] := by
  rw [List.take_succ_eq_append_getElem h]
  simp [List.getD_eq_getElem?_getD, h]

/-- What IndexFunc answers. -/
def idxAt {α : Type} (f : α → Bool) : List α → Int → Int
  | [], _ => -1
  | x :: xs, k => if f x then k else idxAt f xs (k + 1)
theorem idxAt_any {α : Type} (f : α → Bool) : ∀ (xs : List α) (k : Int), 0 ≤ k → decide (0 ≤ idxAt f xs k) = xs.any f
  | [], k, _ => by simp [idxAt]
  | x :: xs, k, hk => by
    unfold idxAt
    by_cases h : f x = true
    · simp [h, hk]
    · rw [if_neg h, idxAt_any f xs (k + 1) (by omega)]
      simp [h]
theorem idxAt_drop {α : Type} (f : α → Bool) (xs : List α) (d : α) (k : Nat) (hk : k < xs.length) (K : Int) :
    idxAt f (xs.drop k) K = if f (xs.getD k d) then K else idxAt f (xs.drop (k + 1)) (K + 1) := by
  rw [drop_getD xs d hk]
  rfl
/-- The two lists agree in their first k elements. -/
def sameTo {α : Type} (d : α) (xs ys : List α) (k : Nat) : Prop := ∀ i, i < k → xs.getD i d = ys.getD i d
theorem sameTo_succ {α : Type} {d : α} {xs ys : List α} {k : Nat} (h : sameTo d xs ys k) (e : xs.getD k d = ys.getD k d) : sameTo d xs ys (k + 1) := fun i hi => by
  rcases Nat.lt_or_ge i k with hlt | hge
  · exact h i hlt
  · obtain rfl : i = k := by omega
    exact e
theorem eq_of_sameTo {α : Type} {d : α} {xs ys : List α} (hl : xs.length = ys.length) (h : sameTo d xs ys xs.length) : xs = ys := by
  apply List.ext_getElem hl
  intro i h1 h2
  have := h i h1
  simpa [List.getD_eq_getElem?_getD, h1, h2] using this
end Go.Proofs.Ytgkckldflfalgaa
