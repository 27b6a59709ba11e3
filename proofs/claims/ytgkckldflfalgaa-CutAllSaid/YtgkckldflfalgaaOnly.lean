
/-
  Only some blocks, and what is new, have turned.
-/
import Derived.Test.YtgkckldflfalgaaOpen2
namespace Go.Proofs.Ytgkckldflfalgaa
open Go.RowKit

/-- Only blocks of S, and what is new, have turned. -/
structure Only (S : Nat → Prop) (w w' : World) : Prop where
  os : w'.os = w.os
  tape : w'.tape = w.tape
  output : w'.output = w.output
  size : w.heap.size ≤ w'.heap.size
  block : ∀ i, i < w.heap.size → ¬ S i → w'.heap[i]? = w.heap[i]?

section
variable {S : Nat → Prop} {w w' w'' : World}
theorem Only.refl (S : Nat → Prop) (w : World) : Only S w w := ⟨rfl, rfl, rfl, Nat.le_refl _, fun _ _ _ => rfl⟩
theorem Only.trans (h : Only S w w') (k : Only S w' w'') : Only S w w'' :=
  ⟨k.os.trans h.os, k.tape.trans h.tape, k.output.trans h.output, Nat.le_trans h.size k.size, fun i hi hne => (k.block i (Nat.lt_of_lt_of_le hi h.size) hne).trans (h.block i hi hne)⟩
theorem Only.drewN (h : Only S w w') (n : Nat) : Only S w (w'.drewN n) := ⟨h.os, h.tape, h.output, h.size, h.block⟩
theorem Only.drew (h : Only S w w') : Only S w w'.drew := ⟨h.os, h.tape, h.output, h.size, h.block⟩
theorem Only.alloc (h : Only S w w') (o : Obj) : Only S w (w'.alloc o) :=
  ⟨h.os, h.tape, h.output, Nat.le_trans h.size (by simp), fun i hi hne => (Below.heap_alloc w' o i (Nat.lt_of_lt_of_le hi h.size)).trans (h.block i hi hne)⟩
theorem Only.set (h : Only S w w') {p : Addr} (hp : S p.block) (u : Value) : Only S w (w'.setCell p u) :=
  ⟨h.os, h.tape, h.output, by simpa [World.setCell] using h.size, fun i hi hne => (Below.heap_setCell w' p u i (by
    rintro rfl
    exact hne hp)).trans (h.block i hi hne)⟩
theorem Only.below (h : Only S w w') (k : Below w'.heap.size w' w'') : Only S w w'' :=
  ⟨k.os.trans h.os, k.tape.trans h.tape, k.output.trans h.output, Nat.le_trans h.size k.size, fun i hi hne => (k.block i (Nat.lt_of_lt_of_le hi h.size)).trans (h.block i hi hne)⟩
theorem Only.of_below (h : Below w.heap.size w w') : Only S w w' := (Only.refl S w).below h
theorem Only.to_below {B : Nat} {a : World} (h : Only S w w') (ha : Below B a w) (hB : B ≤ w.heap.size) (hS : ∀ i, S i → B ≤ i) : Below B a w' :=
  ⟨h.os.trans ha.os, h.tape.trans ha.tape, h.output.trans ha.output, Nat.le_trans ha.size h.size, fun i hi => (h.block i (Nat.lt_of_lt_of_le hi hB) (fun hs => by have := hS i hs; omega)).trans (ha.block i hi)⟩
theorem Only.box {g : Nat} {t : TypeId} {cs : Array Value} (h : Only S w w') (hb : Box w g t cs) (hne : ¬ S g) : Box w' g t cs := (h.block g hb.lt hne).trans hb
theorem Only.more {S' : Nat → Prop} (h : Only S w w') (hS : ∀ i, S i → S' i) : Only S' w w' := ⟨h.os, h.tape, h.output, h.size, fun i hi hne => h.block i hi (fun hs => hne (hS i hs))⟩
end

/-- The cells of a block that is a row of elements. -/
theorem Box.elem {α : Type} {ec : α → List Value} {size : Nat} (hs : ∀ x, (ec x).length = size) {w : World} {g : Nat} {t : TypeId} {l : List α} (h : Box w g t (flat ec l).toArray) {i j : Nat} {x : α} {u : Value} (hx : l[i]? = some x) (hu : (ec x)[j]? = some u) :
    w.cell? ⟨g, i * size + j, none⟩ = some u := by
  rw [h.cell, List.getElem?_toArray]
  exact flat_get hs hx hu

theorem flat_set {α : Type} {ec : α → List Value} {size : Nat} (hs : ∀ x, (ec x).length = size) (l : List α) {i j : Nat} {x : α} (u : Value) (hx : l[i]? = some x) (hj : j < size) (y : α) (hy : ec y = (ec x).set j u) :
    (flat ec l).set (i * size + j) u = flat ec (l.set i y) := by
  induction l generalizing i with
  | nil => simp at hx
  | cons z l ih =>
    have e : flat ec (z :: l) = ec z ++ flat ec l := rfl
    cases i with
    | zero =>
      simp at hx
      subst hx
      rw [e, Nat.zero_mul, Nat.zero_add, List.set_append_left _ _ (by rw [hs]; exact hj), ← hy]
      rfl
    | succ i =>
      simp only [List.getElem?_cons_succ] at hx
      rw [e, List.set_append_right _ _ (by rw [hs, Nat.add_mul]; omega), hs, show (i + 1) * size + j - size = i * size + j by rw [Nat.add_mul]; omega, ih hx]
      rfl
/-- One cell of an element stored. -/
theorem Box.put {α : Type} {ec : α → List Value} {size : Nat} (hs : ∀ x, (ec x).length = size) {w : World} {g : Nat} {t : TypeId} {l : List α} (h : Box w g t (flat ec l).toArray) {i j : Nat} {x : α} (u : Value) (hx : l[i]? = some x) (hj : j < size) (y : α) (hy : ec y = (ec x).set j u) :
    Box (w.setCell ⟨g, i * size + j, none⟩ u) g t (flat ec (l.set i y)).toArray := by
  have := h.set (i * size + j) u
  rw [List.setIfInBounds_toArray, flat_set hs l u hx hj y hy] at this
  exact this
end Go.Proofs.Ytgkckldflfalgaa
