
/-
  Rows of ints of the call's own, told apart from all else by their blocks' type.
-/
import Derived.Test.YtgkckldflfalgaaOwnOnly
namespace Go.Proofs.Ytgkckldflfalgaa
open Go.RowKit

/-- The value is a slice of ints of the call's own, which reads as xs. -/
def IOwn (w : World) (base : Nat) (v : Value) (xs : List Int) : Prop := ∃ A cap, v = .slice A xs.length cap ∧ OwnAt w base 3 1 A xs.length cap (ints xs)
/-- Block g is no row of ints. -/
def NoInts (w : World) (g : Nat) : Prop := ∀ cur, w.heap[g]? ≠ some (.cells cur 3 (0, 0))
section
variable {w w' : World} {base : Nat} {v : Value} {xs : List Int}
theorem IOwn.of_own (h : w.ownsRow base 3 1 v xs.length (ints xs)) : IOwn w base v xs := OwnAt.of_own h
theorem OwnAt.block_ints {A : Option Addr} {n cap : Nat} {ys : List Value} (h : OwnAt w base 3 1 A n cap ys) {b : Nat} (hb : A.map (·.block) = some b) : ¬ NoInts w b := fun hn => by
  rcases h.2 with ⟨rfl, _⟩ | ⟨g, o, cur, rfl, _, h2, _⟩
  · cases hb
  · simp at hb
    subst hb
    exact hn cur h2
theorem IOwn.below (h : IOwn w base v xs) (hb : Below w.heap.size w w') : IOwn w' base v xs := by
  obtain ⟨A, cap, h1, h2⟩ := h
  exact ⟨A, cap, h1, h2.below hb⟩
theorem IOwn.alloc (h : IOwn w base v xs) (o : Obj) : IOwn (w.alloc o) base v xs := by
  obtain ⟨A, cap, h1, h2⟩ := h
  exact ⟨A, cap, h1, h2.alloc o⟩
theorem IOwn.only {T : Nat → Prop} (h : IOwn w base v xs) (ho : Only T w w') (hT : ∀ b, b < w.heap.size → T b → NoInts w b) : IOwn w' base v xs := by
  obtain ⟨A, cap, h1, h2⟩ := h
  refine ⟨A, cap, h1, h2.only ho fun b hb hT' => ?_⟩
  have hlt : b < w.heap.size := by
    rcases h2.form with ⟨rfl, _⟩ | ⟨g, o, rfl⟩
    · cases hb
    · simp at hb; subst hb; exact h2.lt.2
  exact h2.block_ints hb (hT b hlt hT')
theorem IOwn.lower {base' : Nat} (h : IOwn w base v xs) (hb : base' ≤ base) : IOwn w base' v xs := by
  obtain ⟨A, cap, h1, h2⟩ := h
  exact ⟨A, cap, h1, h2.lower hb⟩
theorem IOwn.form (h : IOwn w base v xs) (hx : 0 < xs.length) : ∃ g o cap, v = .slice (some ⟨g, o, none⟩) xs.length cap ∧ base ≤ g ∧ g < w.heap.size ∧ Row w w.heap.size (some ⟨g, o, none⟩) (ints xs) ∧ OwnAt w base 3 1 (some ⟨g, o, none⟩) xs.length cap (ints xs) := by
  obtain ⟨A, cap, h1, h2⟩ := h
  obtain ⟨g, o, rfl, _⟩ := h2.some_of hx
  exact ⟨g, o, cap, h1, h2.lt.1, h2.lt.2, h2.row, h2⟩
end
theorem Only.of_grown {w w' : World} {row : Option Nat} (h : w.grownBy w' row) : Only (fun b => some b = row) w w' := ⟨h.os, h.tape, h.output, h.size, h.block⟩
theorem NoInts.box {w : World} {g : Nat} {t : TypeId} {cs : Array Value} (h : Box w g t cs) (ht : t ≠ 3) : NoInts w g := fun cur hc => by
  unfold Box at h
  rw [h] at hc
  injection hc with hc
  injection hc with _ hc
  exact ht hc
theorem NoInts.own {w : World} {base size n cap g o : Nat} {t : TypeId} {xs : List Value} (h : OwnAt w base t size (some ⟨g, o, none⟩) n cap xs) (ht : t ≠ 3) : NoInts w g := fun cur hc => by
  rcases h.2 with ⟨h0, _⟩ | ⟨g', o', cur', hA, _, hh, _⟩
  · cases h0
  · injection hA with hA
    injection hA with hg
    subst hg
    rw [hh] at hc
    injection hc with hc
    injection hc with _ hc
    exact ht hc
end Go.Proofs.Ytgkckldflfalgaa
