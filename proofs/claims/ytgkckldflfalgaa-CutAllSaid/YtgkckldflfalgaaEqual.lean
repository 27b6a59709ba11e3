
/-
  slices.Equal at []int.
-/
import Derived.Test.YtgkckldflfalgaaSlicesInt
namespace Go.Proofs.Ytgkckldflfalgaa
open Go.RowKit

/-- The two lists agree in their first k elements. -/
def eqTo (xs ys : List Int) (k : Nat) : Prop := ∀ i, i < k → xs.getD i 0 = ys.getD i 0
theorem eqTo_succ {xs ys : List Int} {k : Nat} (h : eqTo xs ys k) (e : xs.getD k 0 = ys.getD k 0) : eqTo xs ys (k + 1) := fun i hi => by
  rcases Nat.lt_or_ge i k with hlt | hge
  · exact h i hlt
  · obtain rfl : i = k := by omega
    exact e
theorem eq_of_eqTo {xs ys : List Int} (hl : xs.length = ys.length) (h : eqTo xs ys xs.length) : xs = ys := by
  apply List.ext_getElem hl
  intro i h1 h2
  have := h i h1
  simpa [List.getD_eq_getElem?_getD, h1, h2] using this

theorem drewN_more (w : World) (k n : Nat) : ∃ m, (w.drewN k).drewN n = w.drewN m := ⟨k + n, by simp⟩

end Go.Proofs.Ytgkckldflfalgaa
