
/-
  A slice of the call's own lies as it lay, where only other blocks turned.
-/
import Derived.Test.YtgkckldflfalgaaQueue
import Derived.Test.YtgkckldflfalgaaOnly
namespace Go.Proofs.Ytgkckldflfalgaa
open Go.RowKit

theorem OwnAt.only {w w' : World} {base : Nat} {e : TypeId} {size n cap : Nat} {A : Option Addr} {xs : List Value} {T : Nat → Prop} (h : OwnAt w base e size A n cap xs) (ho : Only T w w') (hA : ∀ b, A.map (·.block) = some b → ¬ T b) : OwnAt w' base e size A n cap xs := by
  refine ⟨h.1, ?_⟩
  rcases h.2 with h0 | ⟨g, o, cur, h1, h2, h3, h4⟩
  · exact .inl h0
  · subst h1
    exact .inr ⟨g, o, cur, rfl, h2, (ho.block g h.lt.2 (hA g rfl)).trans h3, h4⟩
end Go.Proofs.Ytgkckldflfalgaa
