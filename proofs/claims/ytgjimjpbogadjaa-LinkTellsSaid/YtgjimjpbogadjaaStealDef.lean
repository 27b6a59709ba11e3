
/-
  Lines of tasks: what they read as.
-/
import Derived.Test.YtgjimjpbogadjaaLineDef
import Derived.Test.YtgjimjpbogadjaaSetB
namespace Go.Proofs.Ytgjimjpbogadjaa
open Go.RowKit

/-- The cell reads as the numbers xs, which lie in blocks of S (the number says nothing here). -/
def IIn (w : World) (S : Nat → Prop) (_n : Nat) (x : BC) (xs : List Int) : Prop :=
  x.len = xs.length ∧ RowS w S x.A (ints xs) ∧ x.len ≤ x.cap ∧ x.cap ≤ maxLen ∧ (x.A = none → x.cap = 0) ∧ (∀ v ∈ xs, I64 v) ∧ xs.length ≤ 17592186044416
theorem IIn.keep {w w' : World} {S S' : Nat → Prop} (hk : ∀ p : Addr, S p.block → w'.cell? p = w.cell? p) (hS : ∀ b, S b → S' b) {n : Nat} {x : BC} {xs : List Int} (h : IIn w S n x xs) : IIn w' S' n x xs :=
  ⟨h.1, h.2.1.keep hk hS, h.2.2⟩
theorem IIn.below {w w' : World} {B : Nat} {S : Nat → Prop} (hb : Below B w w') (hS : ∀ b, S b → b < B) {n : Nat} {x : BC} {xs : List Int} (h : IIn w S n x xs) : IIn w' S n x xs := h.keep (fun _ hp => hb.cell (hS _ hp)) fun _ h => h
theorem IIn.lt {w : World} {S : Nat → Prop} {n : Nat} {x : BC} {xs : List Int} (h : IIn w S n x xs) : IIn w (fun b => S b ∧ b < w.heap.size) n x xs := ⟨h.1, h.2.1.lt, h.2.2⟩
theorem IIn.all {w : World} {S : Nat → Prop} {n : Nat} {x : BC} {xs : List Int} (h : IIn w S n x xs) : IIn w (· < w.heap.size) n x xs := h.lt.keep (fun _ _ => rfl) fun _ h => h.2
theorem IIn.none {w : World} {S : Nat → Prop} {n : Nat} : IIn w S n bc0 [] := ⟨rfl, RowS.nil, Nat.le_refl _, Nat.zero_le _, (fun _ => rfl), (fun v hv => by cases hv), Nat.zero_le _⟩
theorem IIn.row {w : World} {S : Nat → Prop} {n : Nat} {x : BC} {xs : List Int} (h : IIn w S n x xs) : Row w w.heap.size x.A (ints xs) := h.all.2.1
end Go.Proofs.Ytgjimjpbogadjaa
