
/-
  What is read at a place, as the program and as the reference have it.
-/
import Derived.Test.YtdjahlkjfpbifaaHp8
namespace Go.Proofs.Ytdjahlkjfpbifaa
open Go.RowKit

theorem rdF_out {h : List Nat} {p : Int} (hp : p < 0 ∨ (h.length : Int) ≤ p) : rdF h p = (oc0.o, 0, 4) ∧ raF h p = none := by
  unfold rdF raF
  rw [if_pos hp, if_pos hp]
  exact ⟨rfl, rfl⟩
theorem rdF_none {h : List Nat} {p : Int} (hp : ¬ (p < 0 ∨ (h.length : Int) ≤ p)) (e : raF h p = none) : rdF h p = (oc0.o, 0, 3) := by
  unfold raF at e
  rw [if_neg hp] at e
  unfold rdF
  rw [if_neg hp, e]
theorem rdF_some {h : List Nat} {p : Int} {o : Ob} (hp : ¬ (p < 0 ∨ (h.length : Int) ≤ p)) (e : raF h p = some o) : rdF h p = (o, (((wordsF o).length : Nat) : Int), 0) := by
  unfold raF at e
  rw [if_neg hp] at e
  unfold rdF
  rw [if_neg hp, e]
end Go.Proofs.Ytdjahlkjfpbifaa
