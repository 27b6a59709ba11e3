
/-
  CarryCells: for arbitrary arguments, Cells returns what the reference returns. For every input, no condition.
-/
import Derived.Test.YtdjahlkjfpbifaaCarryCells
import Derived.Test.YtdjahlkjfpbifaaWordsOpen
namespace Go.Proofs.Ytdjahlkjfpbifaa
open Go.ChangeShapes Go.WideShapes Go.ChangeAt Go.RowKit Go.Joins Go.Deep

set_option maxRecDepth 100000 in
theorem carryCells_called : Called 7 Try.f7 := by
  intro H enc W base args ds p hval hA hsz
  rw [Try.params7] at hA hval hsz
  obtain ⟨v0, v1, d0, d1, p0, p1, rfl, rfl, rfl, h0, h1⟩ := trodAll_two hA
  obtain ⟨A0, c0, l0, rfl, hh0, _, _⟩ := open_heap (hval 0 89 v0 rfl rfl) h0
  obtain ⟨u, rfl, hu⟩ := open_u64 Try.underlying90 (hval 1 90 v1 rfl rfl) h1
  exact carryCells_walk A0 c0 l0 u W hh0 hu

set_option maxRecDepth 100000 in
theorem carryCells_lifted (os : Os) (started : os.Started) (H : Type) (enc : TypeId × Value → H) :
    ReturnsInHanded {} Try.checked os 7 .any (Rows.carryCellsSpec.pre6 enc Try.prog Try.f7 Rows.carryCellsRow.domain false) (Rows.carryCellsSpec.post enc Try.prog Try.f7 false true false false) :=
  law_lift started (by kernel_rfl) Try.func7
    (ChangeSpec.witness6 (enc := enc) (C := Try.checked) false ⟨#[], #[.slice none 0 0, .int .u64 0], []⟩ 8 (by kernel_rfl) (by kernel_rfl) (by kernel_rfl) (by kernel_rfl))
    rfl rfl (by kernel_rfl) (by kernel_rfl) (fun l hl => by
      rw [Try.params7] at hl
      match l, hl with
      | [d0, d1], _ => rfl) carryCells_called

theorem carryCells_over : Rows.carryCellsRow.holds Try.pinned (OpenSpec.ofChange Rows.carryCellsSpec) :=
  OpenClaim.holds_of_wide 7 Try.f7 rfl rfl rfl rfl rfl rfl rfl ⟨rfl, rfl, rfl, rfl, rfl⟩ rfl rfl rfl rfl rfl (by kernel_rfl) Try.func7 (by kernel_rfl)
    (of_decide_eq_true (by kernel_rfl)) (by unfold Func.isWrapper; first | (rw [if_pos (by decide +kernel)]; kernel_rfl) | (rw [if_neg (by decide +kernel)]; exact ⟨rfl, rfl⟩))
    (fun os started H enc _ => carryCells_lifted os started H enc)

theorem carryCells_holds : Rows.CarryCellsSaid := carryCells_over
end Go.Proofs.Ytdjahlkjfpbifaa

