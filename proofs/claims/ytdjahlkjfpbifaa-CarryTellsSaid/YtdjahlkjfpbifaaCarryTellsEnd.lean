
/-
  CarryTells: for arbitrary arguments, Over returns what the reference returns. For every input, no condition.
-/
import Derived.Test.YtdjahlkjfpbifaaCarryTells
import Derived.Test.YtdjahlkjfpbifaaWordsOpen
namespace Go.Proofs.Ytdjahlkjfpbifaa
open Go.ChangeShapes Go.WideShapes Go.ChangeAt Go.RowKit Go.Joins Go.Deep

set_option maxRecDepth 100000 in
theorem carryTells_called : Called 5 Try.f5 := by
  intro H enc W base args ds p hval hA hsz
  rw [Try.params5] at hA hval hsz
  obtain ⟨v0, v1, v2, d0, d1, d2, p0, p1, p2, rfl, rfl, rfl, h0, h1, h2⟩ := trodAll_three hA
  obtain ⟨A0, c0, l0, rfl, hh0, hb0, _⟩ := open_heap (hval 0 89 v0 rfl rfl) h0
  obtain ⟨A1, c1, l1, rfl, hh1, hb1, _⟩ := open_heap (hval 1 89 v1 rfl rfl) h1
  obtain ⟨u, rfl, hu⟩ := open_u64 Try.underlying90 (hval 2 90 v2 rfl rfl) h2
  exact carryTells_walk A0 c0 l0 A1 c1 l1 u W hh0 hh1 hu hb0 hb1

set_option maxRecDepth 100000 in
theorem carryTells_lifted (os : Os) (started : os.Started) (H : Type) (enc : TypeId × Value → H) :
    ReturnsInHanded {} Try.checked os 5 .any (Rows.carryTellsSpec.pre6 enc Try.prog Try.f5 Rows.carryTellsRow.domain false) (Rows.carryTellsSpec.post enc Try.prog Try.f5 false true false false) :=
  law_lift started (by kernel_rfl) Try.func5
    (ChangeSpec.witness6 (enc := enc) (C := Try.checked) false ⟨#[], #[.slice none 0 0, .slice none 0 0, .int .u64 0], []⟩ 8 (by kernel_rfl) (by kernel_rfl) (by kernel_rfl) (by kernel_rfl))
    rfl rfl (by kernel_rfl) (by kernel_rfl) (fun l hl => by
      rw [Try.params5] at hl
      match l, hl with
      | [d0, d1, d2], _ => rfl) carryTells_called

theorem carryTells_over : Rows.carryTellsRow.holds Try.pinned (OpenSpec.ofChange Rows.carryTellsSpec) :=
  OpenClaim.holds_of_wide 5 Try.f5 rfl rfl rfl rfl rfl rfl rfl ⟨rfl, rfl, rfl, rfl, rfl⟩ rfl rfl rfl rfl rfl (by kernel_rfl) Try.func5 (by kernel_rfl)
    (of_decide_eq_true (by kernel_rfl)) (by unfold Func.isWrapper; first | (rw [if_pos (by decide +kernel)]; kernel_rfl) | (rw [if_neg (by decide +kernel)]; exact ⟨rfl, rfl⟩))
    (fun os started H enc _ => carryTells_lifted os started H enc)

theorem carryTells_holds : Rows.CarryTellsSaid := carryTells_over
end Go.Proofs.Ytdjahlkjfpbifaa

