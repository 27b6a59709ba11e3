/-
  TraceTells: Led, At and Same of package trace return the specified results. For every input, no condition.
-/
import Derived.Test.YtcmkkfpcdebfkaaTr5
namespace Go.Proofs.Ytcmkkfpcdebfkaa
open Go.ChangeShapes Go.WideShapes Go.ChangeAt Go.RowKit Go.Joins Go.Deep

set_option maxRecDepth 100000 in
theorem traceTells_called : Called 11 Try.f11 := by
  intro H enc W base args ds p hval hA hsz
  rw [Try.params11] at hA hval
  obtain ⟨v0, v1, v2, v3, d0, d1, d2, d3, p0, p1, p2, p3, rfl, rfl, rfl, h0, h1, h2, h3⟩ := trodAll_four hA
  obtain ⟨i, rfl, rfl, rfl, w1⟩ := open_int Try.underlying3 (hval 2 3 v2 rfl rfl) h2
  obtain ⟨k, rfl, rfl, rfl, w2⟩ := open_int Try.underlying3 (hval 3 3 v3 rfl rfl) h3
  obtain ⟨A, c, a, rfl, ha, _⟩ := open_events (hval 0 22 v0 rfl rfl) h0
  obtain ⟨B, d, b, rfl, hb, _⟩ := open_events (hval 1 22 v1 rfl rfl) h1
  by_cases hz : history a = 0
  · exact traceTells_good A B c d a b i k W ha hb hz
  · exact traceTells_bad A B c d a b i k W ha hz

set_option maxRecDepth 100000 in
theorem traceTells_lifted (os : Os) (started : os.Started) (H : Type) (enc : TypeId × Value → H) :
    ReturnsInHanded {} Try.checked os 11 .any (Rows.traceTellsSpec.pre6 enc Try.prog Try.f11 Rows.traceTellsRow.domain false) (Rows.traceTellsSpec.post enc Try.prog Try.f11 false true false false) :=
  law_lift started (by kernel_rfl) Try.func11
    (ChangeSpec.witness6 (enc := enc) (C := Try.checked) false ⟨#[], #[.slice none 0 0, .slice none 0 0, .int .i64 0, .int .i64 0], []⟩ 8 (by kernel_rfl) (by kernel_rfl) (by kernel_rfl) (by kernel_rfl))
    rfl rfl (by kernel_rfl) (by kernel_rfl) (fun l hl => by
      rw [Try.params11] at hl
      match l, hl with
      | [d0, d1, d2, d3], _ => rfl) traceTells_called

theorem traceTells_over : Rows.traceTellsRow.holds Try.pinned (OpenSpec.ofChange Rows.traceTellsSpec) :=
  OpenClaim.holds_of_wide 11 Try.f11 rfl rfl rfl rfl rfl rfl rfl ⟨rfl, rfl, rfl, rfl, rfl⟩ rfl rfl rfl rfl rfl (by kernel_rfl) Try.func11 (by kernel_rfl)
    (of_decide_eq_true (by kernel_rfl)) (by unfold Func.isWrapper; first | (rw [if_pos (by decide +kernel)]; kernel_rfl) | (rw [if_neg (by decide +kernel)]; exact ⟨rfl, rfl⟩))
    (fun os started H enc _ => traceTells_lifted os started H enc)

theorem traceTells_holds : Rows.TraceTellsSaid := traceTells_over
end Go.Proofs.Ytcmkkfpcdebfkaa
