/-
  WeightPlays: every sequence of calls of weighted references has the specified results.
-/
import Derived.Test.YtcmkkfpcdebfkaaWeightPlays
import Derived.Lib.SmallJoins
namespace Go.Proofs.Ytcmkkfpcdebfkaa
open Go.ChangeShapes Go.WideShapes Go.ChangeAt Go.RowKit Go.Joins Go.Deep

set_option maxRecDepth 100000 in
theorem weightPlays_called : Called 6 Try.f6 := by
  intro H enc W base args ds p hval hA hsz
  rw [Try.params6] at hA hval
  obtain ⟨v0, v1, d0, d1, p0, p1, rfl, rfl, rfl, h0, h1⟩ := trodAll_two hA
  obtain ⟨n, rfl, rfl, rfl, w0⟩ := open_int Try.underlying3 (hval 0 3 v0 rfl rfl) h0
  obtain ⟨A, c, xss, rfl, hr, hl, hm, _⟩ := open_intRows Try.underlying85 Try.underlying33 Try.underlying3 (by kernel_rfl) (by kernel_rfl) (hval 1 85 v1 rfl rfl) h1
  exact weightPlays_walk n A c xss W hr (by omega)

set_option maxRecDepth 100000 in
theorem weightPlays_lifted (os : Os) (started : os.Started) (H : Type) (enc : TypeId × Value → H) :
    ReturnsInHanded {} Try.checked os 6 .any (Rows.weightPlaysSpec.pre6 enc Try.prog Try.f6 Rows.weightPlaysRow.domain false) (Rows.weightPlaysSpec.post enc Try.prog Try.f6 false true false false) :=
  law_lift started (by kernel_rfl) Try.func6
    (ChangeSpec.witness6 (enc := enc) (C := Try.checked) false ⟨#[], #[.int .i64 0, .slice none 0 0], []⟩ 8 (by kernel_rfl) (by kernel_rfl) (by kernel_rfl) (by kernel_rfl))
    rfl rfl (by kernel_rfl) (by kernel_rfl) (fun l hl => by
      rw [Try.params6] at hl
      match l, hl with
      | [d0, d1], _ => rfl) weightPlays_called

theorem weightPlays_over : Rows.weightPlaysRow.holds Try.pinned (OpenSpec.ofChange Rows.weightPlaysSpec) :=
  OpenClaim.holds_of_wide 6 Try.f6 rfl rfl rfl rfl rfl rfl rfl ⟨rfl, rfl, rfl, rfl, rfl⟩ rfl rfl rfl rfl rfl (by kernel_rfl) Try.func6 (by kernel_rfl)
    (of_decide_eq_true (by kernel_rfl)) (by unfold Func.isWrapper; first | (rw [if_pos (by decide +kernel)]; kernel_rfl) | (rw [if_neg (by decide +kernel)]; exact ⟨rfl, rfl⟩))
    (fun os started H enc _ => weightPlays_lifted os started H enc)

theorem weightPlays_holds : Rows.WeightPlaysSaid := weightPlays_over
end Go.Proofs.Ytcmkkfpcdebfkaa
