/-
  ClockSays: Check, Clocks, Numbers, Ahead and Apart of package clock return the specified results for all arguments. For every input, no condition.
-/
import Derived.Test.YtcmkkfpcdebfkaaEv13
import Derived.Test.YtcmkkfpcdebfkaaEvOpen
namespace Go.Proofs.Ytcmkkfpcdebfkaa
open Go.ChangeShapes Go.WideShapes Go.ChangeAt Go.RowKit Go.Joins Go.Deep

set_option maxRecDepth 100000 in
theorem clockSays_called : Called 8 Try.f8 := by
  intro H enc W base args ds p hval hA hsz
  rw [Try.params8] at hA hval
  obtain ⟨v0, v1, v2, d0, d1, d2, p0, p1, p2, rfl, rfl, rfl, h0, h1, h2⟩ := trodAll_three hA
  obtain ⟨i, rfl, rfl, rfl, w1⟩ := open_int Try.underlying3 (hval 1 3 v1 rfl rfl) h1
  obtain ⟨k, rfl, rfl, rfl, w2⟩ := open_int Try.underlying3 (hval 2 3 v2 rfl rfl) h2
  obtain ⟨A, c, l, rfl, hin, _⟩ := open_events (hval 0 22 v0 rfl rfl) h0
  exact clockSays_walk A c l i k W hin

set_option maxRecDepth 100000 in
theorem clockSays_lifted (os : Os) (started : os.Started) (H : Type) (enc : TypeId × Value → H) :
    ReturnsInHanded {} Try.checked os 8 .any (Rows.clockSaysSpec.pre6 enc Try.prog Try.f8 Rows.clockSaysRow.domain false) (Rows.clockSaysSpec.post enc Try.prog Try.f8 false true false false) :=
  law_lift started (by kernel_rfl) Try.func8
    (ChangeSpec.witness6 (enc := enc) (C := Try.checked) false ⟨#[], #[.slice none 0 0, .int .i64 0, .int .i64 0], []⟩ 8 (by kernel_rfl) (by kernel_rfl) (by kernel_rfl) (by kernel_rfl))
    rfl rfl (by kernel_rfl) (by kernel_rfl) (fun l hl => by
      rw [Try.params8] at hl
      match l, hl with
      | [d0, d1, d2], _ => rfl) clockSays_called

theorem clockSays_over : Rows.clockSaysRow.holds Try.pinned (OpenSpec.ofChange Rows.clockSaysSpec) :=
  OpenClaim.holds_of_wide 8 Try.f8 rfl rfl rfl rfl rfl rfl rfl ⟨rfl, rfl, rfl, rfl, rfl⟩ rfl rfl rfl rfl rfl (by kernel_rfl) Try.func8 (by kernel_rfl)
    (of_decide_eq_true (by kernel_rfl)) (by unfold Func.isWrapper; first | (rw [if_pos (by decide +kernel)]; kernel_rfl) | (rw [if_neg (by decide +kernel)]; exact ⟨rfl, rfl⟩))
    (fun os started H enc _ => clockSays_lifted os started H enc)

theorem clockSays_holds : Rows.ClockSaysSaid := clockSays_over
end Go.Proofs.Ytcmkkfpcdebfkaa
