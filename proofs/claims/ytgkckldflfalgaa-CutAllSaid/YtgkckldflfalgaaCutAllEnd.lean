
/-
  CutAll: All returns the specified result for histories of at most 10 events. For every input, no condition.
-/
import Derived.Test.YtgkckldflfalgaaCutAll
import Derived.Test.YtgkckldflfalgaaCuOpen
namespace Go.Proofs.Ytgkckldflfalgaa
open Go.ChangeShapes Go.WideShapes Go.ChangeAt Go.RowKit Go.Joins Go.Deep

set_option maxRecDepth 100000 in
theorem cutAll_called : Called 3 Try.f3 := by
  intro H enc W base args ds p hval hA hsz
  rw [Try.params3] at hA hval
  obtain ⟨v0, d0, rfl, rfl, h0⟩ := trodAll_one hA
  obtain ⟨A, c, l, rfl, hr, hlc, hm, hG, _⟩ := open_eventsC (hval 0 22 v0 rfl rfl) h0
  exact cutAll_any A c l W hr hlc hm hG

set_option maxRecDepth 100000 in
theorem cutAll_lifted (os : Os) (started : os.Started) (H : Type) (enc : TypeId × Value → H) :
    ReturnsInHanded {} Try.checked os 3 .any (Rows.cutAllSpec.pre6 enc Try.prog Try.f3 Rows.cutAllRow.domain false) (Rows.cutAllSpec.post enc Try.prog Try.f3 false true false false) :=
  law_lift started (by kernel_rfl) Try.func3
    (ChangeSpec.witness6 (enc := enc) (C := Try.checked) false ⟨#[], #[.slice none 0 0], []⟩ 8 (by kernel_rfl) (by kernel_rfl) (by kernel_rfl) (by kernel_rfl))
    rfl rfl (by kernel_rfl) (by kernel_rfl) (fun l hl => by
      rw [Try.params3] at hl
      match l, hl with
      | [d0], _ => rfl) cutAll_called

theorem cutAll_over : Rows.cutAllRow.holds Try.pinned (OpenSpec.ofChange Rows.cutAllSpec) :=
  OpenClaim.holds_of_wide 3 Try.f3 rfl rfl rfl rfl rfl rfl rfl ⟨rfl, rfl, rfl, rfl, rfl⟩ rfl rfl rfl rfl rfl (by kernel_rfl) Try.func3 (by kernel_rfl)
    (of_decide_eq_true (by kernel_rfl)) (by unfold Func.isWrapper; first | (rw [if_pos (by decide +kernel)]; kernel_rfl) | (rw [if_neg (by decide +kernel)]; exact ⟨rfl, rfl⟩))
    (fun os started H enc _ => cutAll_lifted os started H enc)

theorem cutAll_holds : Rows.CutAllSaid := cutAll_over
end Go.Proofs.Ytgkckldflfalgaa
