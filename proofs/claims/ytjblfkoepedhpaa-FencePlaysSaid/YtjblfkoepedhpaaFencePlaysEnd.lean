/-
  FencePlays: every sequence of calls of a lease has the specified results: the row out of the walk. For every input, no condition.
-/
import Derived.Test.YtjblfkoepedhpaaFencePlays
namespace Go.Proofs.Ytjblfkoepedhpaa
open Go.ChangeShapes Go.WideShapes Go.ChangeAt Go.RowKit

theorem bytes_ints : Try.prog.bytesOf 27 = 24 := by kernel_rfl
set_option maxRecDepth 100000 in
theorem fencePlays_called : Called 6 Try.f6 := by
  intro H enc W base args ds p hval hA hsz
  rw [Try.params6] at hA hval hsz
  obtain ⟨v0, d0, rfl, rfl, h0⟩ := trodAll_one hA
  obtain ⟨A, c, xss, rfl, hr, hl, hm, hd⟩ := open_intRows Try.underlying22 Try.underlying27 Try.underlying3 (by kernel_rfl) (by kernel_rfl) (hval 0 22 v0 rfl rfl) h0
  refine fencePlays_walk A c xss W hr ?_
  rcases hd with ⟨_, rfl, _⟩ | ⟨el, sp, rfl, e1, e2⟩
  · simp
  · have := sized_slice hsz (j := 0) (t := 22) (e := 27) rfl rfl Try.underlying22
    rw [bytes_ints] at this
    simp only [reachBytes] at this
    omega

set_option maxRecDepth 100000 in
theorem fencePlays_lifted (os : Os) (started : os.Started) (H : Type) (enc : TypeId × Value → H) :
    ReturnsInHanded {} Try.checked os 6 .any (Rows.fencePlaysSpec.pre6 enc Try.prog Try.f6 Rows.fencePlaysRow.domain false) (Rows.fencePlaysSpec.post enc Try.prog Try.f6 false true false false) :=
  law_lift started (by kernel_rfl) Try.func6
    (ChangeSpec.witness6 (enc := enc) (C := Try.checked) false ⟨#[], #[.slice none 0 0], []⟩ 8 (by kernel_rfl) (by kernel_rfl) (by kernel_rfl) (by kernel_rfl))
    rfl rfl (by kernel_rfl) (by kernel_rfl) (fun l hl => by
      rw [Try.params6] at hl
      match l, hl with
      | [d0], _ => rfl) fencePlays_called

theorem fencePlays_over : Rows.fencePlaysRow.holds Try.pinned (OpenSpec.ofChange Rows.fencePlaysSpec) :=
  OpenClaim.holds_of_wide 6 Try.f6 rfl rfl rfl rfl rfl rfl rfl ⟨rfl, rfl, rfl, rfl, rfl⟩ rfl rfl rfl rfl rfl (by kernel_rfl) Try.func6 (by kernel_rfl)
    (of_decide_eq_true (by kernel_rfl)) (by unfold Func.isWrapper; first | (rw [if_pos (by decide +kernel)]; kernel_rfl) | (rw [if_neg (by decide +kernel)]; exact ⟨rfl, rfl⟩))
    (fun os started H enc _ => fencePlays_lifted os started H enc)

theorem fencePlays_holds : Rows.FencePlaysSaid := fencePlays_over
end Go.Proofs.Ytjblfkoepedhpaa
