
/-
  CyclePlays: for all arguments, New, Come, Out, Left and Counts return the specified results while messages come. For every input of bulk at most 1048576 (the given bound of the second form).
-/
import Derived.Test.YtbhdagjilmgahaaCyclePlays
import Derived.Test.YtbhdagjilmgahaaKnOpen
import Derived.Test.YtbhdagjilmgahaaFrameU
import Derived.Lib.SmallJoins
namespace Go.Proofs.Ytbhdagjilmgahaa
open Go.ChangeShapes Go.WideShapes Go.ChangeAt Go.RowKit Go.Joins Go.Deep

set_option maxRecDepth 100000 in
theorem cyclePlays_called : CalledUpto 4 Try.f4 := by
  intro H enc W base args ds p hval hA hsz hbulk
  rw [Try.params4] at hA hval hsz
  obtain ⟨v0, v1, d0, d1, p0, p1, rfl, rfl, rfl, h0, h1⟩ := trodAll_two hA
  simp only [Rows.uptoBulkAll] at hbulk
  obtain ⟨A0, n0, c0, rfl⟩ := okWide_slice Try.underlying22 (hval 0 22 v0 rfl rfl)
  obtain ⟨B, d, P, rfl, hin1, _, _, hd⟩ := open_intRows Try.underlying30 Try.underlying23 Try.underlying3 (by kernel_rfl) (by kernel_rfl) (hval 1 30 v1 rfl rfl) h1
  obtain ⟨fuel, hf⟩ := h0
  obtain ⟨A, c, K, hcs, hin, hl, hc, hA0⟩ := open_knc _ _ _ hf (sized_each hsz (j := 0) rfl rfl) (show Rows.uptoBulk d0 ≤ 1048576 by omega)
  injection hcs with hcs
  rw [hcs]
  refine cyclePlays_any A B c d K P W hin hin1 hl hc hA0 ?_
  rcases hd with ⟨_, rfl, _⟩ | ⟨el, sp, rfl, hl1, _⟩
  · simp
  · have h3 := bulk_len el
    simp only [Rows.uptoBulk] at hbulk
    omega

set_option maxRecDepth 100000 in
theorem cyclePlays_lifted (os : Os) (started : os.Started) (H : Type) (enc : TypeId × Value → H) (F : Stop.Interp) :
    ReturnsInHanded {} Try.checked os 4 .any ((Rows.OpenSpec.upto Rows.cyclePlaysSpec).pre6 enc Try.prog Try.f4 Rows.cyclePlaysUptoRow.domain false) (((Rows.OpenSpec.upto Rows.cyclePlaysSpec).at F).post enc Try.prog Try.f4 false true false false) :=
  law_lift_upto started (by kernel_rfl) Try.func4
    (OpenSpec.witness (enc := enc) (C := Try.checked) (s := Rows.OpenSpec.upto Rows.cyclePlaysSpec) (k := Rows.uptoSmall) rfl false ⟨#[], #[.slice none 0 0, .slice none 0 0], []⟩ 8 (by kernel_rfl) (by kernel_rfl) (by kernel_rfl)
      (x := ([.nil, .nil], [], [])) (by kernel_rfl) rfl (by kernel_rfl))
    rfl rfl (by kernel_rfl) (by kernel_rfl) (fun l hl => by
      rw [Try.params4] at hl
      match l, hl with
      | [d0, d1], _ => rfl) cyclePlays_called

theorem cyclePlays_holds : Rows.CyclePlaysUptoSaid :=
  OpenClaim.holds_of_cond 4 Try.f4 rfl rfl rfl rfl rfl rfl rfl ⟨rfl, rfl, rfl, rfl, rfl⟩ rfl rfl rfl rfl rfl (by kernel_rfl) Try.func4 (by kernel_rfl)
    (of_decide_eq_true (by kernel_rfl)) (by unfold Func.isWrapper; first | (rw [if_pos (by decide +kernel)]; kernel_rfl) | (rw [if_neg (by decide +kernel)]; exact ⟨rfl, rfl⟩))
    (fun os started H enc _ F => cyclePlays_lifted os started H enc F)
end Go.Proofs.Ytbhdagjilmgahaa
