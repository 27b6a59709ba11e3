
/-
  CycleSays: Passes and Garbage return the specified results for all arguments. For every input of bulk at most 1048576 (the given bound of the second form).
-/
import Derived.Test.YtbhdagjilmgahaaCycleSays
import Derived.Test.YtbhdagjilmgahaaKnOpen
import Derived.Test.YtbhdagjilmgahaaFrameU
import Derived.Lib.SmallJoins
namespace Go.Proofs.Ytbhdagjilmgahaa
open Go.ChangeShapes Go.WideShapes Go.ChangeAt Go.RowKit Go.Joins Go.Deep

set_option maxRecDepth 100000 in
theorem cycleSays_called : CalledUpto 3 Try.f3 := by
  intro H enc W base args ds p hval hA hsz hbulk
  rw [Try.params3] at hA hval hsz
  obtain ⟨v0, d0, rfl, rfl, h0⟩ := trodAll_one hA
  simp only [Rows.uptoBulkAll] at hbulk
  obtain ⟨A0, n0, c0, rfl⟩ := okWide_slice Try.underlying22 (hval 0 22 v0 rfl rfl)
  obtain ⟨fuel, hf⟩ := h0
  obtain ⟨A, c, K, hcs, hin, hl, hc⟩ := open_kn _ _ _ hf (sized_each hsz (j := 0) rfl rfl) (show Rows.uptoBulk d0 ≤ 1048576 by omega)
  injection hcs with hcs
  rw [hcs]
  exact cycleSays_any A c W.heap.size K W hin (Nat.le_refl _) hl hc

set_option maxRecDepth 100000 in
theorem cycleSays_lifted (os : Os) (started : os.Started) (H : Type) (enc : TypeId × Value → H) (F : Stop.Interp) :
    ReturnsInHanded {} Try.checked os 3 .any ((Rows.OpenSpec.upto Rows.cycleSaysSpec).pre6 enc Try.prog Try.f3 Rows.cycleSaysUptoRow.domain false) (((Rows.OpenSpec.upto Rows.cycleSaysSpec).at F).post enc Try.prog Try.f3 false true false false) :=
  law_lift_upto started (by kernel_rfl) Try.func3
    (OpenSpec.witness (enc := enc) (C := Try.checked) (s := Rows.OpenSpec.upto Rows.cycleSaysSpec) (k := Rows.uptoSmall) rfl false ⟨#[], #[.slice none 0 0], []⟩ 8 (by kernel_rfl) (by kernel_rfl) (by kernel_rfl)
      (x := ([.nil], [], [])) (by kernel_rfl) rfl (by kernel_rfl))
    rfl rfl (by kernel_rfl) (by kernel_rfl) (fun l hl => by
      rw [Try.params3] at hl
      match l, hl with
      | [d0], _ => rfl) cycleSays_called

theorem cycleSays_holds : Rows.CycleSaysUptoSaid :=
  OpenClaim.holds_of_cond 3 Try.f3 rfl rfl rfl rfl rfl rfl rfl ⟨rfl, rfl, rfl, rfl, rfl⟩ rfl rfl rfl rfl rfl (by kernel_rfl) Try.func3 (by kernel_rfl)
    (of_decide_eq_true (by kernel_rfl)) (by unfold Func.isWrapper; first | (rw [if_pos (by decide +kernel)]; kernel_rfl) | (rw [if_neg (by decide +kernel)]; exact ⟨rfl, rfl⟩))
    (fun os started H enc _ F => cycleSays_lifted os started H enc F)
end Go.Proofs.Ytbhdagjilmgahaa
