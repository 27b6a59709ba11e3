
/-
  CodeChecks: Check returns the error of the reference for any program. For every input of bulk at most 1048576 (the given bound of the second form).
-/
import Derived.Test.YthglcnodoophaaaCodeChecks
import Derived.Test.YthglcnodoophaaaCkOpen
import Derived.Test.YthglcnodoophaaaFrameU
import Derived.Lib.SmallJoins
namespace Go.Proofs.Ythglcnodoophaaa
open Go.ChangeShapes Go.WideShapes Go.ChangeAt Go.RowKit Go.Joins Go.Deep

set_option maxRecDepth 100000 in
theorem codeChecks_called : CalledUpto 3 Try.f3 := by
  intro H enc W base args ds p hval hA hsz hbulk
  rw [Try.params3] at hA hval hsz
  obtain ⟨v0, d0, rfl, rfl, h0⟩ := trodAll_one hA
  simp only [Rows.uptoBulkAll] at hbulk
  obtain ⟨n, u, P, rfl, hin⟩ := open_ckB (hval 0 30 v0 rfl rfl) h0 (sized_each hsz (j := 0) rfl rfl) (by omega)
  exact codeChecks_any W.heap.size n u P W hin (Nat.le_refl _)

set_option maxRecDepth 100000 in
theorem codeChecks_lifted (os : Os) (started : os.Started) (H : Type) (enc : TypeId × Value → H) (F : Stop.Interp) :
    ReturnsInHanded {} Try.checked os 3 .any ((Rows.OpenSpec.upto Rows.codeChecksSpec).pre6 enc Try.prog Try.f3 Rows.codeChecksUptoRow.domain false) (((Rows.OpenSpec.upto Rows.codeChecksSpec).at F).post enc Try.prog Try.f3 false true false false) :=
  law_lift_upto started (by kernel_rfl) Try.func3
    (OpenSpec.witness (enc := enc) (C := Try.checked) (s := Rows.OpenSpec.upto Rows.codeChecksSpec) (k := Rows.uptoSmall) rfl false ⟨#[], #[.agg #[.slice none 0 0, .slice none 0 0, .slice none 0 0, .slice none 0 0, .slice none 0 0, .slice none 0 0, .slice none 0 0]], []⟩ 8 (by kernel_rfl) (by kernel_rfl) (by kernel_rfl)
      (x := ([.agg [.nil, .nil, .nil, .nil, .nil, .nil, .nil]], [], [])) (by kernel_rfl) rfl (by kernel_rfl))
    rfl rfl (by kernel_rfl) (by kernel_rfl) (fun l hl => by
      rw [Try.params3] at hl
      match l, hl with
      | [d0], _ => rfl) codeChecks_called

theorem codeChecks_holds : Rows.CodeChecksUptoSaid :=
  OpenClaim.holds_of_cond 3 Try.f3 rfl rfl rfl rfl rfl rfl rfl ⟨rfl, rfl, rfl, rfl, rfl⟩ rfl rfl rfl rfl rfl (by kernel_rfl) Try.func3 (by kernel_rfl)
    (of_decide_eq_true (by kernel_rfl)) (by unfold Func.isWrapper; first | (rw [if_pos (by decide +kernel)]; kernel_rfl) | (rw [if_neg (by decide +kernel)]; exact ⟨rfl, rfl⟩))
    (fun os started H enc _ F => codeChecks_lifted os started H enc F)
end Go.Proofs.Ythglcnodoophaaa
