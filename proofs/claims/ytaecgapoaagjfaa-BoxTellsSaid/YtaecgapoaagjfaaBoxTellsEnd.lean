/-
  BoxTells: for arbitrary arguments, every function of package box returns what the reference returns.
-/
import Derived.Test.YtaecgapoaagjfaaBoxTells
import Derived.Test.YtaecgapoaagjfaaLetOpen
namespace Go.Proofs.Ytaecgapoaagjfaa
open Go.ChangeShapes Go.WideShapes Go.ChangeAt Go.RowKit Go.Deep

set_option maxRecDepth 100000 in
theorem boxTells_called : Called 3 Try.f3 := by
  intro H enc W base args ds p hval hA hsz
  rw [Try.params3] at hA hval hsz
  obtain ⟨v0, v1, v2, d0, d1, d2, p0, p1, p2, rfl, rfl, rfl, h0, h1, h2⟩ := trodAll_three hA
  obtain ⟨who, rfl, rfl, rfl, w2⟩ := open_int Try.underlying3 (hval 2 3 v2 rfl rfl) h2
  obtain ⟨n, A, c, l, ts, at1, rfl, hr, _⟩ := open_box (hval 0 24 v0 rfl rfl) h0 (sized_each hsz (j := 0) rfl rfl)
  obtain ⟨m, x, t, rfl, hx⟩ := open_letterV (hval 1 29 v1 rfl rfl) h1 (sized_each hsz (j := 1) rfl rfl)
  exact boxTells_walk (max n m) A c l ts at1 who x t W (hr.more (Nat.le_max_left _ _)) (hx.more (Nat.le_max_right _ _))

set_option maxRecDepth 100000 in
theorem boxTells_lifted (os : Os) (started : os.Started) (H : Type) (enc : TypeId × Value → H) :
    ReturnsInHanded {} Try.checked os 3 .any (Rows.boxTellsSpec.pre6 enc Try.prog Try.f3 Rows.boxTellsRow.domain false) (Rows.boxTellsSpec.post enc Try.prog Try.f3 false true false false) :=
  law_lift started (by kernel_rfl) Try.func3
    (ChangeSpec.witness6 (enc := enc) (C := Try.checked) false ⟨#[], #[.agg #[.slice none 0 0, .int .i64 0], .agg #[.int .i64 0, .int .i64 0, .int .i64 0, .int .i64 0, .string ⟨#[]⟩, .int .i64 0, .int .i64 0, .string ⟨#[]⟩, .slice none 0 0], .int .i64 0], []⟩ 8 (by kernel_rfl) (by kernel_rfl) (by kernel_rfl) (by kernel_rfl))
    rfl rfl (by kernel_rfl) (by kernel_rfl) (fun l hl => by
      rw [Try.params3] at hl
      match l, hl with
      | [d0, d1, d2], _ => rfl) boxTells_called

theorem boxTells_over : Rows.boxTellsRow.holds Try.pinned (OpenSpec.ofChange Rows.boxTellsSpec) :=
  OpenClaim.holds_of_wide 3 Try.f3 rfl rfl rfl rfl rfl rfl rfl ⟨rfl, rfl, rfl, rfl, rfl⟩ rfl rfl rfl rfl rfl (by kernel_rfl) Try.func3 (by kernel_rfl)
    (of_decide_eq_true (by kernel_rfl)) (by unfold Func.isWrapper; first | (rw [if_pos (by decide +kernel)]; kernel_rfl) | (rw [if_neg (by decide +kernel)]; exact ⟨rfl, rfl⟩))
    (fun os started H enc _ => boxTells_lifted os started H enc)

theorem boxTells_holds : Rows.BoxTellsSaid := boxTells_over
end Go.Proofs.Ytaecgapoaagjfaa
