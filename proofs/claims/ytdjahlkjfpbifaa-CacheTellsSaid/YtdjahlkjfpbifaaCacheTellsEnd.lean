
/-
  CacheTells: hits, misses and the entries of every call site agree with the reference. For every input, no condition.
-/
import Derived.Test.YtdjahlkjfpbifaaCacheTells
import Derived.Test.YtdjahlkjfpbifaaCaOpen
namespace Go.Proofs.Ytdjahlkjfpbifaa
open Go.ChangeShapes Go.WideShapes Go.ChangeAt Go.RowKit Go.Deep

set_option maxRecDepth 100000 in
theorem cacheTells_called : Called 4 Try.f4 := by
  intro H enc W base args ds p hval hA hsz
  rw [Try.params4] at hA hval hsz
  obtain ⟨v0, v1, d0, d1, p0, p1, rfl, rfl, rfl, h0, h1⟩ := trodAll_two hA
  obtain ⟨n, q0, q1, q2, q3, q5, q6, A4, c4, ims, fs, ls, rfl, hc, him, hA4, hic, hi4⟩ := open_code (hval 0 62 v0 rfl rfl) h0 (sized_each hsz (j := 0) rfl rfl)
  obtain ⟨Al, cl, al, rfl, hal, hac, hcl, hI⟩ := open_asks (hval 1 63 v1 rfl rfl) h1 (sized_each hsz (j := 1) rfl rfl)
  exact cacheTells_walk W.heap.size n q0 q1 q2 q3 q5 q6 A4 c4 ims fs ls Al cl al W (Nat.le_refl _) hc him hA4 hic hi4 hal hac hcl hI


set_option maxRecDepth 100000 in
theorem cacheTells_lifted (os : Os) (started : os.Started) (H : Type) (enc : TypeId × Value → H) :
    ReturnsInHanded {} Try.checked os 4 .any (Rows.cacheTellsSpec.pre6 enc Try.prog Try.f4 Rows.cacheTellsRow.domain false) (Rows.cacheTellsSpec.post enc Try.prog Try.f4 false true false false) :=
  law_lift started (by kernel_rfl) Try.func4
    (ChangeSpec.witness6 (enc := enc) (C := Try.checked) false ⟨#[], #[.agg #[.slice none 0 0, .slice none 0 0, .slice none 0 0, .slice none 0 0, .slice none 0 0, .slice none 0 0, .slice none 0 0], .slice none 0 0], []⟩ 8 (by kernel_rfl) (by kernel_rfl) (by kernel_rfl) (by kernel_rfl))
    rfl rfl (by kernel_rfl) (by kernel_rfl) (fun l hl => by
      rw [Try.params4] at hl
      match l, hl with
      | [d0, d1], _ => rfl) cacheTells_called

theorem cacheTells_over : Rows.cacheTellsRow.holds Try.pinned (OpenSpec.ofChange Rows.cacheTellsSpec) :=
  OpenClaim.holds_of_wide 4 Try.f4 rfl rfl rfl rfl rfl rfl rfl ⟨rfl, rfl, rfl, rfl, rfl⟩ rfl rfl rfl rfl rfl (by kernel_rfl) Try.func4 (by kernel_rfl)
    (of_decide_eq_true (by kernel_rfl)) (by unfold Func.isWrapper; first | (rw [if_pos (by decide +kernel)]; kernel_rfl) | (rw [if_neg (by decide +kernel)]; exact ⟨rfl, rfl⟩))
    (fun os started H enc _ => cacheTells_lifted os started H enc)

theorem cacheTells_holds : Rows.CacheTellsSaid := cacheTells_over
end Go.Proofs.Ytdjahlkjfpbifaa
