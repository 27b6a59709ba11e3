/-
  TermTells: for every input each function of package term returns what the reference returns. The row's own cell 'loops' is the only narrowing.
-/
import Derived.Test.YtjblfkoepedhpaaTermTells
import Derived.Deep.Slices
namespace Go.Proofs.Ytjblfkoepedhpaa
open Go.ChangeShapes Go.WideShapes Go.ChangeAt Go.RowKit Go.Joins Go.Deep

set_option maxRecDepth 100000 in
theorem termTells_called : Called 9 Try.f9 := by
  intro H enc W base args ds p hval hA hsz
  rw [Try.params9] at hA hval
  obtain ⟨v0, v1, v2, v3, d0, d1, d2, d3, p0, p1, p2, p3, rfl, rfl, rfl, h0, h1, h2, h3⟩ := trodAll_four hA
  obtain ⟨t, rfl, rfl, rfl, w0⟩ := open_int Try.underlying3 (hval 0 3 v0 rfl rfl) h0
  obtain ⟨n, rfl, rfl, rfl, w1⟩ := open_int Try.underlying3 (hval 1 3 v1 rfl rfl) h1
  obtain ⟨u, rfl, rfl, rfl, w2⟩ := open_int Try.underlying62 (hval 2 62 v2 rfl rfl) h2
  obtain ⟨c0, c1, c2, c3, y0, y1, y2, y3, m, rfl, rfl, rfl, e0, e1, e2, e3⟩ := open_agg4 Try.underlying65 (by kernel_rfl) (by kernel_rfl) (hval 3 65 v3 rfl rfl) h3
  obtain ⟨k, hk, _, _⟩ := DataW.trod_int Try.underlying3 e0
  obtain ⟨num, hnum, _, _⟩ := DataW.trod_int Try.underlying3 e1
  obtain ⟨s, hs, _, _⟩ := DataW.trod_string Try.underlying9 e2
  simp only [List.cons.injEq, and_true] at hk hnum hs
  subst hk hnum hs
  have hu : 0 ≤ u ∧ u < 18446744073709551616 := by
    have : 0 ≤ u ∧ u ≤ 18446744073709551615 := by simpa [Lit.wf, IntKind.min, IntKind.max, IntKind.signed, IntKind.bits] using w2
    omega
  rcases open_slice Try.underlying63 e3 with ⟨hc, _⟩ | ⟨a, len, cap, _, _, _, _, hc, _, hl, hm, _⟩
  · simp only [List.cons.injEq, and_true] at hc
    subst hc
    exact termTells_walk t n u k num s none 0 0 W hu.1 hu.2 (Nat.zero_le _)
  · simp only [List.cons.injEq, and_true] at hc
    subst hc
    exact termTells_walk t n u k num s (some a) len cap W hu.1 hu.2 (by omega)

set_option maxRecDepth 100000 in
theorem termTells_lifted (os : Os) (started : os.Started) (H : Type) (enc : TypeId × Value → H) :
    ReturnsInHanded {} Try.checked os 9 .any (Rows.termTellsSpec.pre6 enc Try.prog Try.f9 Rows.termTellsRow.domain false) (Rows.termTellsSpec.post enc Try.prog Try.f9 false true false false) :=
  law_lift started (by kernel_rfl) Try.func9
    (ChangeSpec.witness6 (enc := enc) (C := Try.checked) false ⟨#[], #[.int .i64 0, .int .i64 0, .int .u64 0, .agg #[.int .i64 0, .int .i64 0, .string .empty, .slice none 0 0]], []⟩ 8 (by kernel_rfl) (by kernel_rfl) (by kernel_rfl) (by kernel_rfl))
    rfl rfl (by kernel_rfl) (by kernel_rfl) (fun l hl => by
      rw [Try.params9] at hl
      match l, hl with
      | [d0, d1, d2, d3], _ => rfl) termTells_called

theorem termTells_over : Rows.termTellsRow.holds Try.pinned (OpenSpec.ofChange Rows.termTellsSpec) :=
  OpenClaim.holds_of_wide 9 Try.f9 rfl rfl rfl rfl rfl rfl rfl ⟨rfl, rfl, rfl, rfl, rfl⟩ rfl rfl rfl rfl rfl (by kernel_rfl) Try.func9 (by kernel_rfl)
    (of_decide_eq_true (by kernel_rfl)) (by unfold Func.isWrapper; first | (rw [if_pos (by decide +kernel)]; kernel_rfl) | (rw [if_neg (by decide +kernel)]; exact ⟨rfl, rfl⟩))
    (fun os started H enc _ => termTells_lifted os started H enc)

theorem termTells_holds : Rows.TermTellsSaid := termTells_over
end Go.Proofs.Ytjblfkoepedhpaa
