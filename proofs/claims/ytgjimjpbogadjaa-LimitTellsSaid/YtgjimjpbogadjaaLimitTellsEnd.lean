
/-
  LimitTells: for arbitrary arguments (values of at most 500 parts, nested at most 60 deep), every function of package limit returns what the reference returns. For every input, no condition.
-/
import Derived.Test.YtgjimjpbogadjaaLimitTells
import Derived.Test.YtgjimjpbogadjaaOpen2
import Derived.Lib.SmallJoins
namespace Go.Proofs.Ytgjimjpbogadjaa
open Go.ChangeShapes Go.WideShapes Go.ChangeAt Go.RowKit Go.Joins Go.Deep

section
variable {H : Type} {enc : TypeId × Value → H} {W : World}
set_option maxRecDepth 100000 in
theorem open_lms {t : TypeId} (ht : Try.prog.underlying t = some (.slice 89)) {fuel : Nat} {cs : List Value} {x : DataW H × List MemPlace} (h : DataW.trod enc Try.prog W 0 (fun _ => true) true fuel t cs = some x) :
    ∃ (A : Option Addr) (c : Nat) (l : List Lm), cs = [.slice A l.length c] ∧ Row W W.heap.size A (flat lmC l) ∧ l.length ≤ c ∧ c ≤ maxLen ∧ (A = none → c = 0) ∧ (∀ x ∈ l, True) ∧
      ((x.1 = .nil ∧ l = [] ∧ c = 0) ∨ ∃ el sp, x.1 = .slice el sp ∧ el.length = l.length ∧ el.length + sp.length = c) :=
  open_rowOf lmC (fun _ => True) (size := 5) ht (by kernel_rfl) lmC_len (by decide) (fun n cs y hy => by
    obtain ⟨hl, hfs⟩ := open_fields Try.underlying89 (by kernel_rfl) (by kernel_rfl) hy
    obtain ⟨u0, y0, k0, hu0, ht0⟩ := hfs 0 _ rfl
    obtain ⟨u1, y1, k1, hu1, ht1⟩ := hfs 1 _ rfl
    obtain ⟨u2, y2, k2, hu2, ht2⟩ := hfs 2 _ rfl
    obtain ⟨u3, y3, k3, hu3, ht3⟩ := hfs 3 _ rfl
    obtain ⟨u4, y4, k4, hu4, ht4⟩ := hfs 4 _ rfl
    obtain ⟨n0, e0, _⟩ := DataW.trod_int Try.underlying3 ht0
    obtain ⟨n1, e1, _⟩ := DataW.trod_int Try.underlying3 ht1
    obtain ⟨n2, e2, _⟩ := DataW.trod_int Try.underlying3 ht2
    obtain ⟨n3, e3, _⟩ := DataW.trod_int Try.underlying3 ht3
    obtain ⟨n4, e4, _⟩ := DataW.trod_int Try.underlying3 ht4
    injection e0 with e0
    injection e1 with e1
    injection e2 with e2
    injection e3 with e3
    injection e4 with e4
    subst e0 e1 e2 e3 e4
    refine ⟨⟨n0, n1, n2, n3, n4⟩, ?_, trivial⟩
    match cs, hl with
    | [a, b, c, d, e], _ =>
      simp at hu0 hu1 hu2 hu3 hu4
      subst hu0 hu1 hu2 hu3 hu4
      rfl) h
set_option maxRecDepth 100000 in
theorem open_valV {r : Reach} {b0 : Nat} {v : Value} {d : DataW H} {ps : List MemPlace} (hv : Value.okWide Try.prog W r b0 26 v) (h : DataW.Trod enc Try.prog W 0 (fun _ => true) true 26 v d ps) (hx : Sized Try.prog 26 d) :
    ∃ (n : Nat) (x : VC) (t : Val), v = valV x ∧ VIn W (· < W.heap.size) n x t := by
  obtain ⟨cs, rfl, hsz⟩ := okWide_struct Try.underlying26 hv
  obtain ⟨fuel, hf⟩ := h
  obtain ⟨y, hy, t, ht⟩ := open_val _ _ _ hf hx
  refine ⟨fuel, y, t, ?_, ht⟩
  have : cs = (valC y).toArray := by
    rw [← hy]
    simp [Value.cells]
  rw [this]
  rfl
end

set_option maxRecDepth 100000 in
theorem limitTells_called : Called 6 Try.f6 := by
  intro H enc W base args ds p hval hA hsz
  rw [Try.params6] at hA hval hsz
  obtain ⟨args⟩ := args
  obtain ⟨v0, vs0, d0, ds0, p0, q0, hv0, rfl, rfl, h0, hA1⟩ := trodAll_cons hA
  obtain ⟨v1, vs1, d1, ds1, p1, q1, rfl, rfl, rfl, h1, hA2⟩ := trodAll_cons hA1
  obtain ⟨v2, vs2, d2, ds2, p2, q2, rfl, rfl, rfl, h2, hA3⟩ := trodAll_cons hA2
  obtain ⟨v3, vs3, d3, ds3, p3, q3, rfl, rfl, rfl, h3, hA4⟩ := trodAll_cons hA3
  obtain ⟨v4, vs4, d4, ds4, p4, q4, rfl, rfl, rfl, h4, hA5⟩ := trodAll_cons hA4
  obtain ⟨v5, vs5, d5, ds5, p5, q5, rfl, rfl, rfl, h5, hA6⟩ := trodAll_cons hA5
  obtain ⟨rfl, rfl, rfl⟩ := trodAll_nil hA6
  simp only at hv0
  subst hv0
  obtain ⟨A0, n0, c0, rfl⟩ := okWide_slice Try.underlying79 (hval 0 79 v0 rfl rfl)
  obtain ⟨fuel, hf⟩ := h0
  obtain ⟨A, c, l, hcs, hr, hlc, hcm, hnone, _, _⟩ := open_lms Try.underlying79 hf
  simp [Value.cells] at hcs
  obtain ⟨rfl, rfl, rfl⟩ := hcs
  obtain ⟨ref, rfl, rfl, rfl, _⟩ := open_int Try.underlying3 (hval 1 3 v1 rfl rfl) h1
  obtain ⟨tt, rfl, rfl, rfl, _⟩ := open_int Try.underlying3 (hval 2 3 v2 rfl rfl) h2
  obtain ⟨a, rfl, rfl, rfl, _⟩ := open_int Try.underlying3 (hval 3 3 v3 rfl rfl) h3
  obtain ⟨b, rfl, rfl, rfl, _⟩ := open_int Try.underlying3 (hval 4 3 v4 rfl rfl) h4
  obtain ⟨n, x, t, rfl, hx⟩ := open_valV (hval 5 26 v5 rfl rfl) h5 (sized_each hsz (j := 5) rfl rfl)
  exact limitTells_walk n x t A0 c0 l ref tt a b W hx hr hnone (Nat.le_trans hlc hcm)

set_option maxRecDepth 100000 in
theorem limitTells_lifted (os : Os) (started : os.Started) (H : Type) (enc : TypeId × Value → H) :
    ReturnsInHanded {} Try.checked os 6 .any (Rows.limitTellsSpec.pre6 enc Try.prog Try.f6 Rows.limitTellsRow.domain false) (Rows.limitTellsSpec.post enc Try.prog Try.f6 false true false false) :=
  law_lift started (by kernel_rfl) Try.func6
    (ChangeSpec.witness6 (enc := enc) (C := Try.checked) false ⟨#[], #[.slice none 0 0, .int .i64 0, .int .i64 0, .int .i64 0, .int .i64 0, .agg #[.int .i64 0, .int .i64 0, .string ⟨#[]⟩, .slice none 0 0]], []⟩ 8 (by kernel_rfl) (by kernel_rfl) (by kernel_rfl) (by kernel_rfl))
    rfl rfl (by kernel_rfl) (by kernel_rfl) (fun l hl => by
      rw [Try.params6] at hl
      match l, hl with
      | [d0, d1, d2, d3, d4, d5], _ => rfl) limitTells_called

theorem limitTells_over : Rows.limitTellsRow.holds Try.pinned (OpenSpec.ofChange Rows.limitTellsSpec) :=
  OpenClaim.holds_of_wide 6 Try.f6 rfl rfl rfl rfl rfl rfl rfl ⟨rfl, rfl, rfl, rfl, rfl⟩ rfl rfl rfl rfl rfl (by kernel_rfl) Try.func6 (by kernel_rfl)
    (of_decide_eq_true (by kernel_rfl)) (by unfold Func.isWrapper; first | (rw [if_pos (by decide +kernel)]; kernel_rfl) | (rw [if_neg (by decide +kernel)]; exact ⟨rfl, rfl⟩))
    (fun os started H enc _ => limitTells_lifted os started H enc)

theorem limitTells_holds : Rows.LimitTellsSaid := limitTells_over
end Go.Proofs.Ytgjimjpbogadjaa
