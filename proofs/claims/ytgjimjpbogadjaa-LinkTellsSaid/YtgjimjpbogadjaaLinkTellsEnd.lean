
/-
  LinkTells: for arbitrary arguments, every function of package link returns what the reference returns. For every input, no condition.
-/
import Derived.Test.YtgjimjpbogadjaaLinkTells
import Derived.Test.YtgjimjpbogadjaaLetOpenK
import Derived.Lib.SmallJoins
namespace Go.Proofs.Ytgjimjpbogadjaa
open Go.ChangeShapes Go.WideShapes Go.ChangeAt Go.RowKit Go.Joins Go.Deep

theorem flat_intsK (l : List Int) : flat (fun v : Int => [Value.int .i64 v]) l = ints l := by
  unfold flat ints
  induction l with
  | nil => rfl
  | cons a l ih => simp; exact ih
theorem bytes_intK : Try.prog.bytesOf 3 = 8 := by kernel_rfl
theorem bytes_lkK : Try.prog.bytesOf 114 = 56 := by kernel_rfl
section
variable {H : Type} {enc : TypeId × Value → H} {W : World}
set_option maxRecDepth 100000 in
theorem open_bcK (n : Nat) (cs : List Value) (y : DataW H × List MemPlace) (h : DataW.trod enc Try.prog W 0 (fun _ => true) true n 56 cs = some y) (hs : Sized Try.prog 56 y.1) : ∃ x : BC, cs = [.slice x.A x.len x.cap] ∧ ∃ xs, IIn W (· < W.heap.size) 0 x xs := by
  obtain ⟨A, c, l, hcs, hr, hlc, hm, hA, hG, hby⟩ := open_rowDeep (fun v : Int => [Value.int .i64 v]) (fun v => I64 v) (size := 1) Try.underlying56 (by kernel_rfl) (fun _ => rfl) (by decide) (fun n _ cs y hy _ => by
    obtain ⟨v, e, _, hwf⟩ := DataW.trod_int Try.underlying3 hy
    exact ⟨v, e, I64.of_wf hwf⟩) h hs
  rw [flat_intsK] at hr
  rw [bytes_intK] at hby
  simp only [reachBytes] at hby
  exact ⟨⟨A, l.length, c⟩, hcs, l, rfl, hr, hlc, hm, hA, hG, by omega⟩
set_option maxRecDepth 100000 in
theorem open_lk (fuel : Nat) (cs : List Value) (x : DataW H × List MemPlace) (h : DataW.trod enc Try.prog W 0 (fun _ => true) true fuel 114 cs = some x) (hx : Sized Try.prog 114 x.1) :
    ∃ y : LkC, cs = lkC y ∧ ∃ t, LkIn W (· < W.heap.size) 0 y t := by
  obtain ⟨ys, k, rfl, rfl, hl, hyl, hf⟩ := DataW.trod_struct Try.underlying114 h
  rw [show Try.prog.cellsOf 114 = 3 by kernel_rfl] at hl
  match ys, hyl with
  | [y0, y1, y2], _ =>
  match cs, hl with
  | [c0, c1, c2], _ =>
  have e0 := hf 0 _ rfl
  have e1 := hf 1 _ rfl
  have e2 := hf 2 _ rfl
  simp only [List.getElem?_cons_zero, List.getElem?_cons_succ] at e0 e1 e2
  obtain ⟨n0, h0, _, w0⟩ := DataW.trod_int Try.underlying3 e0
  obtain ⟨x1, h1, xs, hxs⟩ := open_bcK _ _ _ e1 (hx.field Try.underlying114 (j := 1) rfl rfl)
  obtain ⟨x2, h2, zs, hzs⟩ := open_bcK _ _ _ e2 (hx.field Try.underlying114 (j := 2) rfl rfl)
  injection h0 with h0
  injection h1 with h1
  injection h2 with h2
  subst h0 h1 h2
  exact ⟨⟨n0, x1, x2⟩, rfl, ⟨n0, xs, zs⟩, rfl, hxs, hzs⟩
end

set_option maxRecDepth 100000 in
theorem linkTells_called : Called 7 Try.f7 := by
  intro H enc W base args ds p hval hA hsz
  rw [Try.params7] at hA hval hsz
  obtain ⟨args⟩ := args
  obtain ⟨v0, vs0, d0, ds0, p0, q0, hv0, rfl, rfl, h0, hA1⟩ := trodAll_cons hA
  obtain ⟨v1, vs1, d1, ds1, p1, q1, rfl, rfl, rfl, h1, hA2⟩ := trodAll_cons hA1
  obtain ⟨v2, vs2, d2, ds2, p2, q2, rfl, rfl, rfl, h2, hA3⟩ := trodAll_cons hA2
  obtain ⟨v3, vs3, d3, ds3, p3, q3, rfl, rfl, rfl, h3, hA4⟩ := trodAll_cons hA3
  obtain ⟨v4, vs4, d4, ds4, p4, q4, rfl, rfl, rfl, h4, hA5⟩ := trodAll_cons hA4
  obtain ⟨v5, vs5, d5, ds5, p5, q5, rfl, rfl, rfl, h5, hA6⟩ := trodAll_cons hA5
  obtain ⟨rfl, rfl, rfl⟩ := trodAll_nil hA6
  simp only at hv0
  subst hv0
  obtain ⟨ref, rfl, rfl, rfl, w1⟩ := open_int Try.underlying3 (hval 1 3 v1 rfl rfl) h1
  obtain ⟨other, rfl, rfl, rfl, w2⟩ := open_int Try.underlying3 (hval 2 3 v2 rfl rfl) h2
  obtain ⟨failed, rfl, rfl, rfl⟩ := open_bool Try.underlying4 (hval 3 4 v3 rfl rfl) h3
  obtain ⟨tx, rfl, rfl, rfl, w4⟩ := Go.ChangeMaps.open_string Try.underlying9 (hval 4 9 v4 rfl rfl) h4
  obtain ⟨n, x, t, rfl, hx⟩ := open_letterV (hval 5 98 v5 rfl rfl) h5 (sized_each hsz (j := 5) rfl rfl)
  obtain ⟨A, m, c, rfl⟩ := okWide_slice Try.underlying96 (hval 0 96 v0 rfl rfl)
  obtain ⟨fuel, hf⟩ := h0
  obtain ⟨A', c', l, hcs, hr, hlc, hm, hAn, hG, hby⟩ := open_rowDeep lkC (fun y => ∃ t, LkIn W (· < W.heap.size) 0 y t) (size := 3) Try.underlying96 (by kernel_rfl) lkC_len (by decide) (fun n _ cs y hy hs => open_lk n cs y hy hs) hf (sized_each hsz (j := 0) rfl rfl)
  simp [Value.cells] at hcs
  obtain ⟨rfl, rfl, rfl⟩ := hcs
  rw [bytes_lkK] at hby
  obtain ⟨vs, hvl, hvs⟩ := choose_list (fun i (t : Lk) => LkIn W (· < W.heap.size) 0 (l.getD i lkc0) t) l.length (fun i hi => hG _ (getD_mem lkc0 hi))
  refine linkTells_walk n A c l vs ref other failed tx x t W ⟨hvl.symm, hr, fun i hi => hvs i _ (getD_some lk0 (by omega)), hlc, hm, hAn, ?_⟩ (I64.of_wf w1) (I64.of_wf w2) w4 hx
  have : l.length * 56 ≤ c * 56 := Nat.mul_le_mul_right _ hlc
  omega

set_option maxRecDepth 100000 in
theorem linkTells_lifted (os : Os) (started : os.Started) (H : Type) (enc : TypeId × Value → H) :
    ReturnsInHanded {} Try.checked os 7 .any (Rows.linkTellsSpec.pre6 enc Try.prog Try.f7 Rows.linkTellsRow.domain false) (Rows.linkTellsSpec.post enc Try.prog Try.f7 false true false false) :=
  law_lift started (by kernel_rfl) Try.func7
    (ChangeSpec.witness6 (enc := enc) (C := Try.checked) false ⟨#[], #[.slice none 0 0, .int .i64 0, .int .i64 0, .bool false, .string ⟨#[]⟩, .agg #[.int .i64 0, .int .i64 0, .int .i64 0, .int .i64 0, .string ⟨#[]⟩, .int .i64 0, .int .i64 0, .string ⟨#[]⟩, .slice none 0 0]], []⟩ 8 (by kernel_rfl) (by kernel_rfl) (by kernel_rfl) (by kernel_rfl))
    rfl rfl (by kernel_rfl) (by kernel_rfl) (fun l hl => by
      rw [Try.params7] at hl
      match l, hl with
      | [d0, d1, d2, d3, d4, d5], _ => rfl) linkTells_called

theorem linkTells_over : Rows.linkTellsRow.holds Try.pinned (OpenSpec.ofChange Rows.linkTellsSpec) :=
  OpenClaim.holds_of_wide 7 Try.f7 rfl rfl rfl rfl rfl rfl rfl ⟨rfl, rfl, rfl, rfl, rfl⟩ rfl rfl rfl rfl rfl (by kernel_rfl) Try.func7 (by kernel_rfl)
    (of_decide_eq_true (by kernel_rfl)) (by unfold Func.isWrapper; first | (rw [if_pos (by decide +kernel)]; kernel_rfl) | (rw [if_neg (by decide +kernel)]; exact ⟨rfl, rfl⟩))
    (fun os started H enc _ => linkTells_lifted os started H enc)

theorem linkTells_holds : Rows.LinkTellsSaid := linkTells_over
end Go.Proofs.Ytgjimjpbogadjaa

