/-
  CodeTells: Names, Operator, Writes, Reads, Arms and Next agree with the reference. For every input of bulk at most 1048576 (the given bound of the second form).
-/
import Derived.Test.YtlnjapbpfhcloaaCodeTells
import Derived.Test.YtlnjapbpfhcloaaFrameU
import Derived.Lib.SmallJoins
namespace Go.Proofs.Ytlnjapbpfhcloaa
open Go.ChangeShapes Go.WideShapes Go.ChangeAt Go.RowKit Go.Joins Go.Deep

theorem flat_ints : ∀ l : List Int, flat (fun x : Int => [Value.int .i64 x]) l = ints l
  | [] => rfl
  | x :: r => congrArg (Value.int .i64 x :: ·) (flat_ints r)

section
variable {H : Type} {enc : TypeId × Value → H} {W : World}
set_option maxRecDepth 100000 in
theorem open_ins {r : Reach} {b0 : Nat} {v : Value} {d : DataW H} {ps : List MemPlace} (hv : Value.okWide Try.prog W r b0 24 v) (h : DataW.Trod enc Try.prog W 0 (fun _ => true) true 24 v d ps) :
    ∃ x : InC, v = inV x ∧ Row W W.heap.size x.A (ints x.args) ∧ x.args.length ≤ x.cap ∧ x.cap ≤ maxLen ∧ (x.A = none → x.cap = 0) := by
  obtain ⟨cs, rfl, hsz⟩ := okWide_struct Try.underlying24 hv
  obtain ⟨fuel, hf⟩ := h
  obtain ⟨ys, k, rfl, hd, hl, hyl, hg⟩ := DataW.trod_struct Try.underlying24 hf
  injection hd with hd
  subst hd
  rw [show Try.prog.cellsOf 24 = 5 by kernel_rfl] at hsz
  obtain ⟨cs⟩ := cs
  match ys, hyl with
  | [y0, y1, y2, y3, y4], _ =>
  match cs, hsz with
  | [c0, c1, c2, c3, c4], _ =>
  have e0 := hg 0 _ rfl
  have e1 := hg 1 _ rfl
  have e2 := hg 2 _ rfl
  have e3 := hg 3 _ rfl
  have e4 := hg 4 _ rfl
  have k0 : Try.prog.cellsOf 3 = 1 := by kernel_rfl
  have k2 : Try.prog.cellsOf 22 = 1 := by kernel_rfl
  simp only [List.getElem?_cons_zero, List.getElem?_cons_succ] at e0 e1 e2 e3 e4
  obtain ⟨n0, h0, _, w0⟩ := DataW.trod_int Try.underlying3 e0
  obtain ⟨n1, h1, _, w1⟩ := DataW.trod_int Try.underlying3 e1
  obtain ⟨n2, h2, _, w2⟩ := DataW.trod_int Try.underlying3 e2
  obtain ⟨n3, h3, _, w3⟩ := DataW.trod_int Try.underlying3 e3
  obtain ⟨A, c, l, h4, hr, hlc, hm, hA, _⟩ := open_rowOf (fun x : Int => [Value.int .i64 x]) (fun _ => True) (size := 1) Try.underlying22 (by kernel_rfl) (fun _ => rfl) (by decide) (fun n cs y hy => by
    obtain ⟨m, hm, _⟩ := DataW.trod_int Try.underlying3 hy
    exact ⟨m, hm, trivial⟩) e4
  injection h0 with h0
  injection h1 with h1
  injection h2 with h2
  injection h3 with h3
  injection h4 with h4
  subst h0 h1 h2 h3 h4
  refine ⟨⟨n0, n1, n2, n3, A, c, l⟩, rfl, ?_, hlc, hm, hA⟩
  rw [flat_ints] at hr
  exact hr
set_option maxRecDepth 100000 in
theorem open_patV {r : Reach} {b0 : Nat} {v : Value} {d : DataW H} {ps : List MemPlace} (hv : Value.okWide Try.prog W r b0 27 v) (h : DataW.Trod enc Try.prog W 0 (fun _ => true) true 27 v d ps) (hx : Sized Try.prog 27 d) :
    ∃ (n : Nat) (p : PaC) (t : Pt), v = paV p ∧ PaIn W (· < W.heap.size) n p t ∧ t.size ≤ Rows.uptoBulk d := by
  obtain ⟨cs, rfl, hsz⟩ := okWide_struct Try.underlying27 hv
  obtain ⟨fuel, hf⟩ := h
  obtain ⟨y, hy, t, ht, hb⟩ := open_pat _ _ _ hf hx
  refine ⟨fuel, y, t, ?_, ht, hb⟩
  have : cs = (paC y).toArray := by
    rw [← hy]
    simp [Value.cells]
  rw [this]
  rfl
end

set_option maxRecDepth 100000 in
theorem codeTells_called : CalledUpto 3 Try.f3 := by
  intro H enc W base args ds p hval hA hsz hbulk
  rw [Try.params3] at hA hval hsz
  obtain ⟨v0, v1, v2, v3, d0, d1, d2, d3, p0, p1, p2, p3, rfl, rfl, rfl, h0, h1, h2, h3⟩ := trodAll_four hA
  simp only [Rows.uptoBulkAll] at hbulk
  obtain ⟨x, rfl, hrow, hcap, hcm, hnone⟩ := open_ins (hval 0 24 v0 rfl rfl) h0
  obtain ⟨t, rfl, rfl, rfl, w1⟩ := open_int Try.underlying3 (hval 1 3 v1 rfl rfl) h1
  obtain ⟨n, p, v, rfl, hp, hb⟩ := open_patV (hval 2 27 v2 rfl rfl) h2 (sized_each hsz (j := 2) rfl rfl)
  obtain ⟨s, rfl, rfl, rfl, w3⟩ := Go.ChangeMaps.open_string Try.underlying9 (hval 3 9 v3 rfl rfl) h3
  exact codeTells_any x t n p v s W hrow hcap hcm hnone hp (by omega)

set_option maxRecDepth 100000 in
theorem codeTells_lifted (os : Os) (started : os.Started) (H : Type) (enc : TypeId × Value → H) (F : Stop.Interp) :
    ReturnsInHanded {} Try.checked os 3 .any ((Rows.OpenSpec.upto Rows.codeTellsSpec).pre6 enc Try.prog Try.f3 Rows.codeTellsUptoRow.domain false) (((Rows.OpenSpec.upto Rows.codeTellsSpec).at F).post enc Try.prog Try.f3 false true false false) :=
  law_lift_upto started (by kernel_rfl) Try.func3
    (OpenSpec.witness (enc := enc) (C := Try.checked) (s := Rows.OpenSpec.upto Rows.codeTellsSpec) (k := Rows.uptoSmall) rfl false ⟨#[], #[.agg #[.int .i64 0, .int .i64 0, .int .i64 0, .int .i64 0, .slice none 0 0], .int .i64 0, .agg #[.int .i64 0, .int .i64 0, .string ⟨#[]⟩, .slice none 0 0], .string ⟨#[]⟩], []⟩ 8 (by kernel_rfl) (by kernel_rfl) (by kernel_rfl)
      (x := ([.agg [.lit (.int .i64 0), .lit (.int .i64 0), .lit (.int .i64 0), .lit (.int .i64 0), .nil], .lit (.int .i64 0), .agg [.lit (.int .i64 0), .lit (.int .i64 0), .lit (.string []), .nil], .lit (.string [])], [], [])) (by kernel_rfl) rfl (by kernel_rfl))
    rfl rfl (by kernel_rfl) (by kernel_rfl) (fun l hl => by
      rw [Try.params3] at hl
      match l, hl with
      | [d0, d1, d2, d3], _ => rfl) codeTells_called

theorem codeTells_holds : Rows.CodeTellsUptoSaid :=
  OpenClaim.holds_of_cond 3 Try.f3 rfl rfl rfl rfl rfl rfl rfl ⟨rfl, rfl, rfl, rfl, rfl⟩ rfl rfl rfl rfl rfl (by kernel_rfl) Try.func3 (by kernel_rfl)
    (of_decide_eq_true (by kernel_rfl)) (by unfold Func.isWrapper; first | (rw [if_pos (by decide +kernel)]; kernel_rfl) | (rw [if_neg (by decide +kernel)]; exact ⟨rfl, rfl⟩))
    (fun os started H enc _ F => codeTells_lifted os started H enc F)
end Go.Proofs.Ytlnjapbpfhcloaa
