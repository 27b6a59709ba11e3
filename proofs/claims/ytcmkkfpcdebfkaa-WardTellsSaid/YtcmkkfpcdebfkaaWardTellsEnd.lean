/-
  WardTells: for arbitrary arguments, every function of package ward returns what the reference returns.
-/
import Derived.Test.YtcmkkfpcdebfkaaWd25
import Derived.Lib.SmallJoins
namespace Go.Proofs.Ytcmkkfpcdebfkaa
open Go.ChangeShapes Go.WideShapes Go.ChangeAt Go.RowKit Go.Joins Go.Deep

theorem wardTells_walk (x : WA) (v : Wd) (id : Int) (failed : Bool) (now : Int) (F : Option Addr) (fc : Nat) (l : List Fl) (W : World) (h : WIn W x v) (hl : Row W W.heap.size F (flat wfC l)) (hfc : l.length ≤ fc) (hfm : fc ≤ maxLen) :
    Calls Try.prog 13 #[wardV x v, .int .i64 id, .bool failed, .int .i64 now, .slice F l.length fc] W fun e w' => e = .returned (.bool true) ∧ Below W.heap.size W w' := by
  by_cases hw : wardF v = 0
  · exact wardTells_good x v id failed now F fc l W h hl hfc hfm hw
  · exact wardTells_bad x v id failed now F fc l W h hl hfc hfm hw
theorem flat_intsW (l : List Int) : flat (fun v : Int => [Value.int .i64 v]) l = ints l := by
  unfold flat ints
  induction l with
  | nil => rfl
  | cons a l ih => simp; exact ih
section
variable {H : Type} {enc : TypeId × Value → H} {W : World}
set_option maxRecDepth 100000 in
theorem open_child (n : Nat) (cs : List Value) (y : DataW H × List MemPlace) (h : DataW.trod enc Try.prog W 0 (fun _ => true) true n 230 cs = some y) : ∃ x : Ch, cs = wcC x ∧ True := by
  obtain ⟨hl, hfs⟩ := open_fields Try.underlying230 (by kernel_rfl) (by kernel_rfl) h
  obtain ⟨u0, y0, k0, hu0, ht0⟩ := hfs 0 _ rfl
  obtain ⟨u1, y1, k1, hu1, ht1⟩ := hfs 1 _ rfl
  obtain ⟨u2, y2, k2, hu2, ht2⟩ := hfs 2 _ rfl
  obtain ⟨n0, e0, _⟩ := DataW.trod_int Try.underlying3 ht0
  obtain ⟨n1, e1, _⟩ := DataW.trod_int Try.underlying3 ht1
  obtain ⟨n2, e2, _⟩ := DataW.trod_bool Try.underlying4 ht2
  injection e0 with e0
  injection e1 with e1
  injection e2 with e2
  subst e0 e1 e2
  refine ⟨(n0, n1, n2), ?_, trivial⟩
  match cs, hl with
  | [a, b, c], _ =>
    simp at hu0 hu1 hu2
    subst hu0 hu1 hu2
    rfl
set_option maxRecDepth 100000 in
theorem open_fall (n : Nat) (cs : List Value) (y : DataW H × List MemPlace) (h : DataW.trod enc Try.prog W 0 (fun _ => true) true n 233 cs = some y) : ∃ x : Fl, cs = wfC x ∧ True := by
  obtain ⟨hl, hfs⟩ := open_fields Try.underlying233 (by kernel_rfl) (by kernel_rfl) h
  obtain ⟨u0, y0, k0, hu0, ht0⟩ := hfs 0 _ rfl
  obtain ⟨u1, y1, k1, hu1, ht1⟩ := hfs 1 _ rfl
  obtain ⟨u2, y2, k2, hu2, ht2⟩ := hfs 2 _ rfl
  obtain ⟨n0, e0, _⟩ := DataW.trod_int Try.underlying3 ht0
  obtain ⟨n1, e1, _⟩ := DataW.trod_bool Try.underlying4 ht1
  obtain ⟨n2, e2, _⟩ := DataW.trod_int Try.underlying3 ht2
  injection e0 with e0
  injection e1 with e1
  injection e2 with e2
  subst e0 e1 e2
  refine ⟨(n0, n1, n2), ?_, trivial⟩
  match cs, hl with
  | [a, b, c], _ =>
    simp at hu0 hu1 hu2
    subst hu0 hu1 hu2
    rfl
set_option maxRecDepth 100000 in
theorem open_ward {base : Nat} {v : Value} {d : DataW H} {p : List MemPlace} (hv : Value.okWide Try.prog W .any base 215 v) (h : DataW.Trod enc Try.prog W 0 (fun _ => true) true 215 v d p) : ∃ (x : WA) (q : Wd), v = wardV x q ∧ WIn W x q := by
  obtain ⟨cs, rfl, hsz⟩ := okWide_struct Try.underlying215 hv
  obtain ⟨fuel, hf⟩ := h
  obtain ⟨hl, hfs⟩ := open_fields Try.underlying215 (by kernel_rfl) (by kernel_rfl) hf
  obtain ⟨u0, y0, k0, hu0, ht0⟩ := hfs 0 _ rfl
  obtain ⟨u1, y1, k1, hu1, ht1⟩ := hfs 1 _ rfl
  obtain ⟨u2, y2, k2, hu2, ht2⟩ := hfs 2 _ rfl
  obtain ⟨u3, y3, k3, hu3, ht3⟩ := hfs 3 _ rfl
  obtain ⟨u4, y4, k4, hu4, ht4⟩ := hfs 4 _ rfl
  obtain ⟨n0, e0, _⟩ := DataW.trod_int Try.underlying3 ht0
  obtain ⟨n1, e1, _⟩ := DataW.trod_int Try.underlying3 ht1
  obtain ⟨n2, e2, _⟩ := DataW.trod_int Try.underlying3 ht2
  obtain ⟨A, c, ch, e3, hr, hlc, hm, hA, _⟩ := open_rowOf wcC (fun _ => True) (size := 3) Try.underlying213 (by kernel_rfl) wcC_len (by decide) (fun n cs y hy => open_child n cs y hy) ht3
  obtain ⟨B, k, tm, e4, hrt, hlt, hmt, hB, _⟩ := open_rowOf (fun v : Int => [Value.int .i64 v]) (fun _ => True) (size := 1) Try.underlying33 (by kernel_rfl) (fun _ => rfl) (by decide) (fun n cs y hy => by
    obtain ⟨v, e, _⟩ := DataW.trod_int Try.underlying3 hy
    exact ⟨v, e, trivial⟩) ht4
  rw [flat_intsW] at hrt
  injection e0 with e0
  injection e1 with e1
  injection e2 with e2
  injection e3 with e3
  injection e4 with e4
  subst e0 e1 e2 e3 e4
  refine ⟨⟨A, c, B, k⟩, ⟨n0, n1, n2, ch, tm⟩, ?_, ⟨hr, hrt, hlc, hm, hA, hlt, hmt, hB⟩⟩
  obtain ⟨cs⟩ := cs
  simp only [Value.cells] at hl hu0 hu1 hu2 hu3 hu4
  match cs, hl with
  | [a0, a1, a2, a3, a4], _ =>
    simp at hu0 hu1 hu2 hu3 hu4
    subst hu0 hu1 hu2 hu3 hu4
    rfl
end

set_option maxRecDepth 100000 in
theorem wardTells_called : Called 13 Try.f13 := by
  intro H enc W base args ds p hval hA hsz
  rw [Try.params13] at hA hval
  obtain ⟨args⟩ := args
  obtain ⟨v0, vs0, d0, ds0, p0, q0, hv0, rfl, rfl, h0, hA1⟩ := trodAll_cons hA
  obtain ⟨v1, vs1, d1, ds1, p1, q1, rfl, rfl, rfl, h1, hA2⟩ := trodAll_cons hA1
  obtain ⟨v2, vs2, d2, ds2, p2, q2, rfl, rfl, rfl, h2, hA3⟩ := trodAll_cons hA2
  obtain ⟨v3, vs3, d3, ds3, p3, q3, rfl, rfl, rfl, h3, hA4⟩ := trodAll_cons hA3
  obtain ⟨v4, vs4, d4, ds4, p4, q4, rfl, rfl, rfl, h4, hA5⟩ := trodAll_cons hA4
  obtain ⟨rfl, rfl, rfl⟩ := trodAll_nil hA5
  simp only at hv0
  subst hv0
  obtain ⟨x, q, rfl, hw⟩ := open_ward (hval 0 215 v0 rfl rfl) h0
  obtain ⟨id, rfl, rfl, rfl, w1⟩ := open_int Try.underlying3 (hval 1 3 v1 rfl rfl) h1
  obtain ⟨failed, rfl, rfl, rfl⟩ := open_bool Try.underlying4 (hval 2 4 v2 rfl rfl) h2
  obtain ⟨now, rfl, rfl, rfl, w3⟩ := open_int Try.underlying3 (hval 3 3 v3 rfl rfl) h3
  obtain ⟨F, n, fc, rfl⟩ := okWide_slice Try.underlying216 (hval 4 216 v4 rfl rfl)
  obtain ⟨fuel, hf⟩ := h4
  obtain ⟨F', fc', l, hcs, hr, hlc, hm, _⟩ := open_rowOf wfC (fun _ => True) (size := 3) Try.underlying216 (by kernel_rfl) wfC_len (by decide) (fun n cs y hy => open_fall n cs y hy) hf
  simp [Value.cells] at hcs
  obtain ⟨rfl, rfl, rfl⟩ := hcs
  exact wardTells_walk x q id failed now F fc l W hw hr hlc hm

set_option maxRecDepth 100000 in
theorem wardTells_lifted (os : Os) (started : os.Started) (H : Type) (enc : TypeId × Value → H) :
    ReturnsInHanded {} Try.checked os 13 .any (Rows.wardTellsSpec.pre6 enc Try.prog Try.f13 Rows.wardTellsRow.domain false) (Rows.wardTellsSpec.post enc Try.prog Try.f13 false true false false) :=
  law_lift started (by kernel_rfl) Try.func13
    (ChangeSpec.witness6 (enc := enc) (C := Try.checked) false ⟨#[], #[.agg #[.int .i64 0, .int .i64 0, .int .i64 0, .slice none 0 0, .slice none 0 0], .int .i64 0, .bool false, .int .i64 0, .slice none 0 0], []⟩ 8 (by kernel_rfl) (by kernel_rfl) (by kernel_rfl) (by kernel_rfl))
    rfl rfl (by kernel_rfl) (by kernel_rfl) (fun l hl => by
      rw [Try.params13] at hl
      match l, hl with
      | [d0, d1, d2, d3, d4], _ => rfl) wardTells_called

theorem wardTells_over : Rows.wardTellsRow.holds Try.pinned (OpenSpec.ofChange Rows.wardTellsSpec) :=
  OpenClaim.holds_of_wide 13 Try.f13 rfl rfl rfl rfl rfl rfl rfl ⟨rfl, rfl, rfl, rfl, rfl⟩ rfl rfl rfl rfl rfl (by kernel_rfl) Try.func13 (by kernel_rfl)
    (of_decide_eq_true (by kernel_rfl)) (by unfold Func.isWrapper; first | (rw [if_pos (by decide +kernel)]; kernel_rfl) | (rw [if_neg (by decide +kernel)]; exact ⟨rfl, rfl⟩))
    (fun os started H enc _ => wardTells_lifted os started H enc)

theorem wardTells_holds : Rows.WardTellsSaid := wardTells_over
end Go.Proofs.Ytcmkkfpcdebfkaa
