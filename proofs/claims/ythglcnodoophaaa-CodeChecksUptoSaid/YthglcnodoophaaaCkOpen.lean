
/-
  A whole program as an argument holds it, of bounded bulk: how it opens.
-/
import Derived.Test.YthglcnodoophaaaCkRd
import Derived.Test.YthglcnodoophaaaPkOpen0
namespace Go.Proofs.Ythglcnodoophaaa
open Go.ChangeShapes Go.WideShapes Go.ChangeAt Go.RowKit Go.Deep

theorem flat_intsC : ∀ l : List Int, flat (fun x : Int => [Value.int .i64 x]) l = ints l
  | [] => rfl
  | x :: r => congrArg (Value.int .i64 x :: ·) (flat_intsC r)
section
variable {H : Type} {enc : TypeId × Value → H} {P : Program} {W : World}
/-- A slice of whatever: how many elements it may have. -/
theorem open_lenB {t e : TypeId} {fuel : Nat} {c0 : Value} {x : DataW H × List MemPlace} (ht : P.underlying t = some (.slice e)) (h : DataW.trod enc P W 0 (fun _ => true) true fuel t [c0] = some x) :
    ∃ s : SlC, c0 = .slice s.A s.len s.cap ∧ (Rows.uptoBulk x.1 ≤ 1048576 → s.len ≤ 1048576) := by
  rcases DataW.trod_slice ht h with ⟨h1, _⟩ | ⟨a, len, cap, elems, rest, n, _, h1, rfl, _, hl, hm, hel, _⟩
  · injection h1 with h1
    exact ⟨⟨none, 0, 0⟩, h1, fun _ => Nat.zero_le _⟩
  · injection h1 with h1
    refine ⟨⟨some a, len, cap⟩, h1, fun hb => ?_⟩
    have h4 := bulk_slice (elems.map (·.1)) (rest.map (·.1))
    have h5 := bulk_len (elems.map (·.1))
    rw [List.length_map] at h5
    dsimp only at hb ⊢
    omega
/-- The elements of a row, each with what its own datum's bulk gives. -/
theorem open_rowB {α : Type} (ec : α → List Value) (G : α → Prop) {size : Nat} {t e : TypeId} (ht : P.underlying t = some (.slice e)) (hC : P.cellsOf e = size) (hs : ∀ x, (ec x).length = size) (hz : 0 < size)
    {fuel : Nat} {cs : List Value} {x : DataW H × List MemPlace} (hopen : ∀ n, n < fuel → ∀ cs y, DataW.trod enc P W 0 (fun _ => true) true n e cs = some y → Sized P e y.1 → ∃ x : α, cs = ec x ∧ (Rows.uptoBulk y.1 ≤ 1048576 → G x))
    (h : DataW.trod enc P W 0 (fun _ => true) true fuel t cs = some x) (hx : Sized P t x.1) :
    ∃ (A : Option Addr) (c : Nat) (l : List α), cs = [.slice A l.length c] ∧ Row W W.heap.size A (flat ec l) ∧ l.length ≤ c ∧ c ≤ maxLen ∧ (A = none → c = 0) ∧ (Rows.uptoBulk x.1 ≤ 1048576 → (∀ y ∈ l, G y) ∧ l.length ≤ 1048576) := by
  obtain ⟨A, c, l, ds, h1, h2, h3, h4, h5, h6, h7, _, h9⟩ := open_rowTied ec (fun y d => Rows.uptoBulk d ≤ 1048576 → G y) ht hC hs hz hopen h hx
  refine ⟨A, c, l, h1, h2.row, h3, h4, h5, fun hb => ⟨fun y hy => ?_, ?_⟩⟩
  · obtain ⟨i, hi⟩ := List.mem_iff_getElem?.1 hy
    have hil : i < ds.length := by rw [← h6]; exact (List.getElem?_eq_some_iff.1 hi).1
    have h10 := bulk_part (List.getElem_mem hil)
    exact h7 i y _ hi (List.getElem?_eq_getElem hil) (by omega)
  · have := bulk_len ds
    omega
end
section
variable {H : Type} {enc : TypeId × Value → H} {W : World}
set_option maxRecDepth 100000 in
theorem open_insB (fuel : Nat) (cs : List Value) (x : DataW H × List MemPlace) (h : DataW.trod enc Try.prog W 0 (fun _ => true) true fuel 33 cs = some x) (hx : Sized Try.prog 33 x.1) :
    ∃ y : InC, cs = inC y ∧ (Rows.uptoBulk x.1 ≤ 1048576 → ArgsIn W W.heap.size y) := by
  obtain ⟨ys, k, rfl, rfl, hl, hyl, hf⟩ := DataW.trod_struct Try.underlying33 h
  rw [show Try.prog.cellsOf 33 = 5 by kernel_rfl] at hl
  match ys, hyl with
  | [y0, y1, y2, y3, y4], _ =>
  match cs, hl with
  | [c0, c1, c2, c3, c4], _ =>
  have e0 := hf 0 _ rfl
  have e1 := hf 1 _ rfl
  have e2 := hf 2 _ rfl
  have e3 := hf 3 _ rfl
  have e4 := hf 4 _ rfl
  simp only [List.getElem?_cons_zero, List.getElem?_cons_succ] at e0 e1 e2 e3 e4
  obtain ⟨n0, h0, _, _⟩ := DataW.trod_int Try.underlying3 e0
  obtain ⟨n1, h1, _, _⟩ := DataW.trod_int Try.underlying3 e1
  obtain ⟨n2, h2, _, _⟩ := DataW.trod_int Try.underlying3 e2
  obtain ⟨n3, h3, _, _⟩ := DataW.trod_int Try.underlying3 e3
  obtain ⟨A, c, l, h4, hr, hlc, hcm, hA, hb⟩ := open_rowB (fun x : Int => [Value.int .i64 x]) (fun _ => True) (size := 1) Try.underlying23 (by kernel_rfl) (fun _ => rfl) (by decide)
    (fun n hn cs y hy _ => by
      obtain ⟨m, hm, _⟩ := DataW.trod_int Try.underlying3 hy
      exact ⟨m, hm, fun _ => trivial⟩) e4 (hx.field Try.underlying33 (j := 4) rfl rfl)
  injection h0 with h0
  injection h1 with h1
  injection h2 with h2
  injection h3 with h3
  injection h4 with h4
  subst h0 h1 h2 h3 h4
  rw [flat_intsC] at hr
  refine ⟨⟨n0, n1, n2, n3, A, c, l⟩, rfl, fun hbk => ⟨hr, (hb ?_).2, hlc, hcm, hA⟩⟩
  simp only [Rows.uptoBulk, Rows.uptoBulkAll, List.map_cons, List.map_nil] at hbk
  omega
set_option maxRecDepth 100000 in
theorem open_funB (fuel : Nat) (cs : List Value) (x : DataW H × List MemPlace) (h : DataW.trod enc Try.prog W 0 (fun _ => true) true fuel 36 cs = some x) (hx : Sized Try.prog 36 x.1) :
    ∃ y : FcC, cs = fcC y ∧ (Rows.uptoBulk x.1 ≤ 1048576 → ∃ f : FnP, FnIn W W.heap.size y f) := by
  obtain ⟨ys, k, rfl, rfl, hl, hyl, hf⟩ := DataW.trod_struct Try.underlying36 h
  rw [show Try.prog.cellsOf 36 = 5 by kernel_rfl] at hl
  match ys, hyl with
  | [y0, y1, y2, y3, y4], _ =>
  match cs, hl with
  | [c0, c1, c2, c3, c4], _ =>
  have e0 := hf 0 _ rfl
  have e1 := hf 1 _ rfl
  have e2 := hf 2 _ rfl
  have e3 := hf 3 _ rfl
  have e4 := hf 4 _ rfl
  simp only [List.getElem?_cons_zero, List.getElem?_cons_succ] at e0 e1 e2 e3 e4
  obtain ⟨t0, h0, _, _⟩ := DataW.trod_string Try.underlying9 e0
  obtain ⟨n1, h1, _, _⟩ := DataW.trod_int Try.underlying3 e1
  obtain ⟨n2, h2, _, _⟩ := DataW.trod_int Try.underlying3 e2
  obtain ⟨n3, h3, _, _⟩ := DataW.trod_int Try.underlying3 e3
  obtain ⟨A, c, l, h4, hr, hlc, hcm, hA, hb⟩ := open_rowB inC (fun y => ArgsIn W W.heap.size y) (size := 5) Try.underlying34 (by kernel_rfl) inC_len (by decide)
    (fun n hn cs y hy hs => open_insB n cs y hy hs) e4 (hx.field Try.underlying36 (j := 4) rfl rfl)
  injection h0 with h0
  injection h1 with h1
  injection h2 with h2
  injection h3 with h3
  injection h4 with h4
  subst h0 h1 h2 h3 h4
  refine ⟨⟨t0, n1, n2, n3, A, l.length, c⟩, rfl, fun hbk => ?_⟩
  have hb4 := hb (by
    simp only [Rows.uptoBulk, Rows.uptoBulkAll, List.map_cons, List.map_nil] at hbk
    omega)
  exact ⟨⟨n1, n2, n3, l⟩, ⟨rfl, rfl, rfl, rfl, hr, hb4.2, hb4.1⟩⟩
set_option maxRecDepth 100000 in
theorem open_acB (fuel : Nat) (cs : List Value) (x : DataW H × List MemPlace) (h : DataW.trod enc Try.prog W 0 (fun _ => true) true fuel 44 cs = some x) : ∃ y : AcC, cs = acC y := by
  obtain ⟨ys, k, rfl, rfl, hl, hyl, hf⟩ := DataW.trod_struct Try.underlying44 h
  rw [show Try.prog.cellsOf 44 = 4 by kernel_rfl] at hl
  match ys, hyl with
  | [y0, y1, y2, y3], _ =>
  match cs, hl with
  | [c0, c1, c2, c3], _ =>
  have e0 := hf 0 _ rfl
  have e1 := hf 1 _ rfl
  have e2 := hf 2 _ rfl
  have e3 := hf 3 _ rfl
  simp only [List.getElem?_cons_zero, List.getElem?_cons_succ] at e0 e1 e2 e3
  obtain ⟨t0, h0, _, _⟩ := DataW.trod_string Try.underlying9 e0
  obtain ⟨n1, h1, _, _⟩ := DataW.trod_int Try.underlying3 e1
  obtain ⟨n2, h2, _, _⟩ := DataW.trod_int Try.underlying3 e2
  obtain ⟨b3, h3, _⟩ := DataW.trod_bool Try.underlying4 e3
  injection h0 with h0
  injection h1 with h1
  injection h2 with h2
  injection h3 with h3
  subst h0 h1 h2 h3
  exact ⟨⟨t0, n1, n2, b3⟩, rfl⟩
set_option maxRecDepth 100000 in
theorem open_mkB (fuel : Nat) (cs : List Value) (x : DataW H × List MemPlace) (h : DataW.trod enc Try.prog W 0 (fun _ => true) true fuel 49 cs = some x) : ∃ y : MkC, cs = mkC y := by
  obtain ⟨ys, k, rfl, rfl, hl, hyl, hf⟩ := DataW.trod_struct Try.underlying49 h
  rw [show Try.prog.cellsOf 49 = 3 by kernel_rfl] at hl
  match ys, hyl with
  | [y0, y1, y2], _ =>
  match cs, hl with
  | [c0, c1, c2], _ =>
  have e0 := hf 0 _ rfl
  have e1 := hf 1 _ rfl
  have e2 := hf 2 _ rfl
  simp only [List.getElem?_cons_zero, List.getElem?_cons_succ] at e0 e1 e2
  obtain ⟨t0, h0, _, _⟩ := DataW.trod_string Try.underlying9 e0
  obtain ⟨t1, h1, _, _⟩ := DataW.trod_string Try.underlying9 e1
  obtain ⟨n2, h2, _, _⟩ := DataW.trod_int Try.underlying3 e2
  injection h0 with h0
  injection h1 with h1
  injection h2 with h2
  subst h0 h1 h2
  exact ⟨⟨t0, t1, n2⟩, rfl⟩
set_option maxRecDepth 100000 in
theorem open_ipB (fuel : Nat) (cs : List Value) (x : DataW H × List MemPlace) (h : DataW.trod enc Try.prog W 0 (fun _ => true) true fuel 47 cs = some x) : ∃ y : IpC, cs = ipC y := by
  obtain ⟨ys, k, rfl, rfl, hl, hyl, hf⟩ := DataW.trod_struct Try.underlying47 h
  rw [show Try.prog.cellsOf 47 = 3 by kernel_rfl] at hl
  match ys, hyl with
  | [y0, y1, y2], _ =>
  match cs, hl with
  | [c0, c1, c2], _ =>
  have e0 := hf 0 _ rfl
  have e1 := hf 1 _ rfl
  have e2 := hf 2 _ rfl
  simp only [List.getElem?_cons_zero, List.getElem?_cons_succ] at e0 e1 e2
  obtain ⟨t0, h0, _, _⟩ := DataW.trod_string Try.underlying9 e0
  obtain ⟨t1, h1, _, _⟩ := DataW.trod_string Try.underlying9 e1
  obtain ⟨n2, h2, _, _⟩ := DataW.trod_int Try.underlying3 e2
  injection h0 with h0
  injection h1 with h1
  injection h2 with h2
  subst h0 h1 h2
  exact ⟨⟨t0, t1, n2⟩, rfl⟩
set_option maxRecDepth 100000 in
/-- A row of patterns. -/
theorem open_psB (fuel : Nat) (cs : List Value) (x : DataW H × List MemPlace) (h : DataW.trod enc Try.prog W 0 (fun _ => true) true fuel 39 cs = some x) (hx : Sized Try.prog 39 x.1) :
    ∃ s : SlC, cs = slC s ∧ (Rows.uptoBulk x.1 ≤ 1048576 → ∃ ps : List Pt, PsIn W W.heap.size fuel s ps) := by
  obtain ⟨A, c, l, ds, h3, hr, hlc, hcm, hA, hld, hG, hby, hbk⟩ := open_rowTied valC (fun y d => ∃ v, VIn W (· < W.heap.size) fuel y v ∧ v.size ≤ Rows.uptoBulk d) (size := 4) Try.underlying39 (by kernel_rfl) valC_len (by decide)
    (fun n hn cs y hy hsz => by
      obtain ⟨y', hy1, v, hv, hb⟩ := open_pat n cs y hy hsz
      exact ⟨y', hy1, v, hv.more (by omega), hb⟩) h hx
  obtain ⟨vs, hvl, hvs⟩ := choose_list (fun i (v : Val) => VIn W (· < W.heap.size) fuel (l.getD i vc0) v ∧ ∀ d, ds[i]? = some d → v.size ≤ Rows.uptoBulk d) l.length fun i hi => by
    obtain ⟨v, hv, hb⟩ := hG i (l.getD i vc0) (ds.getD i DataW.nil) (getD_some vc0 hi) (getD_some DataW.nil (by omega))
    refine ⟨v, hv, fun d hd => ?_⟩
    rw [getD_some DataW.nil (show i < ds.length by omega)] at hd
    injection hd with hd
    rw [← hd]
    exact hb
  refine ⟨⟨A, l.length, c⟩, h3, fun hb => ⟨vs.map toPt, by rw [List.length_map]; exact hvl.symm, ?_, l.map toPaC, List.length_map _, by rw [toPaC_flat]; exact hr, fun i hi => ?_⟩⟩
  · have hsb := sizes_bulk vs ds (by omega) (fun i v d hv hd => (hvs i v hv).2 d hd)
    unfold Few
    rw [← toPts_map, toPts_sizes]
    omega
  · rw [List.length_map] at hi
    have e1 : (l.map toPaC).getD i pac0 = toPaC (l.getD i vc0) := by simp [List.getD_eq_getElem?_getD, List.getElem?_map, List.getElem?_eq_getElem hi]
    have e2 : (vs.map toPt).getD i pt0 = toPt (vs.getD i val0) := by simp [List.getD_eq_getElem?_getD, List.getElem?_map, List.getElem?_eq_getElem (show i < vs.length by omega)]
    rw [e1, e2]
    exact PaIn.of_V (hvs i _ (getD_some val0 (by rw [hvl]; exact hi))).1
end
end Go.Proofs.Ythglcnodoophaaa
namespace Go.Proofs.Ythglcnodoophaaa
open Go.ChangeShapes Go.WideShapes Go.ChangeAt Go.RowKit Go.Deep

theorem PsIn.more {w : World} {B n m : Nat} {s : SlC} {ps : List Pt} (hm : n ≤ m) (h : PsIn w B n s ps) : PsIn w B m s ps := by
  obtain ⟨l, h1, h2, h3⟩ := h.row
  exact ⟨h.len, h.few, l, h1, h2, fun i hi => (h3 i hi).more hm⟩
section
variable {H : Type} {enc : TypeId × Value → H} {W : World}
set_option maxRecDepth 100000 in
theorem open_ckB {r : Reach} {b0 : Nat} {v : Value} {d : DataW H} {ps : List MemPlace} (hv : Value.okWide Try.prog W r b0 30 v) (h : DataW.Trod enc Try.prog W 0 (fun _ => true) true 30 v d ps) (hx : Sized Try.prog 30 d) (hb : Rows.uptoBulk d ≤ 1048576) :
    ∃ (n : Nat) (u : CkV) (P : CkP), v = .agg (ckC u P) ∧ CkIn W W.heap.size n u P := by
  obtain ⟨cs, rfl, hsz⟩ := okWide_struct Try.underlying30 hv
  obtain ⟨fuel, hf⟩ := h
  obtain ⟨ys, k, rfl, hd, hl, hyl, hg⟩ := DataW.trod_struct Try.underlying30 hf
  injection hd with hd
  subst hd
  rw [show Try.prog.cellsOf 30 = 7 by kernel_rfl] at hsz
  obtain ⟨cs⟩ := cs
  match ys, hyl with
  | [y0, y1, y2, y3, y4, y5, y6], _ =>
  match cs, hsz with
  | [c0, c1, c2, c3, c4, c5, c6], _ =>
  have e0 := hg 0 _ rfl
  have e1 := hg 1 _ rfl
  have e2 := hg 2 _ rfl
  have e3 := hg 3 _ rfl
  have e4 := hg 4 _ rfl
  have e5 := hg 5 _ rfl
  have e6 := hg 6 _ rfl
  simp only [List.getElem?_cons_zero, List.getElem?_cons_succ] at e0 e1 e2 e3 e4 e5 e6
  simp only [Rows.uptoBulk, Rows.uptoBulkAll, List.map_cons, List.map_nil] at hb
  obtain ⟨s0, h0, b0'⟩ := open_lenB Try.underlying22 e0
  obtain ⟨s1, h1, b1'⟩ := open_lenB Try.underlying23 e1
  obtain ⟨A2, k2, l2, h2, r2, _, _, _, b2⟩ := open_rowB fcC (fun y => ∃ f : FnP, FnIn W W.heap.size y f) (size := 5) Try.underlying24 (by kernel_rfl) fcC_len (by decide)
    (fun n hn cs y hy hs => open_funB n cs y hy hs) e2 (hx.field Try.underlying30 (j := 2) rfl rfl)
  obtain ⟨A3, k3, l3, h3, r3, _, _, _, b3⟩ := open_rowB acC (fun _ => True) (size := 4) Try.underlying25 (by kernel_rfl) acC_len (by decide)
    (fun n hn cs y hy _ => by
      obtain ⟨z, hz⟩ := open_acB n cs y hy
      exact ⟨z, hz, fun _ => trivial⟩) e3 (hx.field Try.underlying30 (j := 3) rfl rfl)
  obtain ⟨A4, k4, l4, h4, r4, _, _, _, b4⟩ := open_rowB ipC (fun _ => True) (size := 3) Try.underlying26 (by kernel_rfl) ipC_len (by decide)
    (fun n hn cs y hy _ => by
      obtain ⟨z, hz⟩ := open_ipB n cs y hy
      exact ⟨z, hz, fun _ => trivial⟩) e4 (hx.field Try.underlying30 (j := 4) rfl rfl)
  obtain ⟨A5, k5, l5, h5, r5, _, _, _, b5⟩ := open_rowB mkC (fun _ => True) (size := 3) Try.underlying27 (by kernel_rfl) mkC_len (by decide)
    (fun n hn cs y hy _ => by
      obtain ⟨z, hz⟩ := open_mkB n cs y hy
      exact ⟨z, hz, fun _ => trivial⟩) e5 (hx.field Try.underlying30 (j := 5) rfl rfl)
  obtain ⟨A6, k6, l6, h6, r6, _, _, _, b6⟩ := open_rowB slC (fun s => ∃ ps : List Pt, PsIn W W.heap.size k s ps) (size := 1) Try.underlying28 (by kernel_rfl) slC_len (by decide)
    (fun n hn cs y hy hs => by
      obtain ⟨s, hs1, hs2⟩ := open_psB n cs y hy hs
      exact ⟨s, hs1, fun hb => by obtain ⟨ps, hp⟩ := hs2 hb; exact ⟨ps, hp.more (by omega)⟩⟩) e6 (hx.field Try.underlying30 (j := 6) rfl rfl)
  injection h2 with h2
  injection h3 with h3
  injection h4 with h4
  injection h5 with h5
  injection h6 with h6
  subst h0 h1 h2 h3 h4 h5 h6
  have q0 := b0' (by omega)
  have q1 := b1' (by omega)
  have q2 := b2 (by omega)
  have q3 := b3 (by omega)
  have q4 := b4 (by omega)
  have q5 := b5 (by omega)
  have q6 := b6 (by omega)
  obtain ⟨fs, hfl, hfs⟩ := choose_list (fun i (f : FnP) => FnIn W W.heap.size (l2.getD i fcc0) f) l2.length fun i hi => q2.1 _ (getD_mem fcc0 hi)
  obtain ⟨pt, hpl, hpt⟩ := choose_list (fun i (ps : List Pt) => PsIn W W.heap.size k (l6.getD i slc0) ps) l6.length fun i hi => q6.1 _ (getD_mem slc0 hi)
  refine ⟨k, ⟨s0, s1, A2, k2, A3, k3, A4, k4, A5, k5, A6, k6⟩, ⟨s0.len, s1.len, fs, l3, l4, l5, pt⟩, ?_, ⟨⟨q0, q1, ?_, q3.2, q4.2, q5.2, ?_⟩, ⟨l2, hfl.symm, r2, fun i hi => hfs i _ (getD_some fnp0 (by rw [hfl]; exact hi))⟩, r3, r4, r5, l6, hpl.symm, r6, fun i hi => hpt i _ (getD_some [] (by rw [hpl]; exact hi))⟩⟩
  · unfold ckC
    dsimp only
    rw [hfl, hpl]
  · dsimp only
    rw [hfl]
    exact q2.2
  · dsimp only
    rw [hpl]
    exact q6.2
end
end Go.Proofs.Ythglcnodoophaaa
