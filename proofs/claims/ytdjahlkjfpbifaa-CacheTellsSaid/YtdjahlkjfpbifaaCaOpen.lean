
/-
  Programs and questions as arguments: how they open.
-/
import Derived.Test.YtdjahlkjfpbifaaCa5
import Derived.Test.YtdjahlkjfpbifaaCaAk
import Derived.Test.YtdjahlkjfpbifaaPkOpen
namespace Go.Proofs.Ytdjahlkjfpbifaa
open Go.ChangeShapes Go.WideShapes Go.ChangeAt Go.RowKit Go.Deep

section
variable {H : Type} {enc : TypeId × Value → H} {W : World}
theorem open_slAny {P : Program} {t e : TypeId} {fuel : Nat} {c0 : Value} {x : DataW H × List MemPlace} (ht : P.underlying t = some (.slice e)) (h : DataW.trod enc P W 0 (fun _ => true) true fuel t [c0] = some x) : ∃ s : SlC, c0 = .slice s.A s.len s.cap := by
  rcases DataW.trod_slice ht h with ⟨h1, _⟩ | ⟨a, len, cap, elems, rest, n, _, h1, _⟩
  · injection h1 with h1
    exact ⟨⟨none, 0, 0⟩, h1⟩
  · injection h1 with h1
    exact ⟨⟨some a, len, cap⟩, h1⟩
set_option maxRecDepth 100000 in
theorem open_impl (fuel : Nat) (cs : List Value) (x : DataW H × List MemPlace) (h : DataW.trod enc Try.prog W 0 (fun _ => true) true fuel 81 cs = some x) : ∃ y : Im, cs = imC y := by
  obtain ⟨ys, k, rfl, hd, hl, hyl, hf⟩ := DataW.trod_struct Try.underlying81 h
  rw [show Try.prog.cellsOf 81 = 3 by kernel_rfl] at hl
  match ys, hyl with
  | [y0, y1, y2], _ =>
  match cs, hl with
  | [c0, c1, c2], _ =>
  have e0 := hf 0 _ rfl
  have e1 := hf 1 _ rfl
  have e2 := hf 2 _ rfl
  simp only [List.getElem?_cons_zero, List.getElem?_cons_succ] at e0 e1 e2
  obtain ⟨t0, h0, _, _⟩ := DataW.trod_string Try.underlying9 e0
  obtain ⟨t1, h1, _, _⟩ := DataW.trod_string Try.underlying9 e1
  obtain ⟨n2, h2, _, _⟩ := DataW.trod_int Try.underlying3 e2
  injection h0 with h0
  injection h1 with h1
  injection h2 with h2
  subst h0 h1 h2
  exact ⟨⟨t0, t1, n2⟩, rfl⟩
set_option maxRecDepth 100000 in
theorem open_insC (fuel : Nat) (cs : List Value) (x : DataW H × List MemPlace) (h : DataW.trod enc Try.prog W 0 (fun _ => true) true fuel 169 cs = some x) : ∃ y : IcC, cs = icC y := by
  obtain ⟨ys, k, rfl, hd, hl, hyl, hf⟩ := DataW.trod_struct Try.underlying169 h
  rw [show Try.prog.cellsOf 169 = 5 by kernel_rfl] at hl
  match ys, hyl with
  | [y0, y1, y2, y3, y4], _ =>
  match cs, hl with
  | [c0, c1, c2, c3, c4], _ =>
  have e0 := hf 0 _ rfl
  have e1 := hf 1 _ rfl
  have e2 := hf 2 _ rfl
  have e3 := hf 3 _ rfl
  have e4 := hf 4 _ rfl
  simp only [List.getElem?_cons_zero, List.getElem?_cons_succ] at e0 e1 e2 e3 e4
  obtain ⟨n0, h0, _, _⟩ := DataW.trod_int Try.underlying3 e0
  obtain ⟨n1, h1, _, _⟩ := DataW.trod_int Try.underlying3 e1
  obtain ⟨n2, h2, _, _⟩ := DataW.trod_int Try.underlying3 e2
  obtain ⟨n3, h3, _, _⟩ := DataW.trod_int Try.underlying3 e3
  obtain ⟨s4, rfl⟩ := open_slAny Try.underlying55 e4
  injection h0 with h0
  injection h1 with h1
  injection h2 with h2
  injection h3 with h3
  subst h0 h1 h2 h3
  exact ⟨⟨n0, n1, n2, n3, s4⟩, rfl⟩
set_option maxRecDepth 100000 in
theorem open_fun (fuel : Nat) (cs : List Value) (x : DataW H × List MemPlace) (h : DataW.trod enc Try.prog W 0 (fun _ => true) true fuel 167 cs = some x) (hx : Sized Try.prog 167 x.1) :
    ∃ y : FnC, cs = fnC y ∧ ∃ l : List IcC, l.length = y.ins.len ∧ Row W W.heap.size y.ins.A (flat icC l) ∧ y.ins.len ≤ maxLen := by
  obtain ⟨ys, k, rfl, rfl, hl, hyl, hf⟩ := DataW.trod_struct Try.underlying167 h
  rw [show Try.prog.cellsOf 167 = 5 by kernel_rfl] at hl
  match ys, hyl with
  | [y0, y1, y2, y3, y4], _ =>
  match cs, hl with
  | [c0, c1, c2, c3, c4], _ =>
  have e0 := hf 0 _ rfl
  have e1 := hf 1 _ rfl
  have e2 := hf 2 _ rfl
  have e3 := hf 3 _ rfl
  have e4 := hf 4 _ rfl
  simp only [List.getElem?_cons_zero, List.getElem?_cons_succ] at e0 e1 e2 e3 e4
  obtain ⟨t0, h0, _, _⟩ := DataW.trod_string Try.underlying9 e0
  obtain ⟨n1, h1, _, _⟩ := DataW.trod_int Try.underlying3 e1
  obtain ⟨n2, h2, _, _⟩ := DataW.trod_int Try.underlying3 e2
  obtain ⟨n3, h3, _, _⟩ := DataW.trod_int Try.underlying3 e3
  obtain ⟨A, c, l, h4, hr, hlc, hcm, hA, _, _⟩ := open_rowDeep icC (fun _ => True) (size := 5) Try.underlying165 (by kernel_rfl) icC_len (by decide)
    (fun n hn cs y hy _ => by
      obtain ⟨y', hy'⟩ := open_insC n cs y hy
      exact ⟨y', hy', trivial⟩) e4 (hx.field Try.underlying167 (j := 4) rfl rfl)
  injection h0 with h0
  injection h1 with h1
  injection h2 with h2
  injection h3 with h3
  injection h4 with h4
  subst h0 h1 h2 h3 h4
  exact ⟨⟨t0, n1, n2, n3, ⟨A, l.length, c⟩⟩, rfl, l, rfl, hr, Nat.le_trans hlc hcm⟩
set_option maxRecDepth 100000 in
theorem open_ask (fuel : Nat) (cs : List Value) (x : DataW H × List MemPlace) (h : DataW.trod enc Try.prog W 0 (fun _ => true) true fuel 69 cs = some x) : ∃ y : AkC, cs = akC y ∧ I64 y.f ∧ I64 y.pc ∧ I64 y.tg := by
  obtain ⟨ys, k, rfl, hd, hl, hyl, hf⟩ := DataW.trod_struct Try.underlying69 h
  rw [show Try.prog.cellsOf 69 = 5 by kernel_rfl] at hl
  match ys, hyl with
  | [y0, y1, y2, y3, y4], _ =>
  match cs, hl with
  | [c0, c1, c2, c3, c4], _ =>
  have e0 := hf 0 _ rfl
  have e1 := hf 1 _ rfl
  have e2 := hf 2 _ rfl
  have e3 := hf 3 _ rfl
  have e4 := hf 4 _ rfl
  simp only [List.getElem?_cons_zero, List.getElem?_cons_succ] at e0 e1 e2 e3 e4
  obtain ⟨n0, h0, _, w0⟩ := DataW.trod_int Try.underlying3 e0
  obtain ⟨n1, h1, _, w1⟩ := DataW.trod_int Try.underlying3 e1
  obtain ⟨n2, h2, _, _⟩ := DataW.trod_int Try.underlying3 e2
  obtain ⟨n3, h3, _, w3⟩ := DataW.trod_int Try.underlying3 e3
  obtain ⟨b4, h4, _⟩ := DataW.trod_bool Try.underlying4 e4
  injection h0 with h0
  injection h1 with h1
  injection h2 with h2
  injection h3 with h3
  injection h4 with h4
  subst h0 h1 h2 h3 h4
  exact ⟨⟨n0, n1, n2, n3, b4⟩, rfl, I64.of_wf w0, I64.of_wf w1, I64.of_wf w3⟩
set_option maxRecDepth 100000 in
theorem open_asks {r : Reach} {b0 : Nat} {v : Value} {d : DataW H} {ps : List MemPlace} (hv : Value.okWide Try.prog W r b0 63 v) (h : DataW.Trod enc Try.prog W 0 (fun _ => true) true 63 v d ps) (hx : Sized Try.prog 63 d) :
    ∃ (A : Option Addr) (c : Nat) (l : List AkC), v = .slice A l.length c ∧ Row W W.heap.size A (flat akC l) ∧ l.length ≤ c ∧ c ≤ maxLen ∧ ∀ x ∈ l, I64 x.f ∧ I64 x.pc ∧ I64 x.tg := by
  obtain ⟨A0, n0, c0, rfl⟩ := okWide_slice Try.underlying63 hv
  obtain ⟨fuel, hf⟩ := h
  obtain ⟨A, c, l, hcs, hr, hlc, hcm, hA, hG, _⟩ := open_rowDeep akC (fun x => I64 x.f ∧ I64 x.pc ∧ I64 x.tg) (size := 5) Try.underlying63 (by kernel_rfl) akC_len (by decide)
    (fun n hn cs y hy _ => by
      obtain ⟨y', hy', h1⟩ := open_ask n cs y hy
      exact ⟨y', hy', h1⟩) hf hx
  simp [Value.cells] at hcs
  obtain ⟨rfl, rfl, rfl⟩ := hcs
  exact ⟨A0, c0, l, rfl, hr, hlc, hcm, hG⟩
set_option maxRecDepth 100000 in
theorem open_code {r : Reach} {b0 : Nat} {v : Value} {d : DataW H} {ps : List MemPlace} (hv : Value.okWide Try.prog W r b0 62 v) (h : DataW.Trod enc Try.prog W 0 (fun _ => true) true 62 v d ps) (hx : Sized Try.prog 62 d) :
    ∃ (n : Nat) (q0 q1 q2 q3 q5 q6 : SlC) (A4 : Option Addr) (c4 : Nat) (ims : List Im) (fs : List FnC) (ls : List SlC), v = .agg #[.slice q0.A q0.len q0.cap, .slice q1.A q1.len q1.cap, .slice q2.A q2.len q2.cap, .slice q3.A q3.len q3.cap, .slice A4 ims.length c4, .slice q5.A q5.len q5.cap, .slice q6.A q6.len q6.cap] ∧
      CodeIn W W.heap.size n q2 q6 fs ls ∧ Row W W.heap.size A4 (flat imC ims) ∧ (A4 = none → c4 = 0) ∧ ims.length ≤ c4 ∧ ims.length * 40 ≤ 140737488355328 := by
  obtain ⟨cs, rfl, hsz⟩ := okWide_struct Try.underlying62 hv
  obtain ⟨fuel, hf⟩ := h
  obtain ⟨ys, k, rfl, hd, hl, hyl, hg⟩ := DataW.trod_struct Try.underlying62 hf
  injection hd with hd
  subst hd
  rw [show Try.prog.cellsOf 62 = 7 by kernel_rfl] at hsz
  obtain ⟨cs⟩ := cs
  match ys, hyl with
  | [y0, y1, y2, y3, y4, y5, y6], _ =>
  match cs, hsz with
  | [c0, c1, c2, c3, c4, c5, c6], _ =>
  have e0 := hg 0 _ rfl
  have e1 := hg 1 _ rfl
  have e2 := hg 2 _ rfl
  have e3 := hg 3 _ rfl
  have e4 := hg 4 _ rfl
  have e5 := hg 5 _ rfl
  have e6 := hg 6 _ rfl
  simp only [Value.cells, List.getElem?_cons_zero, List.getElem?_cons_succ] at e0 e1 e2 e3 e4 e5 e6
  obtain ⟨q0, rfl⟩ := open_slAny Try.underlying54 e0
  obtain ⟨q1, rfl⟩ := open_slAny Try.underlying55 e1
  obtain ⟨q3, rfl⟩ := open_slAny Try.underlying57 e3
  obtain ⟨q5, rfl⟩ := open_slAny Try.underlying59 e5
  obtain ⟨A2, k2', fs, h2, hr2, hlc2, hcm2, _, hG2, _⟩ := open_rowDeep fnC (fun y => ∃ l : List IcC, l.length = y.ins.len ∧ Row W W.heap.size y.ins.A (flat icC l) ∧ y.ins.len ≤ maxLen) (size := 5) Try.underlying56 (by kernel_rfl) fnC_len (by decide)
    (fun n hn cs y hy hs => open_fun n cs y hy hs) e2 (hx.field Try.underlying62 (j := 2) rfl rfl)
  obtain ⟨A4, k4, ims, h4, hr4, hlc4, hcm4, hA4, _, hby4⟩ := open_rowDeep imC (fun _ => True) (size := 3) Try.underlying58 (by kernel_rfl) imC_len (by decide)
    (fun n hn cs y hy _ => by
      obtain ⟨y', hy'⟩ := open_impl n cs y hy
      exact ⟨y', hy', trivial⟩) e4 (hx.field Try.underlying62 (j := 4) rfl rfl)
  obtain ⟨A6, k6, ls, h6, hr6, hlc6, hcm6, _, hG6, _⟩ := open_rowDeep slC (fun s => ∃ (l : List VC) (vs : List Val), l.length = s.len ∧ valRow W (· < W.heap.size) k s.A s.cap l vs) (size := 1) Try.underlying60 (by kernel_rfl) slC_len (by decide)
    (fun n hn cs y hy hs => by
      obtain ⟨A, c, l, vs, rfl, hrow, _⟩ := open_pats n cs y hy hs
      exact ⟨⟨A, l.length, c⟩, rfl, l, vs, rfl, ⟨hrow.1, hrow.2.1, fun i hi => (hrow.2.2.1 i hi).more (by omega), hrow.2.2.2⟩⟩) e6 (hx.field Try.underlying62 (j := 6) rfl rfl)
  rw [show Try.prog.bytesOf 81 = 40 by kernel_rfl] at hby4
  injection h2 with h2
  injection h4 with h4
  injection h6 with h6
  subst h2 h4 h6
  have hm4 : ims.length * 40 ≤ k4 * 40 := Nat.mul_le_mul_right _ hlc4
  unfold reachBytes at hby4
  exact ⟨k, q0, q1, ⟨A2, fs.length, k2'⟩, q3, q5, ⟨A6, ls.length, k6⟩, A4, k4, ims, fs, ls, rfl, ⟨rfl, hr2, Nat.le_trans hlc2 hcm2, hG2, rfl, hr6, Nat.le_trans hlc6 hcm6, hG6⟩, hr4, hA4, hlc4, by omega⟩
end
end Go.Proofs.Ytdjahlkjfpbifaa
