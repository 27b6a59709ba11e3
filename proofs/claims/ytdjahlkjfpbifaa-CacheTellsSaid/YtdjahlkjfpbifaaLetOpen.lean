
/-
  Letters and mailboxes that are handed in.
-/
import Derived.Test.YtdjahlkjfpbifaaBox4
namespace Go.Proofs.Ytdjahlkjfpbifaa
open Go.ChangeShapes Go.WideShapes Go.ChangeAt Go.RowKit Go.Deep

theorem LIn.more {w : World} {S : Nat → Prop} {n m : Nat} {x : LC} {t : Let} (hm : n ≤ m) (h : LIn w S n x t) : LIn w S m x t := ⟨h.1, h.2.more hm⟩
theorem letterRow.more {w : World} {S : Nat → Prop} {n m : Nat} {A : Option Addr} {c : Nat} {l : List LC} {ts : List Let} (hm : n ≤ m) (h : letterRow w S n A c l ts) : letterRow w S m A c l ts :=
  ⟨h.1, h.2.1, fun i hi => (h.2.2.1 i hi).more hm, h.2.2.2⟩

section
variable {H : Type} {enc : TypeId × Value → H} {W : World}
set_option maxRecDepth 100000 in
theorem open_letter (fuel : Nat) (cs : List Value) (x : DataW H × List MemPlace) (h : DataW.trod enc Try.prog W 0 (fun _ => true) true fuel 37 cs = some x) (hx : Sized Try.prog 37 x.1) :
    ∃ y : LC, cs = letterC y ∧ ∃ t, LIn W (· < W.heap.size) fuel y t := by
  obtain ⟨ys, k, rfl, rfl, hl, hyl, hf⟩ := DataW.trod_struct Try.underlying37 h
  rw [show Try.prog.cellsOf 37 = 9 by kernel_rfl] at hl
  match ys, hyl with
  | [y0, y1, y2, y3, y4, y5], _ =>
  match cs, hl with
  | [c0, c1, c2, c3, c4, c5, c6, c7, c8], _ =>
  have e0 := hf 0 _ rfl
  have e1 := hf 1 _ rfl
  have e2 := hf 2 _ rfl
  have e3 := hf 3 _ rfl
  have e4 := hf 4 _ rfl
  have e5 := hf 5 _ rfl
  simp only [List.getElem?_cons_zero, List.getElem?_cons_succ] at e0 e1 e2 e3 e4 e5
  obtain ⟨n0, h0, _, w0⟩ := DataW.trod_int Try.underlying3 e0
  obtain ⟨n1, h1, _, w1⟩ := DataW.trod_int Try.underlying3 e1
  obtain ⟨n2, h2, _, w2⟩ := DataW.trod_int Try.underlying3 e2
  obtain ⟨n3, h3, _, w3⟩ := DataW.trod_int Try.underlying3 e3
  obtain ⟨tx, h4, _, w4⟩ := DataW.trod_string Try.underlying9 e4
  obtain ⟨v, h5, u, hu⟩ := open_val _ _ _ e5 (hx.field Try.underlying37 (j := 5) rfl rfl)
  injection h0 with h0
  injection h1 with h1
  injection h2 with h2
  injection h3 with h3
  injection h4 with h4
  subst h0 h1 h2 h3 h4
  refine ⟨⟨n0, n1, n2, n3, tx, v⟩, ?_, ⟨n0, n1, n2, n3, tx, u⟩, ⟨rfl, rfl, rfl, rfl, rfl, w4, I64.of_wf w0, I64.of_wf w1, I64.of_wf w2, I64.of_wf w3⟩, hu.more (by omega)⟩
  unfold valC at h5
  injection h5 with a0 h5
  injection h5 with a1 h5
  injection h5 with a2 h5
  injection h5 with a3 h5
  subst a0 a1 a2 a3
  rfl

set_option maxRecDepth 100000 in
theorem open_letters (fuel : Nat) (cs : List Value) (x : DataW H × List MemPlace) (h : DataW.trod enc Try.prog W 0 (fun _ => true) true fuel 22 cs = some x) (hx : Sized Try.prog 22 x.1) :
    ∃ (A : Option Addr) (c : Nat) (l : List LC) (ts : List Let), cs = [.slice A l.length c] ∧ letterRow W (· < W.heap.size) fuel A c l ts := by
  obtain ⟨A, c, l, h3, hr, hlc, hcm, hA, hG, hby⟩ := open_rowDeep letterC (fun y => ∃ t, LIn W (· < W.heap.size) fuel y t) (size := 9) Try.underlying22 (by kernel_rfl) letterC_len (by decide)
    (fun n hn cs y hy hsz => by
      obtain ⟨y, hy1, t, ht⟩ := open_letter n cs y hy hsz
      exact ⟨y, hy1, t, ht.more (by omega)⟩) h hx
  rw [show Try.prog.bytesOf 37 = 104 by kernel_rfl] at hby
  obtain ⟨ts, htl, hts⟩ := choose_list (fun i (t : Let) => LIn W (· < W.heap.size) fuel (l.getD i lc0) t) l.length fun i hi => hG _ (getD_mem lc0 hi)
  have hm : l.length * 104 ≤ c * 104 := Nat.mul_le_mul_right _ hlc
  exact ⟨A, c, l, ts, h3, htl.symm, hr, fun i hi => hts i _ (getD_some let0 (by rw [htl]; exact hi)), hlc, hcm, hA, by omega⟩

set_option maxRecDepth 100000 in
theorem open_box {r : Reach} {b0 : Nat} {v : Value} {d : DataW H} {ps : List MemPlace} (hv : Value.okWide Try.prog W r b0 24 v) (h : DataW.Trod enc Try.prog W 0 (fun _ => true) true 24 v d ps) (hx : Sized Try.prog 24 d) :
    ∃ (n : Nat) (A : Option Addr) (c : Nat) (l : List LC) (ts : List Let) (p : Int), v = boxV A l.length c p ∧ letterRow W (· < W.heap.size) n A c l ts ∧ I64 p := by
  obtain ⟨cs, rfl, hsz⟩ := okWide_struct Try.underlying24 hv
  obtain ⟨fuel, hf⟩ := h
  obtain ⟨ys, k, rfl, hd, hl, hyl, hg⟩ := DataW.trod_struct Try.underlying24 hf
  injection hd with hd
  subst hd
  rw [show Try.prog.cellsOf 24 = 2 by kernel_rfl] at hsz
  obtain ⟨cs⟩ := cs
  match ys, hyl with
  | [y0, y1], _ =>
  match cs, hsz with
  | [c0, c1], _ =>
  have e0 := hg 0 _ rfl
  have e1 := hg 1 _ rfl
  simp only [Value.cells, List.getElem?_cons_zero, List.getElem?_cons_succ] at e0 e1
  obtain ⟨n1, h1, _, w1⟩ := DataW.trod_int Try.underlying3 e1
  obtain ⟨A, c, l, ts, h0, hr⟩ := open_letters _ _ _ e0 (hx.field Try.underlying24 (j := 0) rfl rfl)
  injection h0 with h0
  injection h1 with h1
  subst h0 h1
  exact ⟨_, A, c, l, ts, n1, rfl, hr, I64.of_wf w1⟩

set_option maxRecDepth 100000 in
theorem open_letterV {r : Reach} {b0 : Nat} {v : Value} {d : DataW H} {ps : List MemPlace} (hv : Value.okWide Try.prog W r b0 37 v) (h : DataW.Trod enc Try.prog W 0 (fun _ => true) true 37 v d ps) (hx : Sized Try.prog 37 d) :
    ∃ (n : Nat) (x : LC) (t : Let), v = letterV x ∧ LIn W (· < W.heap.size) n x t := by
  obtain ⟨cs, rfl, hsz⟩ := okWide_struct Try.underlying37 hv
  obtain ⟨fuel, hf⟩ := h
  obtain ⟨y, hy, t, ht⟩ := open_letter _ _ _ hf hx
  refine ⟨fuel, y, t, ?_, ht⟩
  have : cs = (letterC y).toArray := by
    rw [← hy]
    simp [Value.cells]
  rw [this]
  rfl
end
end Go.Proofs.Ytdjahlkjfpbifaa
