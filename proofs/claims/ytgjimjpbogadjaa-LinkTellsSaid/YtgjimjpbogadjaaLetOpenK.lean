
/-
  Letters that are handed in.
-/
import Derived.Test.YtgjimjpbogadjaaBox2
namespace Go.Proofs.Ytgjimjpbogadjaa
open Go.ChangeShapes Go.WideShapes Go.ChangeAt Go.RowKit Go.Deep

theorem LIn.more {w : World} {S : Nat → Prop} {n m : Nat} {x : LC} {t : Let} (hm : n ≤ m) (h : LIn w S n x t) : LIn w S m x t := ⟨h.1, h.2.more hm⟩
theorem letterRow.more {w : World} {S : Nat → Prop} {n m : Nat} {A : Option Addr} {c : Nat} {l : List LC} {ts : List Let} (hm : n ≤ m) (h : letterRow w S n A c l ts) : letterRow w S m A c l ts :=
  ⟨h.1, h.2.1, fun i hi => (h.2.2.1 i hi).more hm, h.2.2.2⟩

section
variable {H : Type} {enc : TypeId × Value → H} {W : World}
set_option maxRecDepth 100000 in
theorem open_letter (fuel : Nat) (cs : List Value) (x : DataW H × List MemPlace) (h : DataW.trod enc Try.prog W 0 (fun _ => true) true fuel 98 cs = some x) (hx : Sized Try.prog 98 x.1) :
    ∃ y : LC, cs = letterC y ∧ ∃ t, LIn W (· < W.heap.size) fuel y t := by
  obtain ⟨ys, k, rfl, rfl, hl, hyl, hf⟩ := DataW.trod_struct Try.underlying98 h
  rw [show Try.prog.cellsOf 98 = 9 by kernel_rfl] at hl
  match ys, hyl with
  | [y0, y1, y2, y3, y4, y5], _ =>
  match cs, hl with
  | [c0, c1, c2, c3, c4, c5, c6, c7, c8], _ =>
  have e0 := hf 0 _ rfl
  have e1 := hf 1 _ rfl
  have e2 := hf 2 _ rfl
  have e3 := hf 3 _ rfl
  have e4 := hf 4 _ rfl
  have e5 := hf 5 _ rfl
  simp only [List.getElem?_cons_zero, List.getElem?_cons_succ] at e0 e1 e2 e3 e4 e5
  obtain ⟨n0, h0, _, w0⟩ := DataW.trod_int Try.underlying3 e0
  obtain ⟨n1, h1, _, w1⟩ := DataW.trod_int Try.underlying3 e1
  obtain ⟨n2, h2, _, w2⟩ := DataW.trod_int Try.underlying3 e2
  obtain ⟨n3, h3, _, w3⟩ := DataW.trod_int Try.underlying3 e3
  obtain ⟨tx, h4, _, w4⟩ := DataW.trod_string Try.underlying9 e4
  obtain ⟨v, h5, u, hu⟩ := open_val _ _ _ e5 (hx.field Try.underlying98 (j := 5) rfl rfl)
  injection h0 with h0
  injection h1 with h1
  injection h2 with h2
  injection h3 with h3
  injection h4 with h4
  subst h0 h1 h2 h3 h4
  refine ⟨⟨n0, n1, n2, n3, tx, v⟩, ?_, ⟨n0, n1, n2, n3, tx, u⟩, ⟨rfl, rfl, rfl, rfl, rfl, w4, I64.of_wf w0, I64.of_wf w1, I64.of_wf w2, I64.of_wf w3⟩, hu.more (by omega)⟩
  unfold valC at h5
  injection h5 with a0 h5
  injection h5 with a1 h5
  injection h5 with a2 h5
  injection h5 with a3 h5
  subst a0 a1 a2 a3
  rfl

set_option maxRecDepth 100000 in
theorem open_letterV {r : Reach} {b0 : Nat} {v : Value} {d : DataW H} {ps : List MemPlace} (hv : Value.okWide Try.prog W r b0 98 v) (h : DataW.Trod enc Try.prog W 0 (fun _ => true) true 98 v d ps) (hx : Sized Try.prog 98 d) :
    ∃ (n : Nat) (x : LC) (t : Let), v = letterV x ∧ LIn W (· < W.heap.size) n x t := by
  obtain ⟨cs, rfl, hsz⟩ := okWide_struct Try.underlying98 hv
  obtain ⟨fuel, hf⟩ := h
  obtain ⟨y, hy, t, ht⟩ := open_letter _ _ _ hf hx
  refine ⟨fuel, y, t, ?_, ht⟩
  have : cs = (letterC y).toArray := by
    rw [← hy]
    simp [Value.cells]
  rw [this]
  rfl
end
end Go.Proofs.Ytgjimjpbogadjaa
