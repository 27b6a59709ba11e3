/-
  What the walk of WardTells keeps.
-/
import Derived.Test.YtcmkkfpcdebfkaaWd22
namespace Go.Proofs.Ytcmkkfpcdebfkaa
open Go.RowKit

/-- One child appended to a slice of the call's own. -/
theorem wpList_pushq_wc {ops : Array Oper} {rest : List Oper} {o : Oper} {a : Act} {w : World} {Q : Exit → Act → World → Prop} (hgd : o.guard = none) (s x : Operand)
    (ho : o.op = .call { callee := .builtin .append, args := #[s, x], argTypes := #[213, 213] })
    (base : Nat) (A : Option Addr) (c : Nat) (zs : List Ch) (hs : a.eval s = .slice A zs.length c) (hown : OwnAt w base 230 3 A zs.length c (flat wcC zs)) (g : Nat) (y : Ch) (hx : a.eval x = .slice (some ⟨g, 0, none⟩) 1 1) (hy : ∀ j u, (wcC y)[j]? = some u → w.cell? ⟨g, j, none⟩ = some u)
    (hb : (zs.length + 1) * 24 ≤ 140737488355328) (hbase : base ≤ w.heap.size)
    (h : ∀ A' c' w', OwnAt w' base 230 3 A' (zs.length + 1) c' (flat wcC (zs ++ [y])) → Only (fun b => A.map (·.block) = some b) w w' → wpList Try.prog ops Q rest (a.put o.dst (.slice A' (zs.length + 1) c')) w') : wpList Try.prog ops Q (o :: rest) a w := by
  obtain ⟨i0, z0, hi0, hz0, hz1, hz2, hz3⟩ := wc_parts
  refine wpList_append_q hgd s x _ ho base 230 i0 z0 3 24 Try.underlying213 hi0 hz0 hz1 hz2 hz3 (by decide) A zs.length c (flat wcC zs) hs hown ⟨g, 0, none⟩ 1 1 (wcC y) hx rfl ?_ (wc_one y) (by unfold maxLen; omega) hb hbase (by decide) ?_
  · intro j u hu
    rw [addr_add, Nat.zero_add]
    exact hy j u hu
  · intro g' o' c' w' h1 h2 _
    exact h _ c' w' (by rw [flat_append, flat_one]; exact h1) ⟨h2.os, h2.tape, h2.output, h2.size, fun i hi hne => h2.block i hi (fun e => hne e.symm)⟩
/-- A new block, stored into whole. -/
theorem newStored {w w' : World} {t : TypeId} {z cs : Array Value} (hs : Stored (w.alloc (.cells z t)) w' w.heap.size t cs) : Box w' w.heap.size t cs ∧ Below w.heap.size w w' ∧ w.heap.size + 1 = w'.heap.size :=
  ⟨hs.box, hs.only.to_below ((Below.refl _ _).alloc (Nat.le_refl _) _) (by simp) (fun i hi => by omega), by have := hs.size; simp at this; omega⟩
/-- Two new blocks, stored into one after the other. -/
theorem newStored2 {w w' w'' : World} {t t' : TypeId} {z z' cs cs' : Array Value} (hs : Stored ((w.alloc (.cells z t)).alloc (.cells z' t')) w' w.heap.size t cs) (hs' : Stored w' w'' (w.heap.size + 1) t' cs') :
    Box w'' w.heap.size t cs ∧ Box w'' (w.heap.size + 1) t' cs' ∧ Below w.heap.size w w'' ∧ w.heap.size + 1 + 1 = w''.heap.size :=
  ⟨hs'.only.box hs.box (by omega), hs'.box, hs'.only.to_below (hs.only.to_below (((Below.refl w.heap.size w).alloc (Nat.le_refl _) _).alloc (by simp) _) (by simp; omega) (fun i hi => by omega)) (by have := hs.size; simp at this; omega) (fun i hi => by omega), by
    have := hs.size; have := hs'.size; simp at *; omega⟩
abbrev wcs (x : WA) (v : Wd) : Array Value := #[.int .i64 v.how, .int .i64 v.most, .int .i64 v.win, .slice x.A v.ch.length x.c, .slice x.B v.tm.length x.d]
abbrev pcs (p : PA) (q : PlV) : Array Value := #[.slice p.C q.1.length p.k, .slice p.D q.2.1.length p.l, .bool q.2.2]
/-- What has been called, and where it lies. -/
structure LwS (W w : World) (g11 g14 g17 g20 : Nat) (x : WA) (v : Wd) (xa : WA) (qa : Wd) (xb : WA) (pb : PA) (qb : Wd × PlV) (xc : WA) (qc : Wd) (Ci : Option Addr) (ki : Nat) (ids : List Int) (C : Option Addr) (kc : Nat) (outs : List (PA × PlV)) : Prop where
  bx : Box w W.heap.size 215 (wcs x v)
  b11 : Box w g11 215 (wcs xa qa)
  b14 : Box w g14 215 (wcs xb qb.1)
  b15 : Box w (g14 + 1) 220 (pcs pb qb.2)
  b17 : Box w g17 215 (wcs xc qc)
  b20 : Box w g20 215 (wcs ⟨none, 0, none, 0⟩ wd0)
  iv : WIn w x v
  ia : WIn w xa qa
  ib : WIn w xb qb.1
  ip : PIn w pb qb.2
  ic : WIn w xc qc
  id : OwnAt w W.heap.size 3 1 Ci ids.length ki (ints ids)
  pl : Plans w W.heap.size C kc outs
  bb : Below W.heap.size W w
theorem LwS.below {W w w' : World} {g11 g14 g17 g20 : Nat} {x : WA} {v : Wd} {xa : WA} {qa : Wd} {xb : WA} {pb : PA} {qb : Wd × PlV} {xc : WA} {qc : Wd} {Ci : Option Addr} {ki : Nat} {ids : List Int} {C : Option Addr} {kc : Nat} {outs : List (PA × PlV)}
    (h : LwS W w g11 g14 g17 g20 x v xa qa xb pb qb xc qc Ci ki ids C kc outs) (hb : Below w.heap.size w w') : LwS W w' g11 g14 g17 g20 x v xa qa xb pb qb xc qc Ci ki ids C kc outs :=
  ⟨h.bx.below hb h.bx.lt, h.b11.below hb h.b11.lt, h.b14.below hb h.b14.lt, h.b15.below hb h.b15.lt, h.b17.below hb h.b17.lt, h.b20.below hb h.b20.lt, h.iv.below hb, h.ia.below hb, h.ib.below hb, h.ip.below hb, h.ic.below hb, h.id.below hb, h.pl.below hb, h.bb.trans (hb.mono h.bb.size)⟩
theorem win0 (w : World) : WIn w ⟨none, 0, none, 0⟩ wd0 := ⟨Row.nil, Row.nil, by decide, by decide, fun _ => rfl, by decide, by decide, fun _ => rfl⟩
theorem pin0 (w : World) : PIn w ⟨none, 0, none, 0⟩ pl0 := ⟨Row.nil, Row.nil, by decide, by decide, by decide, by decide⟩
/-- What the law's own loop over the falls has come to. -/
def LawCut (w0 : World) (r : Int × Wd × List PlV) (v29 : Value) (wx : World) : Prop :=
  ∃ xq q C2 kc2 outs2, r = (0, q, outs2.map (·.2)) ∧ v29 = .slice C2 outs2.length kc2 ∧ Box wx w0.heap.size 215 (wcs xq q) ∧ WIn wx xq q ∧ Plans wx (w0.heap.size + 1) C2 kc2 outs2 ∧ Below w0.heap.size w0 wx
theorem deadIds_len (l : List Ch) : (deadIds l).length ≤ l.length := by
  unfold deadIds
  rw [List.length_map]
  exact List.length_filter_le _ _
end Go.Proofs.Ytcmkkfpcdebfkaa
