
/-
  Programs as they lie in memory.
-/
import Derived.Test.YthglcnodoophaaaCkRows
namespace Go.Proofs.Ythglcnodoophaaa
open Go.RowKit

theorem inC_len (x : InC) : (inC x).length = 5 := rfl
theorem Row.ins {w : World} {B : Nat} {A : Option Addr} {l : List InC} (h : Row w B A (flat inC l)) {i : Nat} (hi : i < l.length) (d : InC) :
    ∃ b o, A = some ⟨b, o, none⟩ ∧ b < B
      ∧ w.cell? ⟨b, o + i * 5, none⟩ = some (.int .i64 (l.getD i d).op)
      ∧ w.cell? ⟨b, o + i * 5 + 1, none⟩ = some (.int .i64 (l.getD i d).a)
      ∧ w.cell? ⟨b, o + i * 5 + 2, none⟩ = some (.int .i64 (l.getD i d).b)
      ∧ w.cell? ⟨b, o + i * 5 + 3, none⟩ = some (.int .i64 (l.getD i d).c)
      ∧ w.cell? ⟨b, o + i * 5 + 4, none⟩ = some (.slice (l.getD i d).A (l.getD i d).args.length (l.getD i d).cap) := by
  obtain ⟨b, o, e, hb, hc⟩ := Row.elem inC_len (by decide) h (getD_some d hi)
  exact ⟨b, o, e, hb, hc 0 _ rfl, hc 1 _ rfl, hc 2 _ rfl, hc 3 _ rfl, hc 4 _ rfl⟩
def slC (x : SlC) : List Value := [.slice x.A x.len x.cap]
theorem slC_len (x : SlC) : (slC x).length = 1 := rfl
theorem Row.sl {w : World} {B : Nat} {A : Option Addr} {l : List SlC} (h : Row w B A (flat slC l)) {i : Nat} (hi : i < l.length) :
    ∃ b o, A = some ⟨b, o, none⟩ ∧ b < B ∧ w.cell? ⟨b, o + i, none⟩ = some (.slice (l.getD i slc0).A (l.getD i slc0).len (l.getD i slc0).cap) := by
  obtain ⟨b, o, e, hb, hc⟩ := Row.elem slC_len (by decide) h (getD_some slc0 hi)
  have h0 := hc 0 _ rfl
  rw [Nat.mul_one] at h0
  exact ⟨b, o, e, hb, h0⟩
/-- An instruction's arguments can be read, in blocks under B. -/
structure ArgsIn (w : World) (B : Nat) (x : InC) : Prop where
  row : Row w B x.A (ints x.args)
  len : x.args.length ≤ 1048576
  cap : x.args.length ≤ x.cap
  capm : x.cap ≤ maxLen
  none : x.A = none → x.cap = 0
theorem ArgsIn.ok {w : World} {B : Nat} {x : InC} (h : ArgsIn w B x) (hB : B ≤ w.heap.size) : InOk w B x := ⟨h.row, hB, h.len, h.cap, h.capm, h.none⟩
theorem ArgsIn.below {w w' : World} {B : Nat} {x : InC} (h : ArgsIn w B x) (hb : Below B w w') : ArgsIn w' B x := ⟨h.row.below hb, h.len, h.cap, h.capm, h.none⟩
/-- The cells y read as the function f. -/
structure FnIn (w : World) (B : Nat) (y : FcC) (f : FnP) : Prop where
  hp : y.p = f.p
  hh : y.h = f.h
  hr : y.r = f.r
  len : y.len = f.ins.length
  row : Row w B y.A (flat inC f.ins)
  max : f.ins.length ≤ 1048576
  args : ∀ x ∈ f.ins, ArgsIn w B x
theorem FnIn.below {w w' : World} {B : Nat} {y : FcC} {f : FnP} (h : FnIn w B y f) (hb : Below B w w') : FnIn w' B y f :=
  ⟨h.hp, h.hh, h.hr, h.len, h.row.below hb, h.max, fun x hx => (h.args x hx).below hb⟩
/-- The slice s reads as the patterns ps. -/
structure PsIn (w : World) (B n : Nat) (s : SlC) (ps : List Pt) : Prop where
  len : s.len = ps.length
  few : Few ps
  row : ∃ l : List PaC, l.length = s.len ∧ Row w B s.A (flat paC l) ∧ ∀ i, i < l.length → PaIn w (· < B) n (l.getD i pac0) (ps.getD i pt0)
theorem PsIn.below {w w' : World} {B n : Nat} {s : SlC} {ps : List Pt} (h : PsIn w B n s ps) (hb : Below B w w') : PsIn w' B n s ps := by
  obtain ⟨l, h1, h2, h3⟩ := h.row
  exact ⟨h.len, h.few, l, h1, h2.below hb, fun i hi => (h3 i hi).below hb fun _ h => h⟩
/-- The seven slices of a program, as they stand in a struct. -/
structure CkV where
  q0 : SlC
  q1 : SlC
  A2 : Option Addr
  c2 : Nat
  A3 : Option Addr
  c3 : Nat
  A4 : Option Addr
  c4 : Nat
  A5 : Option Addr
  c5 : Nat
  A6 : Option Addr
  c6 : Nat
def ckC (v : CkV) (P : CkP) : Array Value := #[.slice v.q0.A P.nT v.q0.cap, .slice v.q1.A P.nN v.q1.cap, .slice v.A2 P.fns.length v.c2, .slice v.A3 P.acs.length v.c3, .slice v.A4 P.ims.length v.c4, .slice v.A5 P.mks.length v.c5, .slice v.A6 P.pats.length v.c6]
/-- What they read as. -/
structure CkIn (w : World) (B n : Nat) (v : CkV) (P : CkP) : Prop where
  small : P.nT ≤ 1048576 ∧ P.nN ≤ 1048576 ∧ P.fns.length ≤ 1048576 ∧ P.acs.length ≤ 1048576 ∧ P.ims.length ≤ 1048576 ∧ P.mks.length ≤ 1048576 ∧ P.pats.length ≤ 1048576
  fns : ∃ l : List FcC, l.length = P.fns.length ∧ Row w B v.A2 (flat fcC l) ∧ ∀ i, i < l.length → FnIn w B (l.getD i fcc0) (P.fns.getD i fnp0)
  acs : Row w B v.A3 (flat acC P.acs)
  ims : Row w B v.A4 (flat ipC P.ims)
  mks : Row w B v.A5 (flat mkC P.mks)
  pats : ∃ l : List SlC, l.length = P.pats.length ∧ Row w B v.A6 (flat slC l) ∧ ∀ i, i < l.length → PsIn w B n (l.getD i slc0) (P.pats.getD i [])
theorem CkIn.below {w w' : World} {B n : Nat} {v : CkV} {P : CkP} (h : CkIn w B n v P) (hb : Below B w w') : CkIn w' B n v P := by
  obtain ⟨l, h1, h2, h3⟩ := h.fns
  obtain ⟨m, k1, k2, k3⟩ := h.pats
  exact ⟨h.small, ⟨l, h1, h2.below hb, fun i hi => (h3 i hi).below hb⟩, h.acs.below hb, h.ims.below hb, h.mks.below hb, m, k1, k2.below hb, fun i hi => (k3 i hi).below hb⟩
theorem CkIn.mono {w : World} {B B' n : Nat} {v : CkV} {P : CkP} (h : CkIn w B n v P) (hb : B ≤ B') : CkIn w B' n v P := by
  obtain ⟨l, h1, h2, h3⟩ := h.fns
  obtain ⟨m, k1, k2, k3⟩ := h.pats
  refine ⟨h.small, ⟨l, h1, h2.more hb, fun i hi => ?_⟩, h.acs.more hb, h.ims.more hb, h.mks.more hb, m, k1, k2.more hb, fun i hi => ?_⟩
  · have f := h3 i hi
    exact ⟨f.hp, f.hh, f.hr, f.len, f.row.more hb, f.max, fun x hx => ⟨(f.args x hx).row.more hb, (f.args x hx).len, (f.args x hx).cap, (f.args x hx).capm, (f.args x hx).none⟩⟩
  · have f := k3 i hi
    obtain ⟨p, e1, e2, e3⟩ := f.row
    exact ⟨f.len, f.few, p, e1, e2.more hb, fun i hi => (e3 i hi).keep (fun _ _ => rfl) (fun b hb' => Nat.lt_of_lt_of_le hb' hb)⟩
end Go.Proofs.Ythglcnodoophaaa
