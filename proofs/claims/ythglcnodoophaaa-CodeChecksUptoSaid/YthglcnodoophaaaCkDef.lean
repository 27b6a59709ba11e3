
/-
  Programs checked (plain law).
-/
import Derived.Test.YthglcnodoophaaaIn9
namespace Go.Proofs.Ythglcnodoophaaa

/-- Is a number an index of so many? -/
def inB (i n : Int) : Bool := decide (0 ≤ i ∧ i < n)
/-- A function: parameters, what it holds, registers, instructions. -/
structure FnP where
  p : Int
  h : Int
  r : Int
  ins : List InC
def inc0 : InC := ⟨0, 0, 0, 0, none, 0, []⟩
def fnp0 : FnP := ⟨0, 0, 0, []⟩
/-- A function's cells; a slice's. -/
structure FcC where
  name : ByteArray
  p : Int
  h : Int
  r : Int
  A : Option Addr
  len : Nat
  cap : Nat
def fcc0 : FcC := ⟨⟨#[]⟩, 0, 0, 0, none, 0, 0⟩
structure SlC where
  A : Option Addr
  len : Nat
  cap : Nat
def slc0 : SlC := ⟨none, 0, 0⟩
/-- An actor's cells; a constructor's. -/
structure AcC where
  name : ByteArray
  st : Int
  fn : Int
  top : Bool
def acc0 : AcC := ⟨⟨#[]⟩, 0, 0, false⟩
structure MkC where
  name : ByteArray
  data : ByteArray
  args : Int
def mkc0 : MkC := ⟨⟨#[]⟩, ⟨#[]⟩, 0⟩
structure IpC where
  name : ByteArray
  typ : ByteArray
  fn : Int
def ipc0 : IpC := ⟨⟨#[]⟩, ⟨#[]⟩, 0⟩
/-- A program, as far as it is checked. -/
structure CkP where
  nT : Nat
  nN : Nat
  fns : List FnP
  acs : List AcC
  ims : List IpC
  mks : List MkC
  pats : List (List Pt)

/-- The registers that an instruction names. -/
def wrL (x : InC) : List Int := if (shapeF x.op).wr = true then [x.a] else []
def armRegs (vs : List ArV) : List Int := vs.flatMap (·.2)
def regsT (x : InC) : List Int := readsT x ++ wrL x ++ armRegs (armsT x)
/-- What the arms stand in. -/
def armArgs (x : InC) : List Int := if x.op = 16 then x.args.tail else x.args
/-- Has each arm as many registers as its pattern binds names? -/
def armsFit : List ArV → List Pt → Bool
  | [], [] => true
  | v :: vs, p :: ps => decide (v.2.length = p.bn) && armsFit vs ps
  | _, _ => false
def armsOkF (pats : List (List Pt)) (x : InC) : Bool :=
  (gatF (armArgs x)).isSome && inB x.b pats.length && armsFit (gatL (armArgs x)) (pats.getD x.b.toNat [])
def hd0 (x : InC) : Int := x.args.getD 0 0
def fieldsF (P : CkP) (x : InC) : Bool :=
  if x.op = 1 then
    (if x.b = 1 then true else if x.b = 3 then inB x.c 2 else if x.b = 2 then inB x.c P.nN else if x.b = 4 then inB x.c P.nT else false)
  else if x.op = 5 then inB x.b 9 && decide (x.args.length = if x.b = 8 then 1 else 2)
  else if x.op = 6 then inB x.b P.fns.length && decide ((P.fns.getD x.b.toNat fnp0).h = 0) && decide ((P.fns.getD x.b.toNat fnp0).p = (x.args.length : Int))
  else if x.op = 8 then inB x.b P.fns.length && decide ((P.fns.getD x.b.toNat fnp0).h = (x.args.length : Int))
  else if x.op = 7 then inB x.b P.nT && decide (0 < x.args.length)
  else if x.op = 10 ∨ x.op = 17 ∨ x.op = 27 then inB x.b P.nT
  else if x.op = 12 then inB x.b P.acs.length && decide ((P.acs.getD x.b.toNat acc0).st = (x.args.length : Int))
  else if x.op = 11 then armsOkF P.pats x
  else if x.op = 16 then decide (0 < x.args.length) && decide (-1 ≤ x.c) && decide (-1 ≤ hd0 x) && (decide (x.c < 0) == decide (hd0 x < 0)) && armsOkF P.pats x
  else true
def validF (P : CkP) (n : Nat) (r : Int) (x : InC) (t : Int) : Bool :=
  decide (1 ≤ x.op ∧ x.op < 28) && (nextT x t).all (inB · n) && (regsT x).all (fun q => decide (0 ≤ q ∧ q < r)) && fieldsF P x
/-- From the k-th instruction on. -/
def insF (P : CkP) (n : Nat) (r : Int) : List InC → Int → Bool
  | [], _ => true
  | x :: l, t => validF P n r x t && insF P n r l (t + 1)
def funF (P : CkP) (f : FnP) : Int :=
  if 4000 < f.ins.length ∨ 2000 < f.r then 2
  else if (!inB f.p 2001 || !inB f.h 2001) = true ∨ f.r < f.p + f.h ∨ f.ins.length = 0 then 3
  else if insF P f.ins.length f.r f.ins 0 = true then 0 else 3
def topF (f : FnP) : Bool := match f.ins with
  | [] => false
  | x :: _ => decide (x.op = 16)
def acF (P : CkP) (a : AcC) : Bool :=
  inB a.fn P.fns.length && decide (0 ≤ a.st) && decide ((P.fns.getD a.fn.toNat fnp0).p = a.st) && decide ((P.fns.getD a.fn.toNat fnp0).h = 0) && (!a.top || topF (P.fns.getD a.fn.toNat fnp0))
def imF (P : CkP) (a : IpC) : Bool := inB a.fn P.fns.length && decide ((P.fns.getD a.fn.toNat fnp0).h = 0)
def funsF (P : CkP) : List FnP → Int
  | [] => 0
  | f :: l => if funF P f = 0 then funsF P l else funF P f
def faultF (P : CkP) : Int :=
  if 1000 < P.fns.length ∨ 4000 < P.nT ∨ 4000 < P.nN ∨ 2000 < P.pats.length then 2
  else if P.acs.all (acF P) = false then 3
  else if P.ims.all (imF P) = false then 3
  else if P.mks.all (fun m => decide (0 ≤ m.args)) = false then 3
  else funsF P P.fns
theorem armsFit_len : ∀ (vs : List ArV) (ps : List Pt), vs.length ≠ ps.length → armsFit vs ps = false
  | [], [], h => absurd rfl h
  | [], _ :: _, _ => rfl
  | _ :: _, [], _ => rfl
  | v :: vs, p :: ps, h => by
    unfold armsFit
    rw [armsFit_len vs ps (fun e => h (by simp [e])), Bool.and_false]
theorem armsFit_drop (vs : List ArV) (ps : List Pt) {k : Nat} (h1 : k < vs.length) (h2 : k < ps.length) :
    armsFit (vs.drop k) (ps.drop k) = (decide ((vs.getD k arv0).2.length = (ps.getD k pt0).bn) && armsFit (vs.drop (k + 1)) (ps.drop (k + 1))) := by
  rw [drop_getD vs arv0 h1, drop_getD ps pt0 h2]
  rfl
theorem armsFit_end (vs : List ArV) (ps : List Pt) (h : vs.length = ps.length) : armsFit (vs.drop vs.length) (ps.drop vs.length) = true := by
  rw [List.drop_length, h, List.drop_length]
  rfl
theorem insF_drop (P : CkP) (n : Nat) (r : Int) (l : List InC) {k : Nat} (h : k < l.length) (t : Int) :
    insF P n r (l.drop k) t = (validF P n r (l.getD k inc0) t && insF P n r (l.drop (k + 1)) (t + 1)) := by
  rw [drop_getD l inc0 h]
  rfl
theorem funsF_drop (P : CkP) (l : List FnP) {k : Nat} (h : k < l.length) : funsF P (l.drop k) = if funF P (l.getD k fnp0) = 0 then funsF P (l.drop (k + 1)) else funF P (l.getD k fnp0) := by
  rw [drop_getD l fnp0 h]
  rfl
theorem all_drop {α : Type} (p : α → Bool) (l : List α) (d : α) {k : Nat} (h : k < l.length) : (l.drop k).all p = (p (l.getD k d) && (l.drop (k + 1)).all p) := by
  rw [drop_getD l d h]
  rfl
theorem all_end {α : Type} (p : α → Bool) (l : List α) : (l.drop l.length).all p = true := by rw [List.drop_length]; rfl
end Go.Proofs.Ythglcnodoophaaa
