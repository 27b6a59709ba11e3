
/-
  Patterns, and their cells.
-/
import Derived.Test.YthglcnodoophaaaQueue
namespace Go.Proofs.Ythglcnodoophaaa

/-- A pattern's own four cells. -/
structure PaC where
  kind : Int
  num : Int
  text : ByteArray
  A : Option Addr
  len : Nat
  cap : Nat
def pac0 : PaC := ⟨0, 0, ⟨#[]⟩, none, 0, 0⟩
inductive Pt where
  | mk (kind : Int) (args : List Pt)
def Pt.kind : Pt → Int
  | .mk k _ => k
def Pt.args : Pt → List Pt
  | .mk _ l => l
def pt0 : Pt := .mk 0 []
mutual
/-- How many parts there are. -/
def Pt.size : Pt → Nat
  | .mk _ l => 1 + Pt.sizes l
def Pt.sizes : List Pt → Nat
  | [] => 0
  | x :: r => x.size + Pt.sizes r
end
mutual
/-- nodes with a bound: 1000 past it. -/
def Pt.nd : Nat → Pt → Nat
  | 0, .mk _ l => if l = [] then 1 else 1000
  | m + 1, .mk _ l => 1 + Pt.nds m l
def Pt.nds : Nat → List Pt → Nat
  | _, [] => 0
  | m, x :: r => Pt.nd m x + Pt.nds m r
end
mutual
/-- How many names are bound. -/
def Pt.bn : Pt → Nat
  | .mk k l => if k = 2 then 1 else if k = 6 then Pt.bns l else 0
def Pt.bns : List Pt → Nat
  | [] => 0
  | x :: r => x.bn + Pt.bns r
end
end Go.Proofs.Ythglcnodoophaaa
