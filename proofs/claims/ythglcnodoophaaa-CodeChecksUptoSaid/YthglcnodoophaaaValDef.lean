
/-
  Values and letters, and their cells.
-/
import Derived.Test.YthglcnodoophaaaQueue
namespace Go.Proofs.Ythglcnodoophaaa

/-- A value's own four cells. -/
structure VC where
  kind : Int
  num : Int
  text : ByteArray
  A : Option Addr
  len : Nat
  cap : Nat
def vc0 : VC := ⟨0, 0, ⟨#[]⟩, none, 0, 0⟩
inductive Val where
  | mk (kind num : Int) (text : ByteArray) (args : List Val)
def Val.kind : Val → Int
  | .mk k _ _ _ => k
def Val.num : Val → Int
  | .mk _ n _ _ => n
def Val.text : Val → ByteArray
  | .mk _ _ t _ => t
def Val.args : Val → List Val
  | .mk _ _ _ l => l
def val0 : Val := .mk 0 0 ⟨#[]⟩ []
theorem Val.eq_iff (a b : Val) : a = b ↔ a.kind = b.kind ∧ a.num = b.num ∧ a.text = b.text ∧ a.args = b.args := by
  cases a; cases b; simp [Val.kind, Val.num, Val.text, Val.args]

/-- A letter's own nine cells. -/
structure LC where
  kind : Int
  frm : Int
  to : Int
  num : Int
  text : ByteArray
  v : VC
def lc0 : LC := ⟨0, 0, 0, 0, ⟨#[]⟩, vc0⟩
structure Let where
  kind : Int
  frm : Int
  to : Int
  num : Int
  text : ByteArray
  v : Val
def let0 : Let := ⟨0, 0, 0, 0, ⟨#[]⟩, val0⟩
end Go.Proofs.Ythglcnodoophaaa
