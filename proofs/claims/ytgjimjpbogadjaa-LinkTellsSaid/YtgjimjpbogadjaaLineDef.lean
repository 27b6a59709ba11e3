
/-
  Bodies, and what holds them: their cells, and what they read as.
-/
import Derived.Test.YtgjimjpbogadjaaValRead
import Derived.Test.YtgjimjpbogadjaaOwnOnly
namespace Go.Proofs.Ytgjimjpbogadjaa
open Go.RowKit

/-- A body's one cell: a slice of bytes. -/
structure BC where
  A : Option Addr
  len : Nat
  cap : Nat
def bc0 : BC := ⟨none, 0, 0⟩
abbrev Body := List UInt8
def u8s (xs : Body) : List Value := xs.map fun b => Value.int .u8 (b.toNat : Int)
theorem u8s_len (xs : Body) : (u8s xs).length = xs.length := by simp [u8s]
/-- The cell reads as the body bs, whose bytes lie in blocks of S (the number says nothing here). -/
def BIn (w : World) (S : Nat → Prop) (_n : Nat) (x : BC) (bs : Body) : Prop :=
  x.len = bs.length ∧ RowS w S x.A (u8s bs) ∧ x.len ≤ x.cap ∧ x.cap ≤ maxLen ∧ (x.A = none → x.cap = 0)
theorem BIn.keep {w w' : World} {S S' : Nat → Prop} (hk : ∀ p : Addr, S p.block → w'.cell? p = w.cell? p) (hS : ∀ b, S b → S' b) {n : Nat} {x : BC} {bs : Body} (h : BIn w S n x bs) : BIn w' S' n x bs :=
  ⟨h.1, h.2.1.keep hk hS, h.2.2⟩
theorem BIn.below {w w' : World} {B : Nat} {S : Nat → Prop} (hb : Below B w w') (hS : ∀ b, S b → b < B) {n : Nat} {x : BC} {bs : Body} (h : BIn w S n x bs) : BIn w' S n x bs := h.keep (fun _ hp => hb.cell (hS _ hp)) fun _ h => h
theorem BIn.lt {w : World} {S : Nat → Prop} {n : Nat} {x : BC} {bs : Body} (h : BIn w S n x bs) : BIn w (fun b => S b ∧ b < w.heap.size) n x bs := ⟨h.1, h.2.1.lt, h.2.2⟩
theorem BIn.all {w : World} {S : Nat → Prop} {n : Nat} {x : BC} {bs : Body} (h : BIn w S n x bs) : BIn w (· < w.heap.size) n x bs := h.lt.keep (fun _ _ => rfl) fun _ h => h.2
theorem BIn.none {w : World} {S : Nat → Prop} {n : Nat} : BIn w S n bc0 [] := ⟨rfl, RowS.nil, Nat.le_refl _, Nat.zero_le _, fun _ => rfl⟩

/-- A body that waits, and whether it was sent. -/
structure PC where
  b : BC
  sent : Bool
def pc0 : PC := ⟨bc0, false⟩
def PIn (w : World) (S : Nat → Prop) (n : Nat) (x : PC) (y : Body × Bool) : Prop := x.sent = y.2 ∧ BIn w S n x.b y.1
theorem PIn.keep {w w' : World} {S S' : Nat → Prop} (hk : ∀ p : Addr, S p.block → w'.cell? p = w.cell? p) (hS : ∀ b, S b → S' b) {n : Nat} {x : PC} {y : Body × Bool} (h : PIn w S n x y) : PIn w' S' n x y := ⟨h.1, h.2.keep hk hS⟩
theorem PIn.lt {w : World} {S : Nat → Prop} {n : Nat} {x : PC} {y : Body × Bool} (h : PIn w S n x y) : PIn w (fun b => S b ∧ b < w.heap.size) n x y := ⟨h.1, h.2.lt⟩

/-- A packet: five cells. -/
structure KC where
  seq : Int
  ack : Int
  has : Bool
  window : Int
  b : BC
def kc0 : KC := ⟨0, 0, false, 0, bc0⟩
structure Pkt where
  seq : Int
  ack : Int
  has : Bool
  window : Int
  body : Body
def pkt0 : Pkt := ⟨0, 0, false, 0, []⟩
def KIn (w : World) (S : Nat → Prop) (n : Nat) (x : KC) (y : Pkt) : Prop := (x.seq = y.seq ∧ x.ack = y.ack ∧ x.has = y.has ∧ x.window = y.window) ∧ BIn w S n x.b y.body
theorem KIn.keep {w w' : World} {S S' : Nat → Prop} (hk : ∀ p : Addr, S p.block → w'.cell? p = w.cell? p) (hS : ∀ b, S b → S' b) {n : Nat} {x : KC} {y : Pkt} (h : KIn w S n x y) : KIn w' S' n x y := ⟨h.1, h.2.keep hk hS⟩
theorem KIn.lt {w : World} {S : Nat → Prop} {n : Nat} {x : KC} {y : Pkt} (h : KIn w S n x y) : KIn w (fun b => S b ∧ b < w.heap.size) n x y := ⟨h.1, h.2.lt⟩
end Go.Proofs.Ytgjimjpbogadjaa
