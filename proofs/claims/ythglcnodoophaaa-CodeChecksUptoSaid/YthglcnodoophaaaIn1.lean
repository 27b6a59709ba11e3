
/-
  Instructions by value: what they hold; Writes on both sides.
-/
import Derived.Test.YthglcnodoophaaaAr4
namespace Go.Proofs.Ythglcnodoophaaa
open Go.RowKit

structure InC where
  op : Int
  a : Int
  b : Int
  c : Int
  A : Option Addr
  cap : Nat
  args : List Int
def inC (x : InC) : List Value := [.int .i64 x.op, .int .i64 x.a, .int .i64 x.b, .int .i64 x.c, .slice x.A x.args.length x.cap]
def inV (x : InC) : Value := .agg #[.int .i64 x.op, .int .i64 x.a, .int .i64 x.b, .int .i64 x.c, .slice x.A x.args.length x.cap]
/-- Its arguments can be read, in blocks under B. -/
structure InOk (w : World) (B : Nat) (x : InC) : Prop where
  row : Row w B x.A (ints x.args)
  hB : B ≤ w.heap.size
  len : x.args.length ≤ 1048576
  cap : x.args.length ≤ x.cap
  capm : x.cap ≤ maxLen
  none : x.A = none → x.cap = 0
theorem InOk.below {w w' : World} {B : Nat} {x : InC} (h : InOk w B x) (hb : Below w.heap.size w w') : InOk w' B x :=
  ⟨h.row.below (hb.mono h.hB), Nat.le_trans h.hB hb.size, h.len, h.cap, h.capm, h.none⟩

/-- A row of ints is handed back. -/
def IsRow (w : World) (zs : List Int) (e : Ending) (w' : World) : Prop := ∃ (A : Option Addr) (c : Nat), e = .returned (.slice A zs.length c) ∧ OwnAt w' w.heap.size 3 1 A zs.length c (ints zs) ∧ Below w.heap.size w w'
theorem isRow_nil {w w' : World} (hb : Below w.heap.size w w') : IsRow w [] (.returned (.slice none 0 0)) w' := ⟨none, 0, rfl, OwnAt.nil, hb⟩
theorem row_new (w : World) (zs : List Int) : Row (w.alloc (.cells (ints zs).toArray 3)) (w.heap.size + 1) (some ⟨w.heap.size, 0, none⟩) (ints zs) := fun _ =>
  ⟨w.heap.size, 0, rfl, Nat.lt_succ_self _, fun i v hv => by rw [Nat.zero_add, (Box.new w 3 (ints zs).toArray).cell i, ← hv]; simp⟩
theorem isRow_own {w w' : World} {base : Nat} {v : Value} {zs : List Int} (hbase : w.heap.size ≤ base) (ho : w'.ownsRow base 3 1 v zs.length (ints zs)) (hb : Below w.heap.size w w') : IsRow w zs (.returned v) w' := by
  obtain ⟨A, c, rfl, hq⟩ := OwnAt.of_own ho
  exact ⟨A, c, rfl, hq.lower hbase, hb⟩

def writesS : List Int := [1, 2, 5, 6, 7, 8, 9, 10, 12, 14, 20, 21]
def writesF (x : InC) : Int := if x.op ∈ writesS then x.a else -1
end Go.Proofs.Ythglcnodoophaaa
