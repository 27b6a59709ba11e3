
/-
  Package term and its reference: the value of a word.
-/
import Derived.Test.YtdjahlkjfpbifaaTermV
namespace Go.Proofs.Ytdjahlkjfpbifaa
open Go.RowKit

/-- The kind of the values with a tag. -/
def kindOf (t : Int) : Int := if t = 0 then 1 else if t = 1 then 2 else if t = 2 then 3 else 6
/-- Has a word a value by itself? -/
def valB (u : Int) : Bool := readB u && decide (u % 8 ≠ 4)
def leafAgg (u : Int) : Value := .agg #[.int .i64 (if valB u then kindOf (u % 8) else 0), .int .i64 (if valB u then readN u else 0), .string ⟨#[]⟩, .slice none 0 0]

/-- A struct result that lies in memory: all four cells were stored. -/
theorem four_stored {w w2 : World} {g : Nat} {y0 y1 y2 y3 : Value} (k q : Int) (x : Box w2 g 28 #[y0, y1, y2, y3]) (hb : Below w.heap.size w w2) (hg : w.heap.size ≤ g) :
    Box ((((w2.setCell ⟨g, 0, none⟩ (.int .i64 k)).setCell ⟨g, 1, none⟩ (.int .i64 q)).setCell ⟨g, 2, none⟩ (.string ⟨#[]⟩)).setCell ⟨g, 3, none⟩ (.slice none 0 0)) g 28 #[.int .i64 k, .int .i64 q, .string ⟨#[]⟩, .slice none 0 0] ∧
    Below w.heap.size w ((((w2.setCell ⟨g, 0, none⟩ (.int .i64 k)).setCell ⟨g, 1, none⟩ (.int .i64 q)).setCell ⟨g, 2, none⟩ (.string ⟨#[]⟩)).setCell ⟨g, 3, none⟩ (.slice none 0 0)) :=
  ⟨(((x.set 0 _).set 1 _).set 2 _).set 3 _, (((hb.setCell (p := ⟨g, 0, none⟩) hg _).setCell (p := ⟨g, 1, none⟩) hg _).setCell (p := ⟨g, 2, none⟩) hg _).setCell (p := ⟨g, 3, none⟩) hg _⟩

set_option maxRecDepth 100000 in
set_option maxHeartbeats 1000000 in
theorem same_any (k q : Int) (w : World) :
    Calls Try.prog 78 #[.agg #[.int .i64 k, .int .i64 q, .string ⟨#[]⟩, .slice none 0 0], .agg #[.int .i64 k, .int .i64 q, .string ⟨#[]⟩, .slice none 0 0]] w fun e w' => e = .returned (.bool true) ∧ Below w.heap.size w w' := by
  go_enter Try.func78, Try.ntmps78
  go_wp2_with fail
  refine wp_loop_rounds 1 ?_
  rw [rounds_succ]
  go_wp2_with fail
  go_ret
  exact ⟨rfl, ((Below.refl _ _).alloc (Nat.le_refl _) _).alloc (by simp) _⟩
end Go.Proofs.Ytdjahlkjfpbifaa
