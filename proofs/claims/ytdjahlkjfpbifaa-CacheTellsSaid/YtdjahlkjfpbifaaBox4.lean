
/-
  The letters again; the letters of a sender.
-/
import Derived.Test.YtdjahlkjfpbifaaBox3
namespace Go.Proofs.Ytdjahlkjfpbifaa
open Go.RowKit

/-- A box and an errno. -/
def BoxPost (w : World) (n : Nat) (f p : Int) (ts : List Let) (e : Ending) (w' : World) : Prop :=
  ∃ A' c' l', e = .returned (.tuple #[boxV A' l'.length c' p, .int .i64 f]) ∧ letterRow w' (w.heap.size ≤ ·) n A' c' l' ts ∧ Below w.heap.size w w'
theorem letterRow.none {w : World} {S : Nat → Prop} {n : Nat} : letterRow w S n none 0 [] [] :=
  ⟨rfl, RowS.nil, fun i hi => absurd hi (by simp), by simp, by unfold maxLen; simp, fun _ => rfl, by simp⟩
theorem own_cells2 {w : World} {g : Nat} {e : TypeId} {c0 c1 : Value} (h : Box w g e #[c0, c1]) :
    w.cell? ⟨g, 0, none⟩ = some c0 ∧ w.cell? ⟨g, 1, none⟩ = some c1 ∧ w.frozen? ⟨g, 0, none⟩ = false ∧ w.frozen? ⟨g, 1, none⟩ = false :=
  ⟨h.cell 0, h.cell 1, h.frozen 0, h.frozen 1⟩

/-- Letters and an errno. -/
def LetPost (w : World) (n : Nat) (f : Int) (ts : List Let) (e : Ending) (w' : World) : Prop :=
  ∃ A' c' l', e = .returned (.tuple #[.slice A' l'.length c', .int .i64 f]) ∧ letterRow w' (w.heap.size ≤ ·) n A' c' l' ts ∧ Below w.heap.size w w'
def fromOf (who : Int) (ts : List Let) : List Let := ts.filter fun t => t.frm == who
theorem fromOf_take (who : Int) (ts : List Let) (k : Nat) (hk : k < ts.length) : fromOf who (ts.take (k + 1)) = fromOf who (ts.take k) ++ (if (ts.getD k let0).frm == who then [ts.getD k let0] else []) := by
  unfold fromOf
  rw [take_getD ts let0 hk, List.filter_append]
  congr 1
  generalize ts.getD k let0 = t
  rw [List.filter_cons, List.filter_nil]

end Go.Proofs.Ytdjahlkjfpbifaa
