
/-
  Operator: where a name stands among the nine.
-/
import Derived.Test.YthglcnodoophaaaIn1
namespace Go.Proofs.Ythglcnodoophaaa
open Go.RowKit

def strs (l : List ByteArray) : List Value := l.map .string
theorem strs_len (l : List ByteArray) : (strs l).length = l.length := by simp [strs]
def nameIx : List ByteArray → ByteArray → Int → Int
  | [], _, _ => -1
  | x :: r, y, k => if y = x then k else nameIx r y (k + 1)
def idxS (l : List ByteArray) (y : ByteArray) : Int := nameIx l y 0
theorem nameIx_ge : ∀ (l : List ByteArray) (y : ByteArray) (k : Int), 0 ≤ k → nameIx l y k = -1 ∨ 0 ≤ nameIx l y k
  | [], _, _, _ => .inl rfl
  | x :: r, y, k, h => by
    simp only [nameIx]
    split
    · exact .inr h
    · exact nameIx_ge r y (k + 1) (by omega)
theorem nameIx_drop (l : List ByteArray) (y : ByteArray) (z : Int) {k : Nat} (h : k < l.length) : nameIx (l.drop k) y z = if y = l.getD k ⟨#[]⟩ then z else nameIx (l.drop (k + 1)) y (z + 1) := by
  rw [List.drop_eq_getElem_cons h, List.getD_eq_getElem?_getD, List.getElem?_eq_getElem h]
  rfl

def namesL : List ByteArray := [⟨#[43]⟩, ⟨#[45]⟩, ⟨#[42]⟩, ⟨#[47]⟩, ⟨#[37]⟩, ⟨#[60]⟩, ⟨#[61]⟩, ⟨#[94]⟩, ⟨#[110, 111, 116]⟩]
theorem names_any (w : World) : Calls Try.prog 27 #[] w fun e w' => e = .returned (.slice (some ⟨w.heap.size, 0, none⟩) 9 9) ∧ w' = w.alloc (.cells (strs namesL).toArray 9) := by
  go_enter Try.func27, Try.ntmps27
  go_wp2_with fail
  go_ret
  exact ⟨rfl, rfl⟩
theorem strs_new (w : World) (l : List ByteArray) : Row (w.alloc (.cells (strs l).toArray 9)) (w.heap.size + 1) (some ⟨w.heap.size, 0, none⟩) (strs l) := fun _ =>
  ⟨w.heap.size, 0, rfl, Nat.lt_succ_self _, fun i v hv => by rw [Nat.zero_add, (Box.new w 9 (strs l).toArray).cell i, ← hv]; simp⟩
def opE (y : ByteArray) : Int := if idxS namesL y < 0 then 4 else 0
def opV (y : ByteArray) : Int := if idxS namesL y < 0 then 0 else idxS namesL y
end Go.Proofs.Ythglcnodoophaaa
