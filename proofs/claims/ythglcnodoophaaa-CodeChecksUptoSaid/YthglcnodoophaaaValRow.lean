
/-
  Slices of roadstead/api.Value: what they read as, and the library's functions over them.
-/
import Derived.Test.YthglcnodoophaaaValDef
import Derived.Laws.StructEq
namespace Go.Proofs.Ythglcnodoophaaa
open Go.RowKit

def valC (x : VC) : List Value := [.int .i64 x.kind, .int .i64 x.num, .string x.text, .slice x.A x.len x.cap]
def valV (x : VC) : Value := .agg #[.int .i64 x.kind, .int .i64 x.num, .string x.text, .slice x.A x.len x.cap]
theorem valC_len (x : VC) : (valC x).length = 4 := rfl
theorem val_one (x : VC) : ∀ u ∈ valC x, u.oneCell' = true := by
  intro u hu
  simp only [valC, List.mem_cons, List.not_mem_nil, or_false] at hu
  rcases hu with rfl | rfl | rfl | rfl <;> rfl
theorem val_one_all (l : List (VC)) : ∀ u ∈ flat valC l, u.oneCell' = true := by
  intro u hu
  simp only [flat, List.mem_flatMap] at hu
  obtain ⟨x, _, hx⟩ := hu
  exact val_one x u hx
/-- Element i's cells. -/
theorem Row.val {w : World} {B : Nat} {A : Option Addr} {l : List (VC)} (h : Row w B A (flat valC l)) {i : Nat} (hi : i < l.length) (d : VC) :
    ∃ b o, A = some ⟨b, o, none⟩ ∧ b < B
      ∧ w.cell? ⟨b, o + i * 4, none⟩ = some (.int .i64 (l.getD i d).kind)
      ∧ w.cell? ⟨b, o + i * 4 + 1, none⟩ = some (.int .i64 (l.getD i d).num)
      ∧ w.cell? ⟨b, o + i * 4 + 2, none⟩ = some (.string (l.getD i d).text)
      ∧ w.cell? ⟨b, o + i * 4 + 3, none⟩ = some (.slice (l.getD i d).A (l.getD i d).len (l.getD i d).cap)
    := by
  obtain ⟨b, o, e, hb, hc⟩ := Row.elem valC_len (by decide) h (getD_some d hi)
  exact ⟨b, o, e, hb, hc 0 _ rfl, hc 1 _ rfl, hc 2 _ rfl, hc 3 _ rfl⟩

end Go.Proofs.Ythglcnodoophaaa
