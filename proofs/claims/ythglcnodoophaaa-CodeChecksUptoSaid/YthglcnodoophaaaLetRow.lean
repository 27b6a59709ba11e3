
/-
  Slices of roadstead/api.Letter: what they read as, and the library's functions over them.
-/
import Derived.Test.YthglcnodoophaaaValRow
import Derived.Laws.StructEq
namespace Go.Proofs.Ythglcnodoophaaa
open Go.RowKit

def letterC (x : LC) : List Value := [.int .i64 x.kind, .int .i64 x.frm, .int .i64 x.to, .int .i64 x.num, .string x.text, .int .i64 x.v.kind, .int .i64 x.v.num, .string x.v.text, .slice x.v.A x.v.len x.v.cap]
def letterV (x : LC) : Value := .agg #[.int .i64 x.kind, .int .i64 x.frm, .int .i64 x.to, .int .i64 x.num, .string x.text, .int .i64 x.v.kind, .int .i64 x.v.num, .string x.v.text, .slice x.v.A x.v.len x.v.cap]
theorem letterC_len (x : LC) : (letterC x).length = 9 := rfl
theorem letter_one (x : LC) : ∀ u ∈ letterC x, u.oneCell' = true := by
  intro u hu
  simp only [letterC, List.mem_cons, List.not_mem_nil, or_false] at hu
  rcases hu with rfl | rfl | rfl | rfl | rfl | rfl | rfl | rfl | rfl <;> rfl
theorem letter_one_all (l : List (LC)) : ∀ u ∈ flat letterC l, u.oneCell' = true := by
  intro u hu
  simp only [flat, List.mem_flatMap] at hu
  obtain ⟨x, _, hx⟩ := hu
  exact letter_one x u hx
/-- Element i's cells. -/
theorem Row.letter {w : World} {B : Nat} {A : Option Addr} {l : List (LC)} (h : Row w B A (flat letterC l)) {i : Nat} (hi : i < l.length) (d : LC) :
    ∃ b o, A = some ⟨b, o, none⟩ ∧ b < B
      ∧ w.cell? ⟨b, o + i * 9, none⟩ = some (.int .i64 (l.getD i d).kind)
      ∧ w.cell? ⟨b, o + i * 9 + 1, none⟩ = some (.int .i64 (l.getD i d).frm)
      ∧ w.cell? ⟨b, o + i * 9 + 2, none⟩ = some (.int .i64 (l.getD i d).to)
      ∧ w.cell? ⟨b, o + i * 9 + 3, none⟩ = some (.int .i64 (l.getD i d).num)
      ∧ w.cell? ⟨b, o + i * 9 + 4, none⟩ = some (.string (l.getD i d).text)
      ∧ w.cell? ⟨b, o + i * 9 + 5, none⟩ = some (.int .i64 (l.getD i d).v.kind)
      ∧ w.cell? ⟨b, o + i * 9 + 6, none⟩ = some (.int .i64 (l.getD i d).v.num)
      ∧ w.cell? ⟨b, o + i * 9 + 7, none⟩ = some (.string (l.getD i d).v.text)
      ∧ w.cell? ⟨b, o + i * 9 + 8, none⟩ = some (.slice (l.getD i d).v.A (l.getD i d).v.len (l.getD i d).v.cap)
    := by
  obtain ⟨b, o, e, hb, hc⟩ := Row.elem letterC_len (by decide) h (getD_some d hi)
  exact ⟨b, o, e, hb, hc 0 _ rfl, hc 1 _ rfl, hc 2 _ rfl, hc 3 _ rfl, hc 4 _ rfl, hc 5 _ rfl, hc 6 _ rfl, hc 7 _ rfl, hc 8 _ rfl⟩

end Go.Proofs.Ythglcnodoophaaa
