/-
  Slices of x: what they read as, and the library's functions over them.
-/
import Derived.Test.YtaecgapoaagjfaaBodyMk
import Derived.Laws.StructEq
namespace Go.Proofs.Ytaecgapoaagjfaa
open Go.RowKit

def pendC (x : PC) : List Value := [.slice x.b.A x.b.len x.b.cap, .bool x.sent]
def pendV (x : PC) : Value := .agg #[.slice x.b.A x.b.len x.b.cap, .bool x.sent]
theorem pendC_len (x : PC) : (pendC x).length = 2 := rfl
theorem pend_info : (Try.prog.info? 279).map (fun i => (i.size, i.bytes)) = some (2, 32) := by kernel_rfl
theorem pend_zero : ((Try.prog.info? 279).bind (·.zero)).map (fun z => z.cells.size) = some 2 := by kernel_rfl
theorem pend_parts : ∃ i z, Try.prog.info? 279 = some i ∧ i.zero = some z ∧ i.size = 2 ∧ i.bytes = 32 ∧ z.cells.size = 2 := by
  have h1 := pend_info
  have h2 := pend_zero
  cases hi : Try.prog.info? 279 with
  | none => rw [hi] at h1; cases h1
  | some i =>
    rw [hi] at h1 h2
    simp only [Option.map_some, Option.some.injEq, Prod.mk.injEq, Option.bind_some] at h1 h2
    cases hz : i.zero with
    | none => rw [hz] at h2; cases h2
    | some z =>
      rw [hz] at h2
      simp only [Option.map_some, Option.some.injEq] at h2
      exact ⟨i, z, rfl, hz, h1.1, h1.2, h2⟩
theorem pend_one (x : PC) : ∀ u ∈ pendC x, u.oneCell' = true := by
  intro u hu
  simp only [pendC, List.mem_cons, List.not_mem_nil, or_false] at hu
  rcases hu with rfl | rfl <;> rfl
theorem pend_one_all (l : List (PC)) : ∀ u ∈ flat pendC l, u.oneCell' = true := by
  intro u hu
  simp only [flat, List.mem_flatMap] at hu
  obtain ⟨x, _, hx⟩ := hu
  exact pend_one x u hx
/-- Element i's cells. -/
theorem Row.pend {w : World} {B : Nat} {A : Option Addr} {l : List (PC)} (h : Row w B A (flat pendC l)) {i : Nat} (hi : i < l.length) (d : PC) :
    ∃ b o, A = some ⟨b, o, none⟩ ∧ b < B
      ∧ w.cell? ⟨b, o + i * 2, none⟩ = some (.slice (l.getD i d).b.A (l.getD i d).b.len (l.getD i d).b.cap)
      ∧ w.cell? ⟨b, o + i * 2 + 1, none⟩ = some (.bool (l.getD i d).sent)
    := by
  obtain ⟨b, o, e, hb, hc⟩ := Row.elem pendC_len (by decide) h (getD_some d hi)
  exact ⟨b, o, e, hb, hc 0 _ rfl, hc 1 _ rfl⟩
end Go.Proofs.Ytaecgapoaagjfaa
