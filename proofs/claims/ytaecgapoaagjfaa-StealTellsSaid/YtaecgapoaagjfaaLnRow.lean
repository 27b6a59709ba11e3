/-
  Slices of x: what they read as, and the library's functions over them.
-/
import Derived.Test.YtaecgapoaagjfaaStealDef
import Derived.Laws.StructEq
namespace Go.Proofs.Ytaecgapoaagjfaa
open Go.RowKit

def lnC (x : BC) : List Value := [.slice x.A x.len x.cap]
def lnV (x : BC) : Value := .agg #[.slice x.A x.len x.cap]
theorem lnC_len (x : BC) : (lnC x).length = 1 := rfl
theorem ln_info : (Try.prog.info? 64).map (fun i => (i.size, i.bytes)) = some (1, 24) := by kernel_rfl
theorem ln_zero : ((Try.prog.info? 64).bind (·.zero)).map (fun z => z.cells.size) = some 1 := by kernel_rfl
theorem ln_parts : ∃ i z, Try.prog.info? 64 = some i ∧ i.zero = some z ∧ i.size = 1 ∧ i.bytes = 24 ∧ z.cells.size = 1 := by
  have h1 := ln_info
  have h2 := ln_zero
  cases hi : Try.prog.info? 64 with
  | none => rw [hi] at h1; cases h1
  | some i =>
    rw [hi] at h1 h2
    simp only [Option.map_some, Option.some.injEq, Prod.mk.injEq, Option.bind_some] at h1 h2
    cases hz : i.zero with
    | none => rw [hz] at h2; cases h2
    | some z =>
      rw [hz] at h2
      simp only [Option.map_some, Option.some.injEq] at h2
      exact ⟨i, z, rfl, hz, h1.1, h1.2, h2⟩
theorem ln_one (x : BC) : ∀ u ∈ lnC x, u.oneCell' = true := by
  intro u hu
  simp only [lnC, List.mem_cons, List.not_mem_nil, or_false] at hu
  rcases hu with rfl <;> rfl
theorem ln_one_all (l : List (BC)) : ∀ u ∈ flat lnC l, u.oneCell' = true := by
  intro u hu
  simp only [flat, List.mem_flatMap] at hu
  obtain ⟨x, _, hx⟩ := hu
  exact ln_one x u hx
/-- Element i's cells. -/
theorem Row.ln {w : World} {B : Nat} {A : Option Addr} {l : List (BC)} (h : Row w B A (flat lnC l)) {i : Nat} (hi : i < l.length) (d : BC) :
    ∃ b o, A = some ⟨b, o, none⟩ ∧ b < B
      ∧ w.cell? ⟨b, o + i * 1, none⟩ = some (.slice (l.getD i d).A (l.getD i d).len (l.getD i d).cap)
    := by
  obtain ⟨b, o, e, hb, hc⟩ := Row.elem lnC_len (by decide) h (getD_some d hi)
  exact ⟨b, o, e, hb, hc 0 _ rfl⟩
end Go.Proofs.Ytaecgapoaagjfaa
