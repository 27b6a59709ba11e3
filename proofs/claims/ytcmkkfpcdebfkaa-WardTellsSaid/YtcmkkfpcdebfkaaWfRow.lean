/-
  Slices of roadstead/ward.Fall: what they read as, and the library's functions over them.
-/
import Derived.Test.YtcmkkfpcdebfkaaQueue
import Derived.Laws.StructEq
namespace Go.Proofs.Ytcmkkfpcdebfkaa
open Go.RowKit

def wfC (x : (Int × Bool × Int)) : List Value := [.int .i64 x.1, .bool x.2.1, .int .i64 x.2.2]
def wfV (x : (Int × Bool × Int)) : Value := .agg #[.int .i64 x.1, .bool x.2.1, .int .i64 x.2.2]
theorem wfC_len (x : (Int × Bool × Int)) : (wfC x).length = 3 := rfl
theorem wf_info : (Try.prog.info? 233).map (fun i => (i.size, i.bytes)) = some (3, 24) := by kernel_rfl
theorem wf_zero : ((Try.prog.info? 233).bind (·.zero)).map (fun z => z.cells.size) = some 3 := by kernel_rfl
theorem wf_parts : ∃ i z, Try.prog.info? 233 = some i ∧ i.zero = some z ∧ i.size = 3 ∧ i.bytes = 24 ∧ z.cells.size = 3 := by
  have h1 := wf_info
  have h2 := wf_zero
  cases hi : Try.prog.info? 233 with
  | none => rw [hi] at h1; cases h1
  | some i =>
    rw [hi] at h1 h2
    simp only [Option.map_some, Option.some.injEq, Prod.mk.injEq, Option.bind_some] at h1 h2
    cases hz : i.zero with
    | none => rw [hz] at h2; cases h2
    | some z =>
      rw [hz] at h2
      simp only [Option.map_some, Option.some.injEq] at h2
      exact ⟨i, z, rfl, hz, h1.1, h1.2, h2⟩
theorem wf_one (x : (Int × Bool × Int)) : ∀ u ∈ wfC x, u.oneCell' = true := by
  intro u hu
  simp only [wfC, List.mem_cons, List.not_mem_nil, or_false] at hu
  rcases hu with rfl | rfl | rfl <;> rfl
theorem wf_one_all (l : List ((Int × Bool × Int))) : ∀ u ∈ flat wfC l, u.oneCell' = true := by
  intro u hu
  simp only [flat, List.mem_flatMap] at hu
  obtain ⟨x, _, hx⟩ := hu
  exact wf_one x u hx
/-- Element i's cells. -/
theorem Row.wf {w : World} {B : Nat} {A : Option Addr} {l : List ((Int × Bool × Int))} (h : Row w B A (flat wfC l)) {i : Nat} (hi : i < l.length) (d : (Int × Bool × Int)) :
    ∃ b o, A = some ⟨b, o, none⟩ ∧ b < B
      ∧ w.cell? ⟨b, o + i * 3, none⟩ = some (.int .i64 (l.getD i d).1)
      ∧ w.cell? ⟨b, o + i * 3 + 1, none⟩ = some (.bool (l.getD i d).2.1)
      ∧ w.cell? ⟨b, o + i * 3 + 2, none⟩ = some (.int .i64 (l.getD i d).2.2)
    := by
  obtain ⟨b, o, e, hb, hc⟩ := Row.elem wfC_len (by decide) h (getD_some d hi)
  exact ⟨b, o, e, hb, hc 0 _ rfl, hc 1 _ rfl, hc 2 _ rfl⟩
end Go.Proofs.Ytcmkkfpcdebfkaa
