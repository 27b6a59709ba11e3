/-
  Slices of x: what they read as, and the library's functions over them.
-/
import Derived.Test.YtaecgapoaagjfaaPendMk
import Derived.Laws.StructEq
namespace Go.Proofs.Ytaecgapoaagjfaa
open Go.RowKit

def lpkC (x : KC) : List Value := [.int .u32 x.seq, .int .u32 x.ack, .bool x.has, .int .i64 x.window, .slice x.b.A x.b.len x.b.cap]
def lpkV (x : KC) : Value := .agg #[.int .u32 x.seq, .int .u32 x.ack, .bool x.has, .int .i64 x.window, .slice x.b.A x.b.len x.b.cap]
theorem lpkC_len (x : KC) : (lpkC x).length = 5 := rfl
theorem lpk_info : (Try.prog.info? 85).map (fun i => (i.size, i.bytes)) = some (5, 48) := by kernel_rfl
theorem lpk_zero : ((Try.prog.info? 85).bind (·.zero)).map (fun z => z.cells.size) = some 5 := by kernel_rfl
theorem lpk_parts : ∃ i z, Try.prog.info? 85 = some i ∧ i.zero = some z ∧ i.size = 5 ∧ i.bytes = 48 ∧ z.cells.size = 5 := by
  have h1 := lpk_info
  have h2 := lpk_zero
  cases hi : Try.prog.info? 85 with
  | none => rw [hi] at h1; cases h1
  | some i =>
    rw [hi] at h1 h2
    simp only [Option.map_some, Option.some.injEq, Prod.mk.injEq, Option.bind_some] at h1 h2
    cases hz : i.zero with
    | none => rw [hz] at h2; cases h2
    | some z =>
      rw [hz] at h2
      simp only [Option.map_some, Option.some.injEq] at h2
      exact ⟨i, z, rfl, hz, h1.1, h1.2, h2⟩
theorem lpk_one (x : KC) : ∀ u ∈ lpkC x, u.oneCell' = true := by
  intro u hu
  simp only [lpkC, List.mem_cons, List.not_mem_nil, or_false] at hu
  rcases hu with rfl | rfl | rfl | rfl | rfl <;> rfl
theorem lpk_one_all (l : List (KC)) : ∀ u ∈ flat lpkC l, u.oneCell' = true := by
  intro u hu
  simp only [flat, List.mem_flatMap] at hu
  obtain ⟨x, _, hx⟩ := hu
  exact lpk_one x u hx
/-- Element i's cells. -/
theorem Row.lpk {w : World} {B : Nat} {A : Option Addr} {l : List (KC)} (h : Row w B A (flat lpkC l)) {i : Nat} (hi : i < l.length) (d : KC) :
    ∃ b o, A = some ⟨b, o, none⟩ ∧ b < B
      ∧ w.cell? ⟨b, o + i * 5, none⟩ = some (.int .u32 (l.getD i d).seq)
      ∧ w.cell? ⟨b, o + i * 5 + 1, none⟩ = some (.int .u32 (l.getD i d).ack)
      ∧ w.cell? ⟨b, o + i * 5 + 2, none⟩ = some (.bool (l.getD i d).has)
      ∧ w.cell? ⟨b, o + i * 5 + 3, none⟩ = some (.int .i64 (l.getD i d).window)
      ∧ w.cell? ⟨b, o + i * 5 + 4, none⟩ = some (.slice (l.getD i d).b.A (l.getD i d).b.len (l.getD i d).b.cap)
    := by
  obtain ⟨b, o, e, hb, hc⟩ := Row.elem lpkC_len (by decide) h (getD_some d hi)
  exact ⟨b, o, e, hb, hc 0 _ rfl, hc 1 _ rfl, hc 2 _ rfl, hc 3 _ rfl, hc 4 _ rfl⟩
end Go.Proofs.Ytaecgapoaagjfaa
