
/-
  Slices of roadstead/api.Pat: what they read as, and the library's functions over them.
-/
import Derived.Test.YthglcnodoophaaaPaDef
import Derived.Laws.StructEq
namespace Go.Proofs.Ythglcnodoophaaa
open Go.RowKit

def paC (x : PaC) : List Value := [.int .i64 x.kind, .int .i64 x.num, .string x.text, .slice x.A x.len x.cap]
def paV (x : PaC) : Value := .agg #[.int .i64 x.kind, .int .i64 x.num, .string x.text, .slice x.A x.len x.cap]
theorem paC_len (x : PaC) : (paC x).length = 4 := rfl
theorem pa_info : (Try.prog.info? 41).map (fun i => (i.size, i.bytes)) = some (4, 56) := by kernel_rfl
theorem pa_zero : ((Try.prog.info? 41).bind (·.zero)).map (fun z => z.cells.size) = some 4 := by kernel_rfl
theorem pa_parts : ∃ i z, Try.prog.info? 41 = some i ∧ i.zero = some z ∧ i.size = 4 ∧ i.bytes = 56 ∧ z.cells.size = 4 := by
  have h1 := pa_info
  have h2 := pa_zero
  cases hi : Try.prog.info? 41 with
  | none => rw [hi] at h1; cases h1
  | some i =>
    rw [hi] at h1 h2
    simp only [Option.map_some, Option.some.injEq, Prod.mk.injEq, Option.bind_some] at h1 h2
    cases hz : i.zero with
    | none => rw [hz] at h2; cases h2
    | some z =>
      rw [hz] at h2
      simp only [Option.map_some, Option.some.injEq] at h2
      exact ⟨i, z, rfl, hz, h1.1, h1.2, h2⟩
theorem pa_one (x : PaC) : ∀ u ∈ paC x, u.oneCell' = true := by
  intro u hu
  simp only [paC, List.mem_cons, List.not_mem_nil, or_false] at hu
  rcases hu with rfl | rfl | rfl | rfl <;> rfl
theorem pa_one_all (l : List (PaC)) : ∀ u ∈ flat paC l, u.oneCell' = true := by
  intro u hu
  simp only [flat, List.mem_flatMap] at hu
  obtain ⟨x, _, hx⟩ := hu
  exact pa_one x u hx
/-- Element i's cells. -/
theorem Row.pa {w : World} {B : Nat} {A : Option Addr} {l : List (PaC)} (h : Row w B A (flat paC l)) {i : Nat} (hi : i < l.length) (d : PaC) :
    ∃ b o, A = some ⟨b, o, none⟩ ∧ b < B
      ∧ w.cell? ⟨b, o + i * 4, none⟩ = some (.int .i64 (l.getD i d).kind)
      ∧ w.cell? ⟨b, o + i * 4 + 1, none⟩ = some (.int .i64 (l.getD i d).num)
      ∧ w.cell? ⟨b, o + i * 4 + 2, none⟩ = some (.string (l.getD i d).text)
      ∧ w.cell? ⟨b, o + i * 4 + 3, none⟩ = some (.slice (l.getD i d).A (l.getD i d).len (l.getD i d).cap)
    := by
  obtain ⟨b, o, e, hb, hc⟩ := Row.elem paC_len (by decide) h (getD_some d hi)
  exact ⟨b, o, e, hb, hc 0 _ rfl, hc 1 _ rfl, hc 2 _ rfl, hc 3 _ rfl⟩

/-- One element appended to a row of the call's own. -/
theorem wpList_push_pa {ops : Array Oper} {rest : List Oper} {o : Oper} {a : Act} {w : World} {Q : Exit → Act → World → Prop} (hgd : o.guard = none) (s x : Operand)
    (ho : o.op = .call { callee := .builtin .append, args := #[s, x], argTypes := #[39, 39] })
    (base : Nat) (v : Value) (zs : List (PaC)) (hs : a.eval s = v) (hown : w.ownsRow base 41 4 v zs.length (flat paC zs)) (g : Nat) (y : PaC) (hx : a.eval x = .slice (some ⟨g, 0, none⟩) 1 1) (hy : ∀ j u, (paC y)[j]? = some u → w.cell? ⟨g, j, none⟩ = some u)
    (hb : (zs.length + 1) * 56 ≤ 140737488355328) (hbase : base ≤ w.heap.size)
    (h : ∀ v' w', w'.ownsRow base 41 4 v' (zs ++ [y]).length (flat paC (zs ++ [y])) → w.grownBy w' v.ownBlock → wpList Try.prog ops Q rest (a.put o.dst v') w') : wpList Try.prog ops Q (o :: rest) a w := by
  obtain ⟨i0, z0, hi0, hz0, hz1, hz2, hz3⟩ := pa_parts
  refine wpList_append_own _ hgd s x _ ho base 41 i0 z0 4 56 Try.underlying39 hi0 hz0 hz1 hz2 hz3 (by decide) v zs.length (flat paC zs) hs hown ⟨g, 0, none⟩ 1 1 (paC y) hx rfl ?_ (pa_one y) (by unfold maxLen; omega) hb hbase ?_
  · intro j u hu
    rw [addr_add, Nat.zero_add]
    exact hy j u hu
  · intro v' w' h1 h2 _
    refine h v' w' ?_ h2
    rw [List.length_append, flat_append, flat_one]
    exact h1
end Go.Proofs.Ythglcnodoophaaa
