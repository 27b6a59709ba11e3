/-
  Slices of [2]int: what they read as, and the library's functions over them.
-/
import Derived.Test.YtaecgapoaagjfaaSteal11
import Derived.Laws.StructEq
namespace Go.Proofs.Ytaecgapoaagjfaa
open Go.RowKit

def prC (x : (Int × Int)) : List Value := [.int .i64 x.1, .int .i64 x.2]
def prV (x : (Int × Int)) : Value := .agg #[.int .i64 x.1, .int .i64 x.2]
theorem prC_len (x : (Int × Int)) : (prC x).length = 2 := rfl
theorem pr_info : (Try.prog.info? 247).map (fun i => (i.size, i.bytes)) = some (2, 16) := by kernel_rfl
theorem pr_zero : ((Try.prog.info? 247).bind (·.zero)).map (fun z => z.cells.size) = some 2 := by kernel_rfl
theorem pr_parts : ∃ i z, Try.prog.info? 247 = some i ∧ i.zero = some z ∧ i.size = 2 ∧ i.bytes = 16 ∧ z.cells.size = 2 := by
  have h1 := pr_info
  have h2 := pr_zero
  cases hi : Try.prog.info? 247 with
  | none => rw [hi] at h1; cases h1
  | some i =>
    rw [hi] at h1 h2
    simp only [Option.map_some, Option.some.injEq, Prod.mk.injEq, Option.bind_some] at h1 h2
    cases hz : i.zero with
    | none => rw [hz] at h2; cases h2
    | some z =>
      rw [hz] at h2
      simp only [Option.map_some, Option.some.injEq] at h2
      exact ⟨i, z, rfl, hz, h1.1, h1.2, h2⟩
theorem pr_one (x : (Int × Int)) : ∀ u ∈ prC x, u.oneCell' = true := by
  intro u hu
  simp only [prC, List.mem_cons, List.not_mem_nil, or_false] at hu
  rcases hu with rfl | rfl <;> rfl
theorem pr_one_all (l : List ((Int × Int))) : ∀ u ∈ flat prC l, u.oneCell' = true := by
  intro u hu
  simp only [flat, List.mem_flatMap] at hu
  obtain ⟨x, _, hx⟩ := hu
  exact pr_one x u hx
/-- Element i's cells. -/
theorem Row.pr {w : World} {B : Nat} {A : Option Addr} {l : List ((Int × Int))} (h : Row w B A (flat prC l)) {i : Nat} (hi : i < l.length) (d : (Int × Int)) :
    ∃ b o, A = some ⟨b, o, none⟩ ∧ b < B
      ∧ w.cell? ⟨b, o + i * 2, none⟩ = some (.int .i64 (l.getD i d).1)
      ∧ w.cell? ⟨b, o + i * 2 + 1, none⟩ = some (.int .i64 (l.getD i d).2)
    := by
  obtain ⟨b, o, e, hb, hc⟩ := Row.elem prC_len (by decide) h (getD_some d hi)
  exact ⟨b, o, e, hb, hc 0 _ rfl, hc 1 _ rfl⟩

/-- One element appended to a row of the call's own. -/
theorem wpList_push_pr {ops : Array Oper} {rest : List Oper} {o : Oper} {a : Act} {w : World} {Q : Exit → Act → World → Prop} (hgd : o.guard = none) (s x : Operand)
    (ho : o.op = .call { callee := .builtin .append, args := #[s, x], argTypes := #[241, 241] })
    (base : Nat) (v : Value) (zs : List ((Int × Int))) (hs : a.eval s = v) (hown : w.ownsRow base 247 2 v zs.length (flat prC zs)) (g : Nat) (y : (Int × Int)) (hx : a.eval x = .slice (some ⟨g, 0, none⟩) 1 1) (hy : ∀ j u, (prC y)[j]? = some u → w.cell? ⟨g, j, none⟩ = some u)
    (hb : (zs.length + 1) * 16 ≤ 140737488355328) (hbase : base ≤ w.heap.size)
    (h : ∀ v' w', w'.ownsRow base 247 2 v' (zs ++ [y]).length (flat prC (zs ++ [y])) → w.grownBy w' v.ownBlock → wpList Try.prog ops Q rest (a.put o.dst v') w') : wpList Try.prog ops Q (o :: rest) a w := by
  obtain ⟨i0, z0, hi0, hz0, hz1, hz2, hz3⟩ := pr_parts
  refine wpList_append_own _ hgd s x _ ho base 247 i0 z0 2 16 Try.underlying241 hi0 hz0 hz1 hz2 hz3 (by decide) v zs.length (flat prC zs) hs hown ⟨g, 0, none⟩ 1 1 (prC y) hx rfl ?_ (pr_one y) (by unfold maxLen; omega) hb hbase ?_
  · intro j u hu
    rw [addr_add, Nat.zero_add]
    exact hy j u hu
  · intro v' w' h1 h2 _
    refine h v' w' ?_ h2
    rw [List.length_append, flat_append, flat_one]
    exact h1
end Go.Proofs.Ytaecgapoaagjfaa
