/-
  Slices of roadstead/explore.Do: what they read as, and the library's functions over them.
-/
import Derived.Test.YtcmkkfpcdebfkaaQueue
import Derived.Laws.StructEq
namespace Go.Proofs.Ytcmkkfpcdebfkaa
open Go.RowKit

def xdC (x : (Int × Int × Int)) : List Value := [.int .i64 x.1, .int .i64 x.2.1, .int .i64 x.2.2]
def xdV (x : (Int × Int × Int)) : Value := .agg #[.int .i64 x.1, .int .i64 x.2.1, .int .i64 x.2.2]
theorem xdC_len (x : (Int × Int × Int)) : (xdC x).length = 3 := rfl
theorem xd_info : (Try.prog.info? 40).map (fun i => (i.size, i.bytes)) = some (3, 24) := by kernel_rfl
theorem xd_zero : ((Try.prog.info? 40).bind (·.zero)).map (fun z => z.cells.size) = some 3 := by kernel_rfl
theorem xd_parts : ∃ i z, Try.prog.info? 40 = some i ∧ i.zero = some z ∧ i.size = 3 ∧ i.bytes = 24 ∧ z.cells.size = 3 := by
  have h1 := xd_info
  have h2 := xd_zero
  cases hi : Try.prog.info? 40 with
  | none => rw [hi] at h1; cases h1
  | some i =>
    rw [hi] at h1 h2
    simp only [Option.map_some, Option.some.injEq, Prod.mk.injEq, Option.bind_some] at h1 h2
    cases hz : i.zero with
    | none => rw [hz] at h2; cases h2
    | some z =>
      rw [hz] at h2
      simp only [Option.map_some, Option.some.injEq] at h2
      exact ⟨i, z, rfl, hz, h1.1, h1.2, h2⟩
theorem xd_one (x : (Int × Int × Int)) : ∀ u ∈ xdC x, u.oneCell' = true := by
  intro u hu
  simp only [xdC, List.mem_cons, List.not_mem_nil, or_false] at hu
  rcases hu with rfl | rfl | rfl <;> rfl
theorem xd_one_all (l : List ((Int × Int × Int))) : ∀ u ∈ flat xdC l, u.oneCell' = true := by
  intro u hu
  simp only [flat, List.mem_flatMap] at hu
  obtain ⟨x, _, hx⟩ := hu
  exact xd_one x u hx
/-- Element i's cells. -/
theorem Row.xd {w : World} {B : Nat} {A : Option Addr} {l : List ((Int × Int × Int))} (h : Row w B A (flat xdC l)) {i : Nat} (hi : i < l.length) (d : (Int × Int × Int)) :
    ∃ b o, A = some ⟨b, o, none⟩ ∧ b < B
      ∧ w.cell? ⟨b, o + i * 3, none⟩ = some (.int .i64 (l.getD i d).1)
      ∧ w.cell? ⟨b, o + i * 3 + 1, none⟩ = some (.int .i64 (l.getD i d).2.1)
      ∧ w.cell? ⟨b, o + i * 3 + 2, none⟩ = some (.int .i64 (l.getD i d).2.2)
    := by
  obtain ⟨b, o, e, hb, hc⟩ := Row.elem xdC_len (by decide) h (getD_some d hi)
  exact ⟨b, o, e, hb, hc 0 _ rfl, hc 1 _ rfl, hc 2 _ rfl⟩

/-- One element appended to a row of the call's own. -/
theorem wpList_push_xd {ops : Array Oper} {rest : List Oper} {o : Oper} {a : Act} {w : World} {Q : Exit → Act → World → Prop} (hgd : o.guard = none) (s x : Operand)
    (ho : o.op = .call { callee := .builtin .append, args := #[s, x], argTypes := #[41, 41] })
    (base : Nat) (v : Value) (zs : List ((Int × Int × Int))) (hs : a.eval s = v) (hown : w.ownsRow base 40 3 v zs.length (flat xdC zs)) (g : Nat) (y : (Int × Int × Int)) (hx : a.eval x = .slice (some ⟨g, 0, none⟩) 1 1) (hy : ∀ j u, (xdC y)[j]? = some u → w.cell? ⟨g, j, none⟩ = some u)
    (hb : (zs.length + 1) * 24 ≤ 140737488355328) (hbase : base ≤ w.heap.size)
    (h : ∀ v' w', w'.ownsRow base 40 3 v' (zs ++ [y]).length (flat xdC (zs ++ [y])) → w.grownBy w' v.ownBlock → wpList Try.prog ops Q rest (a.put o.dst v') w') : wpList Try.prog ops Q (o :: rest) a w := by
  obtain ⟨i0, z0, hi0, hz0, hz1, hz2, hz3⟩ := xd_parts
  refine wpList_append_own _ hgd s x _ ho base 40 i0 z0 3 24 Try.underlying41 hi0 hz0 hz1 hz2 hz3 (by decide) v zs.length (flat xdC zs) hs hown ⟨g, 0, none⟩ 1 1 (xdC y) hx rfl ?_ (xd_one y) (by unfold maxLen; omega) hb hbase ?_
  · intro j u hu
    rw [addr_add, Nat.zero_add]
    exact hy j u hu
  · intro v' w' h1 h2 _
    refine h v' w' ?_ h2
    rw [List.length_append, flat_append, flat_one]
    exact h1
end Go.Proofs.Ytcmkkfpcdebfkaa
