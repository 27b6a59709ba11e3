
/-
  Slices of roadstead/code.Fun: what they read as, and the library's functions over them.
-/
import Derived.Test.YtdjahlkjfpbifaaCaSl
import Derived.Laws.StructEq
namespace Go.Proofs.Ytdjahlkjfpbifaa
open Go.RowKit

def fnC (x : FnC) : List Value := [.string x.name, .int .i64 x.p, .int .i64 x.h, .int .i64 x.r, .slice x.ins.A x.ins.len x.ins.cap]
def fnV (x : FnC) : Value := .agg #[.string x.name, .int .i64 x.p, .int .i64 x.h, .int .i64 x.r, .slice x.ins.A x.ins.len x.ins.cap]
theorem fnC_len (x : FnC) : (fnC x).length = 5 := rfl
theorem fn_info : (Try.prog.info? 167).map (fun i => (i.size, i.bytes)) = some (5, 64) := by kernel_rfl
theorem fn_zero : ((Try.prog.info? 167).bind (·.zero)).map (fun z => z.cells.size) = some 5 := by kernel_rfl
theorem fn_parts : ∃ i z, Try.prog.info? 167 = some i ∧ i.zero = some z ∧ i.size = 5 ∧ i.bytes = 64 ∧ z.cells.size = 5 := by
  have h1 := fn_info
  have h2 := fn_zero
  cases hi : Try.prog.info? 167 with
  | none => rw [hi] at h1; cases h1
  | some i =>
    rw [hi] at h1 h2
    simp only [Option.map_some, Option.some.injEq, Prod.mk.injEq, Option.bind_some] at h1 h2
    cases hz : i.zero with
    | none => rw [hz] at h2; cases h2
    | some z =>
      rw [hz] at h2
      simp only [Option.map_some, Option.some.injEq] at h2
      exact ⟨i, z, rfl, hz, h1.1, h1.2, h2⟩
theorem fn_one (x : FnC) : ∀ u ∈ fnC x, u.oneCell' = true := by
  intro u hu
  simp only [fnC, List.mem_cons, List.not_mem_nil, or_false] at hu
  rcases hu with rfl | rfl | rfl | rfl | rfl <;> rfl
theorem fn_one_all (l : List (FnC)) : ∀ u ∈ flat fnC l, u.oneCell' = true := by
  intro u hu
  simp only [flat, List.mem_flatMap] at hu
  obtain ⟨x, _, hx⟩ := hu
  exact fn_one x u hx
/-- Element i's cells. -/
theorem Row.fn {w : World} {B : Nat} {A : Option Addr} {l : List (FnC)} (h : Row w B A (flat fnC l)) {i : Nat} (hi : i < l.length) (d : FnC) :
    ∃ b o, A = some ⟨b, o, none⟩ ∧ b < B
      ∧ w.cell? ⟨b, o + i * 5, none⟩ = some (.string (l.getD i d).name)
      ∧ w.cell? ⟨b, o + i * 5 + 1, none⟩ = some (.int .i64 (l.getD i d).p)
      ∧ w.cell? ⟨b, o + i * 5 + 2, none⟩ = some (.int .i64 (l.getD i d).h)
      ∧ w.cell? ⟨b, o + i * 5 + 3, none⟩ = some (.int .i64 (l.getD i d).r)
      ∧ w.cell? ⟨b, o + i * 5 + 4, none⟩ = some (.slice (l.getD i d).ins.A (l.getD i d).ins.len (l.getD i d).ins.cap)
    := by
  obtain ⟨b, o, e, hb, hc⟩ := Row.elem fnC_len (by decide) h (getD_some d hi)
  exact ⟨b, o, e, hb, hc 0 _ rfl, hc 1 _ rfl, hc 2 _ rfl, hc 3 _ rfl, hc 4 _ rfl⟩

/-- One element appended to a row of the call's own. -/
theorem wpList_push_fn {ops : Array Oper} {rest : List Oper} {o : Oper} {a : Act} {w : World} {Q : Exit → Act → World → Prop} (hgd : o.guard = none) (s x : Operand)
    (ho : o.op = .call { callee := .builtin .append, args := #[s, x], argTypes := #[56, 56] })
    (base : Nat) (v : Value) (zs : List (FnC)) (hs : a.eval s = v) (hown : w.ownsRow base 167 5 v zs.length (flat fnC zs)) (g : Nat) (y : FnC) (hx : a.eval x = .slice (some ⟨g, 0, none⟩) 1 1) (hy : ∀ j u, (fnC y)[j]? = some u → w.cell? ⟨g, j, none⟩ = some u)
    (hb : (zs.length + 1) * 64 ≤ 140737488355328) (hbase : base ≤ w.heap.size)
    (h : ∀ v' w', w'.ownsRow base 167 5 v' (zs ++ [y]).length (flat fnC (zs ++ [y])) → w.grownBy w' v.ownBlock → wpList Try.prog ops Q rest (a.put o.dst v') w') : wpList Try.prog ops Q (o :: rest) a w := by
  obtain ⟨i0, z0, hi0, hz0, hz1, hz2, hz3⟩ := fn_parts
  refine wpList_append_own _ hgd s x _ ho base 167 i0 z0 5 64 Try.underlying56 hi0 hz0 hz1 hz2 hz3 (by decide) v zs.length (flat fnC zs) hs hown ⟨g, 0, none⟩ 1 1 (fnC y) hx rfl ?_ (fn_one y) (by unfold maxLen; omega) hb hbase ?_
  · intro j u hu
    rw [addr_add, Nat.zero_add]
    exact hy j u hu
  · intro v' w' h1 h2 _
    refine h v' w' ?_ h2
    rw [List.length_append, flat_append, flat_one]
    exact h1
end Go.Proofs.Ytdjahlkjfpbifaa
