
/-
  Slices of roadstead/code.Ins: what they read as, and the library's functions over them.
-/
import Derived.Test.YtdjahlkjfpbifaaCaSl
import Derived.Laws.StructEq
namespace Go.Proofs.Ytdjahlkjfpbifaa
open Go.RowKit

def icC (x : IcC) : List Value := [.int .i64 x.o, .int .i64 x.a, .int .i64 x.b, .int .i64 x.c, .slice x.args.A x.args.len x.args.cap]
def icV (x : IcC) : Value := .agg #[.int .i64 x.o, .int .i64 x.a, .int .i64 x.b, .int .i64 x.c, .slice x.args.A x.args.len x.args.cap]
theorem icC_len (x : IcC) : (icC x).length = 5 := rfl
theorem ic_info : (Try.prog.info? 169).map (fun i => (i.size, i.bytes)) = some (5, 56) := by kernel_rfl
theorem ic_zero : ((Try.prog.info? 169).bind (·.zero)).map (fun z => z.cells.size) = some 5 := by kernel_rfl
theorem ic_parts : ∃ i z, Try.prog.info? 169 = some i ∧ i.zero = some z ∧ i.size = 5 ∧ i.bytes = 56 ∧ z.cells.size = 5 := by
  have h1 := ic_info
  have h2 := ic_zero
  cases hi : Try.prog.info? 169 with
  | none => rw [hi] at h1; cases h1
  | some i =>
    rw [hi] at h1 h2
    simp only [Option.map_some, Option.some.injEq, Prod.mk.injEq, Option.bind_some] at h1 h2
    cases hz : i.zero with
    | none => rw [hz] at h2; cases h2
    | some z =>
      rw [hz] at h2
      simp only [Option.map_some, Option.some.injEq] at h2
      exact ⟨i, z, rfl, hz, h1.1, h1.2, h2⟩
theorem ic_one (x : IcC) : ∀ u ∈ icC x, u.oneCell' = true := by
  intro u hu
  simp only [icC, List.mem_cons, List.not_mem_nil, or_false] at hu
  rcases hu with rfl | rfl | rfl | rfl | rfl <;> rfl
theorem ic_one_all (l : List (IcC)) : ∀ u ∈ flat icC l, u.oneCell' = true := by
  intro u hu
  simp only [flat, List.mem_flatMap] at hu
  obtain ⟨x, _, hx⟩ := hu
  exact ic_one x u hx
/-- Element i's cells. -/
theorem Row.ic {w : World} {B : Nat} {A : Option Addr} {l : List (IcC)} (h : Row w B A (flat icC l)) {i : Nat} (hi : i < l.length) (d : IcC) :
    ∃ b o, A = some ⟨b, o, none⟩ ∧ b < B
      ∧ w.cell? ⟨b, o + i * 5, none⟩ = some (.int .i64 (l.getD i d).o)
      ∧ w.cell? ⟨b, o + i * 5 + 1, none⟩ = some (.int .i64 (l.getD i d).a)
      ∧ w.cell? ⟨b, o + i * 5 + 2, none⟩ = some (.int .i64 (l.getD i d).b)
      ∧ w.cell? ⟨b, o + i * 5 + 3, none⟩ = some (.int .i64 (l.getD i d).c)
      ∧ w.cell? ⟨b, o + i * 5 + 4, none⟩ = some (.slice (l.getD i d).args.A (l.getD i d).args.len (l.getD i d).args.cap)
    := by
  obtain ⟨b, o, e, hb, hc⟩ := Row.elem icC_len (by decide) h (getD_some d hi)
  exact ⟨b, o, e, hb, hc 0 _ rfl, hc 1 _ rfl, hc 2 _ rfl, hc 3 _ rfl, hc 4 _ rfl⟩

/-- One element appended to a row of the call's own. -/
theorem wpList_push_ic {ops : Array Oper} {rest : List Oper} {o : Oper} {a : Act} {w : World} {Q : Exit → Act → World → Prop} (hgd : o.guard = none) (s x : Operand)
    (ho : o.op = .call { callee := .builtin .append, args := #[s, x], argTypes := #[165, 165] })
    (base : Nat) (v : Value) (zs : List (IcC)) (hs : a.eval s = v) (hown : w.ownsRow base 169 5 v zs.length (flat icC zs)) (g : Nat) (y : IcC) (hx : a.eval x = .slice (some ⟨g, 0, none⟩) 1 1) (hy : ∀ j u, (icC y)[j]? = some u → w.cell? ⟨g, j, none⟩ = some u)
    (hb : (zs.length + 1) * 56 ≤ 140737488355328) (hbase : base ≤ w.heap.size)
    (h : ∀ v' w', w'.ownsRow base 169 5 v' (zs ++ [y]).length (flat icC (zs ++ [y])) → w.grownBy w' v.ownBlock → wpList Try.prog ops Q rest (a.put o.dst v') w') : wpList Try.prog ops Q (o :: rest) a w := by
  obtain ⟨i0, z0, hi0, hz0, hz1, hz2, hz3⟩ := ic_parts
  refine wpList_append_own _ hgd s x _ ho base 169 i0 z0 5 56 Try.underlying165 hi0 hz0 hz1 hz2 hz3 (by decide) v zs.length (flat icC zs) hs hown ⟨g, 0, none⟩ 1 1 (icC y) hx rfl ?_ (ic_one y) (by unfold maxLen; omega) hb hbase ?_
  · intro j u hu
    rw [addr_add, Nat.zero_add]
    exact hy j u hu
  · intro v' w' h1 h2 _
    refine h v' w' ?_ h2
    rw [List.length_append, flat_append, flat_one]
    exact h1
end Go.Proofs.Ytdjahlkjfpbifaa
