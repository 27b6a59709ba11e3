
/-
  Slices of roadstead/roadlaw1.Ask: what they read as, and the library's functions over them.
-/
import Derived.Test.YtdjahlkjfpbifaaCaSl
import Derived.Laws.StructEq
namespace Go.Proofs.Ytdjahlkjfpbifaa
open Go.RowKit

def akC (x : AkC) : List Value := [.int .i64 x.f, .int .i64 x.pc, .int .i64 x.nm, .int .i64 x.tg, .bool x.fg]
def akV (x : AkC) : Value := .agg #[.int .i64 x.f, .int .i64 x.pc, .int .i64 x.nm, .int .i64 x.tg, .bool x.fg]
theorem akC_len (x : AkC) : (akC x).length = 5 := rfl
theorem ak_info : (Try.prog.info? 69).map (fun i => (i.size, i.bytes)) = some (5, 40) := by kernel_rfl
theorem ak_zero : ((Try.prog.info? 69).bind (·.zero)).map (fun z => z.cells.size) = some 5 := by kernel_rfl
theorem ak_parts : ∃ i z, Try.prog.info? 69 = some i ∧ i.zero = some z ∧ i.size = 5 ∧ i.bytes = 40 ∧ z.cells.size = 5 := by
  have h1 := ak_info
  have h2 := ak_zero
  cases hi : Try.prog.info? 69 with
  | none => rw [hi] at h1; cases h1
  | some i =>
    rw [hi] at h1 h2
    simp only [Option.map_some, Option.some.injEq, Prod.mk.injEq, Option.bind_some] at h1 h2
    cases hz : i.zero with
    | none => rw [hz] at h2; cases h2
    | some z =>
      rw [hz] at h2
      simp only [Option.map_some, Option.some.injEq] at h2
      exact ⟨i, z, rfl, hz, h1.1, h1.2, h2⟩
theorem ak_one (x : AkC) : ∀ u ∈ akC x, u.oneCell' = true := by
  intro u hu
  simp only [akC, List.mem_cons, List.not_mem_nil, or_false] at hu
  rcases hu with rfl | rfl | rfl | rfl | rfl <;> rfl
theorem ak_one_all (l : List (AkC)) : ∀ u ∈ flat akC l, u.oneCell' = true := by
  intro u hu
  simp only [flat, List.mem_flatMap] at hu
  obtain ⟨x, _, hx⟩ := hu
  exact ak_one x u hx
/-- Element i's cells. -/
theorem Row.ak {w : World} {B : Nat} {A : Option Addr} {l : List (AkC)} (h : Row w B A (flat akC l)) {i : Nat} (hi : i < l.length) (d : AkC) :
    ∃ b o, A = some ⟨b, o, none⟩ ∧ b < B
      ∧ w.cell? ⟨b, o + i * 5, none⟩ = some (.int .i64 (l.getD i d).f)
      ∧ w.cell? ⟨b, o + i * 5 + 1, none⟩ = some (.int .i64 (l.getD i d).pc)
      ∧ w.cell? ⟨b, o + i * 5 + 2, none⟩ = some (.int .i64 (l.getD i d).nm)
      ∧ w.cell? ⟨b, o + i * 5 + 3, none⟩ = some (.int .i64 (l.getD i d).tg)
      ∧ w.cell? ⟨b, o + i * 5 + 4, none⟩ = some (.bool (l.getD i d).fg)
    := by
  obtain ⟨b, o, e, hb, hc⟩ := Row.elem akC_len (by decide) h (getD_some d hi)
  exact ⟨b, o, e, hb, hc 0 _ rfl, hc 1 _ rfl, hc 2 _ rfl, hc 3 _ rfl, hc 4 _ rfl⟩

/-- One element appended to a row of the call's own. -/
theorem wpList_push_ak {ops : Array Oper} {rest : List Oper} {o : Oper} {a : Act} {w : World} {Q : Exit → Act → World → Prop} (hgd : o.guard = none) (s x : Operand)
    (ho : o.op = .call { callee := .builtin .append, args := #[s, x], argTypes := #[63, 63] })
    (base : Nat) (v : Value) (zs : List (AkC)) (hs : a.eval s = v) (hown : w.ownsRow base 69 5 v zs.length (flat akC zs)) (g : Nat) (y : AkC) (hx : a.eval x = .slice (some ⟨g, 0, none⟩) 1 1) (hy : ∀ j u, (akC y)[j]? = some u → w.cell? ⟨g, j, none⟩ = some u)
    (hb : (zs.length + 1) * 40 ≤ 140737488355328) (hbase : base ≤ w.heap.size)
    (h : ∀ v' w', w'.ownsRow base 69 5 v' (zs ++ [y]).length (flat akC (zs ++ [y])) → w.grownBy w' v.ownBlock → wpList Try.prog ops Q rest (a.put o.dst v') w') : wpList Try.prog ops Q (o :: rest) a w := by
  obtain ⟨i0, z0, hi0, hz0, hz1, hz2, hz3⟩ := ak_parts
  refine wpList_append_own _ hgd s x _ ho base 69 i0 z0 5 40 Try.underlying63 hi0 hz0 hz1 hz2 hz3 (by decide) v zs.length (flat akC zs) hs hown ⟨g, 0, none⟩ 1 1 (akC y) hx rfl ?_ (ak_one y) (by unfold maxLen; omega) hb hbase ?_
  · intro j u hu
    rw [addr_add, Nat.zero_add]
    exact hy j u hu
  · intro v' w' h1 h2 _
    refine h v' w' ?_ h2
    rw [List.length_append, flat_append, flat_one]
    exact h1
end Go.Proofs.Ytdjahlkjfpbifaa
