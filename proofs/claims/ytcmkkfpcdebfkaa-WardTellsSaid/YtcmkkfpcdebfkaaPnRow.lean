/-
  Slices of roadstead/ward.Plan: what they read as, and the library's functions over them.
-/
import Derived.Test.YtcmkkfpcdebfkaaWd9
import Derived.Laws.StructEq
namespace Go.Proofs.Ytcmkkfpcdebfkaa
open Go.RowKit

def pnC (x : (PA × PlV)) : List Value := [.slice x.1.C x.2.1.length x.1.k, .slice x.1.D x.2.2.1.length x.1.l, .bool x.2.2.2]
def pnV (x : (PA × PlV)) : Value := .agg #[.slice x.1.C x.2.1.length x.1.k, .slice x.1.D x.2.2.1.length x.1.l, .bool x.2.2.2]
theorem pnC_len (x : (PA × PlV)) : (pnC x).length = 3 := rfl
theorem pn_info : (Try.prog.info? 220).map (fun i => (i.size, i.bytes)) = some (3, 56) := by kernel_rfl
theorem pn_zero : ((Try.prog.info? 220).bind (·.zero)).map (fun z => z.cells.size) = some 3 := by kernel_rfl
theorem pn_parts : ∃ i z, Try.prog.info? 220 = some i ∧ i.zero = some z ∧ i.size = 3 ∧ i.bytes = 56 ∧ z.cells.size = 3 := by
  have h1 := pn_info
  have h2 := pn_zero
  cases hi : Try.prog.info? 220 with
  | none => rw [hi] at h1; cases h1
  | some i =>
    rw [hi] at h1 h2
    simp only [Option.map_some, Option.some.injEq, Prod.mk.injEq, Option.bind_some] at h1 h2
    cases hz : i.zero with
    | none => rw [hz] at h2; cases h2
    | some z =>
      rw [hz] at h2
      simp only [Option.map_some, Option.some.injEq] at h2
      exact ⟨i, z, rfl, hz, h1.1, h1.2, h2⟩
theorem pn_one (x : (PA × PlV)) : ∀ u ∈ pnC x, u.oneCell' = true := by
  intro u hu
  simp only [pnC, List.mem_cons, List.not_mem_nil, or_false] at hu
  rcases hu with rfl | rfl | rfl <;> rfl
theorem pn_one_all (l : List ((PA × PlV))) : ∀ u ∈ flat pnC l, u.oneCell' = true := by
  intro u hu
  simp only [flat, List.mem_flatMap] at hu
  obtain ⟨x, _, hx⟩ := hu
  exact pn_one x u hx
/-- Element i's cells. -/
theorem Row.pn {w : World} {B : Nat} {A : Option Addr} {l : List ((PA × PlV))} (h : Row w B A (flat pnC l)) {i : Nat} (hi : i < l.length) (d : (PA × PlV)) :
    ∃ b o, A = some ⟨b, o, none⟩ ∧ b < B
      ∧ w.cell? ⟨b, o + i * 3, none⟩ = some (.slice (l.getD i d).1.C (l.getD i d).2.1.length (l.getD i d).1.k)
      ∧ w.cell? ⟨b, o + i * 3 + 1, none⟩ = some (.slice (l.getD i d).1.D (l.getD i d).2.2.1.length (l.getD i d).1.l)
      ∧ w.cell? ⟨b, o + i * 3 + 2, none⟩ = some (.bool (l.getD i d).2.2.2)
    := by
  obtain ⟨b, o, e, hb, hc⟩ := Row.elem pnC_len (by decide) h (getD_some d hi)
  exact ⟨b, o, e, hb, hc 0 _ rfl, hc 1 _ rfl, hc 2 _ rfl⟩

/-- One element appended to a row of the call's own. -/
theorem wpList_push_pn {ops : Array Oper} {rest : List Oper} {o : Oper} {a : Act} {w : World} {Q : Exit → Act → World → Prop} (hgd : o.guard = none) (s x : Operand)
    (ho : o.op = .call { callee := .builtin .append, args := #[s, x], argTypes := #[223, 223] })
    (base : Nat) (v : Value) (zs : List ((PA × PlV))) (hs : a.eval s = v) (hown : w.ownsRow base 220 3 v zs.length (flat pnC zs)) (g : Nat) (y : (PA × PlV)) (hx : a.eval x = .slice (some ⟨g, 0, none⟩) 1 1) (hy : ∀ j u, (pnC y)[j]? = some u → w.cell? ⟨g, j, none⟩ = some u)
    (hb : (zs.length + 1) * 56 ≤ 140737488355328) (hbase : base ≤ w.heap.size)
    (h : ∀ v' w', w'.ownsRow base 220 3 v' (zs ++ [y]).length (flat pnC (zs ++ [y])) → w.grownBy w' v.ownBlock → wpList Try.prog ops Q rest (a.put o.dst v') w') : wpList Try.prog ops Q (o :: rest) a w := by
  obtain ⟨i0, z0, hi0, hz0, hz1, hz2, hz3⟩ := pn_parts
  refine wpList_append_own _ hgd s x _ ho base 220 i0 z0 3 56 Try.underlying223 hi0 hz0 hz1 hz2 hz3 (by decide) v zs.length (flat pnC zs) hs hown ⟨g, 0, none⟩ 1 1 (pnC y) hx rfl ?_ (pn_one y) (by unfold maxLen; omega) hb hbase ?_
  · intro j u hu
    rw [addr_add, Nat.zero_add]
    exact hy j u hu
  · intro v' w' h1 h2 _
    refine h v' w' ?_ h2
    rw [List.length_append, flat_append, flat_one]
    exact h1
end Go.Proofs.Ytcmkkfpcdebfkaa
