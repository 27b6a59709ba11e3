
/-
  Slices of heap.Object: what they read as, and the library's functions over them.
-/
import Derived.Test.YtdjahlkjfpbifaaHuCat
import Derived.Test.YtdjahlkjfpbifaaHpDef
import Derived.Laws.StructEq
namespace Go.Proofs.Ytdjahlkjfpbifaa
open Go.RowKit

/-- An object, and where its parts lie. -/
structure OC where
  o : Ob
  A : Option Addr
  c : Nat
def oc0 : OC := ⟨⟨0, 0, 0, [], []⟩, none, 0⟩
/-- The parts of an object read as they should, in no block nb. -/
structure PIn (w : World) (nb : Option Nat) (x : OC) : Prop where
  row : Row w w.heap.size x.A (flat huC x.o.parts)
  none : x.A = none → x.c = 0
  le : x.o.parts.length ≤ x.c
  cap : x.c ≤ maxLen
  far : ∀ a, x.A = some a → some a.block ≠ nb

def ocC (x : OC) : List Value := [.int .i64 x.o.at_, .int .i64 x.o.kind, .int .i64 x.o.num, .string ⟨x.o.text.toArray⟩, .slice x.A x.o.parts.length x.c]
def ocV (x : OC) : Value := .agg #[.int .i64 x.o.at_, .int .i64 x.o.kind, .int .i64 x.o.num, .string ⟨x.o.text.toArray⟩, .slice x.A x.o.parts.length x.c]
theorem ocC_len (x : OC) : (ocC x).length = 5 := rfl
theorem oc_info : (Try.prog.info? 113).map (fun i => (i.size, i.bytes)) = some (5, 64) := by kernel_rfl
theorem oc_zero : ((Try.prog.info? 113).bind (·.zero)).map (fun z => z.cells.size) = some 5 := by kernel_rfl
theorem oc_parts : ∃ i z, Try.prog.info? 113 = some i ∧ i.zero = some z ∧ i.size = 5 ∧ i.bytes = 64 ∧ z.cells.size = 5 := by
  have h1 := oc_info
  have h2 := oc_zero
  cases hi : Try.prog.info? 113 with
  | none => rw [hi] at h1; cases h1
  | some i =>
    rw [hi] at h1 h2
    simp only [Option.map_some, Option.some.injEq, Prod.mk.injEq, Option.bind_some] at h1 h2
    cases hz : i.zero with
    | none => rw [hz] at h2; cases h2
    | some z =>
      rw [hz] at h2
      simp only [Option.map_some, Option.some.injEq] at h2
      exact ⟨i, z, rfl, hz, h1.1, h1.2, h2⟩
theorem oc_one (x : OC) : ∀ u ∈ ocC x, u.oneCell' = true := by
  intro u hu
  simp only [ocC, List.mem_cons, List.not_mem_nil, or_false] at hu
  rcases hu with rfl | rfl | rfl | rfl | rfl <;> rfl
theorem oc_one_all (l : List (OC)) : ∀ u ∈ flat ocC l, u.oneCell' = true := by
  intro u hu
  simp only [flat, List.mem_flatMap] at hu
  obtain ⟨x, _, hx⟩ := hu
  exact oc_one x u hx
/-- Element i's cells. -/
theorem Row.oc {w : World} {B : Nat} {A : Option Addr} {l : List (OC)} (h : Row w B A (flat ocC l)) {i : Nat} (hi : i < l.length) (d : OC) :
    ∃ b o, A = some ⟨b, o, none⟩ ∧ b < B
      ∧ w.cell? ⟨b, o + i * 5, none⟩ = some (.int .i64 (l.getD i d).o.at_)
      ∧ w.cell? ⟨b, o + i * 5 + 1, none⟩ = some (.int .i64 (l.getD i d).o.kind)
      ∧ w.cell? ⟨b, o + i * 5 + 2, none⟩ = some (.int .i64 (l.getD i d).o.num)
      ∧ w.cell? ⟨b, o + i * 5 + 3, none⟩ = some (.string ⟨(l.getD i d).o.text.toArray⟩)
      ∧ w.cell? ⟨b, o + i * 5 + 4, none⟩ = some (.slice (l.getD i d).A (l.getD i d).o.parts.length (l.getD i d).c)
    := by
  obtain ⟨b, o, e, hb, hc⟩ := Row.elem ocC_len (by decide) h (getD_some d hi)
  exact ⟨b, o, e, hb, hc 0 _ rfl, hc 1 _ rfl, hc 2 _ rfl, hc 3 _ rfl, hc 4 _ rfl⟩

/-- One element appended to a row of the call's own. -/
theorem wpList_push_oc {ops : Array Oper} {rest : List Oper} {o : Oper} {a : Act} {w : World} {Q : Exit → Act → World → Prop} (hgd : o.guard = none) (s x : Operand)
    (ho : o.op = .call { callee := .builtin .append, args := #[s, x], argTypes := #[93, 93] })
    (base : Nat) (v : Value) (zs : List (OC)) (hs : a.eval s = v) (hown : w.ownsRow base 113 5 v zs.length (flat ocC zs)) (g : Nat) (y : OC) (hx : a.eval x = .slice (some ⟨g, 0, none⟩) 1 1) (hy : ∀ j u, (ocC y)[j]? = some u → w.cell? ⟨g, j, none⟩ = some u)
    (hb : (zs.length + 1) * 64 ≤ 140737488355328) (hbase : base ≤ w.heap.size)
    (h : ∀ v' w', w'.ownsRow base 113 5 v' (zs ++ [y]).length (flat ocC (zs ++ [y])) → w.grownBy w' v.ownBlock → wpList Try.prog ops Q rest (a.put o.dst v') w') : wpList Try.prog ops Q (o :: rest) a w := by
  obtain ⟨i0, z0, hi0, hz0, hz1, hz2, hz3⟩ := oc_parts
  refine wpList_append_own _ hgd s x _ ho base 113 i0 z0 5 64 Try.underlying93 hi0 hz0 hz1 hz2 hz3 (by decide) v zs.length (flat ocC zs) hs hown ⟨g, 0, none⟩ 1 1 (ocC y) hx rfl ?_ (oc_one y) (by unfold maxLen; omega) hb hbase ?_
  · intro j u hu
    rw [addr_add, Nat.zero_add]
    exact hy j u hu
  · intro v' w' h1 h2 _
    refine h v' w' ?_ h2
    rw [List.length_append, flat_append, flat_one]
    exact h1
end Go.Proofs.Ytdjahlkjfpbifaa
