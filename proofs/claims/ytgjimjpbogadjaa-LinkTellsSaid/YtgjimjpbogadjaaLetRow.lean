
/-
  Slices of roadstead/api.Letter: what they read as, and the library's functions over them.
-/
import Derived.Test.YtgjimjpbogadjaaValRow
import Derived.Laws.StructEq
namespace Go.Proofs.Ytgjimjpbogadjaa
open Go.RowKit

def letterC (x : LC) : List Value := [.int .i64 x.kind, .int .i64 x.frm, .int .i64 x.to, .int .i64 x.num, .string x.text, .int .i64 x.v.kind, .int .i64 x.v.num, .string x.v.text, .slice x.v.A x.v.len x.v.cap]
def letterV (x : LC) : Value := .agg #[.int .i64 x.kind, .int .i64 x.frm, .int .i64 x.to, .int .i64 x.num, .string x.text, .int .i64 x.v.kind, .int .i64 x.v.num, .string x.v.text, .slice x.v.A x.v.len x.v.cap]
theorem letterC_len (x : LC) : (letterC x).length = 9 := rfl
theorem letter_info : (Try.prog.info? 98).map (fun i => (i.size, i.bytes)) = some (9, 104) := by kernel_rfl
theorem letter_zero : ((Try.prog.info? 98).bind (·.zero)).map (fun z => z.cells.size) = some 9 := by kernel_rfl
theorem letter_parts : ∃ i z, Try.prog.info? 98 = some i ∧ i.zero = some z ∧ i.size = 9 ∧ i.bytes = 104 ∧ z.cells.size = 9 := by
  have h1 := letter_info
  have h2 := letter_zero
  cases hi : Try.prog.info? 98 with
  | none => rw [hi] at h1; cases h1
  | some i =>
    rw [hi] at h1 h2
    simp only [Option.map_some, Option.some.injEq, Prod.mk.injEq, Option.bind_some] at h1 h2
    cases hz : i.zero with
    | none => rw [hz] at h2; cases h2
    | some z =>
      rw [hz] at h2
      simp only [Option.map_some, Option.some.injEq] at h2
      exact ⟨i, z, rfl, hz, h1.1, h1.2, h2⟩
theorem letter_one (x : LC) : ∀ u ∈ letterC x, u.oneCell' = true := by
  intro u hu
  simp only [letterC, List.mem_cons, List.not_mem_nil, or_false] at hu
  rcases hu with rfl | rfl | rfl | rfl | rfl | rfl | rfl | rfl | rfl <;> rfl
theorem letter_one_all (l : List (LC)) : ∀ u ∈ flat letterC l, u.oneCell' = true := by
  intro u hu
  simp only [flat, List.mem_flatMap] at hu
  obtain ⟨x, _, hx⟩ := hu
  exact letter_one x u hx
/-- Element i's cells. -/
theorem Row.letter {w : World} {B : Nat} {A : Option Addr} {l : List (LC)} (h : Row w B A (flat letterC l)) {i : Nat} (hi : i < l.length) (d : LC) :
    ∃ b o, A = some ⟨b, o, none⟩ ∧ b < B
      ∧ w.cell? ⟨b, o + i * 9, none⟩ = some (.int .i64 (l.getD i d).kind)
      ∧ w.cell? ⟨b, o + i * 9 + 1, none⟩ = some (.int .i64 (l.getD i d).frm)
      ∧ w.cell? ⟨b, o + i * 9 + 2, none⟩ = some (.int .i64 (l.getD i d).to)
      ∧ w.cell? ⟨b, o + i * 9 + 3, none⟩ = some (.int .i64 (l.getD i d).num)
      ∧ w.cell? ⟨b, o + i * 9 + 4, none⟩ = some (.string (l.getD i d).text)
      ∧ w.cell? ⟨b, o + i * 9 + 5, none⟩ = some (.int .i64 (l.getD i d).v.kind)
      ∧ w.cell? ⟨b, o + i * 9 + 6, none⟩ = some (.int .i64 (l.getD i d).v.num)
      ∧ w.cell? ⟨b, o + i * 9 + 7, none⟩ = some (.string (l.getD i d).v.text)
      ∧ w.cell? ⟨b, o + i * 9 + 8, none⟩ = some (.slice (l.getD i d).v.A (l.getD i d).v.len (l.getD i d).v.cap)
    := by
  obtain ⟨b, o, e, hb, hc⟩ := Row.elem letterC_len (by decide) h (getD_some d hi)
  exact ⟨b, o, e, hb, hc 0 _ rfl, hc 1 _ rfl, hc 2 _ rfl, hc 3 _ rfl, hc 4 _ rfl, hc 5 _ rfl, hc 6 _ rfl, hc 7 _ rfl, hc 8 _ rfl⟩

/-- One element appended to a row of the call's own. -/
theorem wpList_push_letter {ops : Array Oper} {rest : List Oper} {o : Oper} {a : Act} {w : World} {Q : Exit → Act → World → Prop} (hgd : o.guard = none) (s x : Operand)
    (ho : o.op = .call { callee := .builtin .append, args := #[s, x], argTypes := #[104, 104] })
    (base : Nat) (v : Value) (zs : List (LC)) (hs : a.eval s = v) (hown : w.ownsRow base 98 9 v zs.length (flat letterC zs)) (g : Nat) (y : LC) (hx : a.eval x = .slice (some ⟨g, 0, none⟩) 1 1) (hy : ∀ j u, (letterC y)[j]? = some u → w.cell? ⟨g, j, none⟩ = some u)
    (hb : (zs.length + 1) * 104 ≤ 140737488355328) (hbase : base ≤ w.heap.size)
    (h : ∀ v' w', w'.ownsRow base 98 9 v' (zs ++ [y]).length (flat letterC (zs ++ [y])) → w.grownBy w' v.ownBlock → wpList Try.prog ops Q rest (a.put o.dst v') w') : wpList Try.prog ops Q (o :: rest) a w := by
  obtain ⟨i0, z0, hi0, hz0, hz1, hz2, hz3⟩ := letter_parts
  refine wpList_append_own _ hgd s x _ ho base 98 i0 z0 9 104 Try.underlying104 hi0 hz0 hz1 hz2 hz3 (by decide) v zs.length (flat letterC zs) hs hown ⟨g, 0, none⟩ 1 1 (letterC y) hx rfl ?_ (letter_one y) (by unfold maxLen; omega) hb hbase ?_
  · intro j u hu
    rw [addr_add, Nat.zero_add]
    exact hy j u hu
  · intro v' w' h1 h2 _
    refine h v' w' ?_ h2
    rw [List.length_append, flat_append, flat_one]
    exact h1

end Go.Proofs.Ytgjimjpbogadjaa
