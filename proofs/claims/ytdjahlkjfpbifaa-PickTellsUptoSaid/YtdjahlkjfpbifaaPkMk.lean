
/-
  Values appended to a row in the making; a row in the making whose slice lies in a cell (names).
-/
import Derived.Test.YtdjahlkjfpbifaaPkDef
import Derived.Test.YtdjahlkjfpbifaaOwnOnly
namespace Go.Proofs.Ytdjahlkjfpbifaa
open Go.RowKit

/-- One element appended to a row in the making; only its block turns. -/
theorem wpList_mk_valO {ops : Array Oper} {rest : List Oper} {o : Oper} {a : Act} {w : World} {Q : Exit → Act → World → Prop} (hgd : o.guard = none) (s x : Operand)
    (ho : o.op = .call { callee := .builtin .append, args := #[s, x], argTypes := #[26, 26] })
    (base : Nat) (S : Nat → Prop) (n : Nat) (A : Option Addr) (c m : Nat) (l : List VC) (vs : List Val) (hm : l.length = m) (hs : a.eval s = .slice A m c) (hmk : valMk w base S n A c l vs) (g : Nat) (y : VC) (v : Val) (hx : a.eval x = .slice (some ⟨g, 0, none⟩) 1 1) (hy : ∀ j u, (valC y)[j]? = some u → w.cell? ⟨g, j, none⟩ = some u)
    (hv : VIn w (Off S A) n y v)
    (hb : (m + 1) * 56 ≤ 140737488355328) (hbase : base ≤ w.heap.size)
    (h : ∀ g' o' c' w', valMk w' base S n (some ⟨g', o', none⟩) c' (l ++ [y]) (vs ++ [v]) → Only (fun b => A.map (·.block) = some b) w w' → (A.map (·.block) = some g' ∨ g' = w.heap.size) → wpList Try.prog ops Q rest (a.put o.dst (.slice (some ⟨g', o', none⟩) (m + 1) c')) w') : wpList Try.prog ops Q (o :: rest) a w := by
  subst hm
  obtain ⟨i0, z0, hi0, hz0, hz1, hz2, hz3⟩ := val_parts
  refine wpList_append_q hgd s x _ ho base 28 i0 z0 4 56 Try.underlying26 hi0 hz0 hz1 hz2 hz3 (by decide) A l.length c (flat valC l) hs hmk.2.1 ⟨g, 0, none⟩ 1 1 (valC y) hx rfl ?_ (val_one y) (by unfold maxLen; omega) hb hbase (by decide) ?_
  · intro j u hu
    rw [addr_add, Nat.zero_add]
    exact hy j u hu
  · intro g' o' c' w' h1 h2 h3
    exact h g' o' c' w' (hmk.push hbase hv h1 h2 h3).1 ⟨h2.os, h2.tape, h2.output, h2.size, fun i hi hne => h2.block i hi (fun e => hne e.symm)⟩ h3

/-- The cell of block g holds a row in the making. -/
structure NamesAt (w : World) (base g : Nat) (S : Nat → Prop) (n : Nat) (A : Option Addr) (c : Nat) (l : List VC) (vs : List Val) : Prop where
  box : Box w g 26 #[.slice A l.length c]
  made : valMk w base S n A c l vs
  ne : A.map (·.block) ≠ some g
  le : base ≤ g
section
variable {w w' w2 : World} {base g : Nat} {S : Nat → Prop} {n : Nat} {A : Option Addr} {c : Nat} {l : List VC} {vs : List Val}
theorem NamesAt.below (h : NamesAt w base g S n A c l vs) (hb : Below w.heap.size w w') : NamesAt w' base g S n A c l vs :=
  ⟨h.box.below hb h.box.lt, h.made.below hb, h.ne, h.le⟩
theorem NamesAt.new (hb : base ≤ w.heap.size) : NamesAt (w.alloc (.cells #[.slice none 0 0] 26)) base w.heap.size S n none 0 [] [] :=
  ⟨Box.new _ _ _, valMk.nil, by simp, hb⟩
/-- The row after one more is stored. -/
theorem NamesAt.put (h : NamesAt w base g S n A c l vs) (hS : ∀ b, S b → b < base) {g' o' c' : Nat} {l' : List VC} {vs' : List Val} (hmk : valMk w2 base S n (some ⟨g', o', none⟩) c' l' vs') (ho : Only (fun b => A.map (·.block) = some b) w w2) (hg : A.map (·.block) = some g' ∨ g' = w.heap.size) :
    NamesAt (w2.setCell ⟨g, 0, none⟩ (.slice (some ⟨g', o', none⟩) l'.length c')) base g S n (some ⟨g', o', none⟩) c' l' vs' := by
  have hne : g' ≠ g := by
    rcases hg with e | e
    · intro e'
      exact h.ne (by rw [e, e'])
    · have := h.box.lt
      omega
  refine ⟨?_, ⟨hmk.1, hmk.2.1.far (fun g1 o1 e => by injection e with e; injection e with e; simp; omega) _, fun i hi => (hmk.2.2 i hi).keep (fun p hp => cell_far (by have := hS _ hp.1; have := h.le; simp; omega)) fun b hb => hb⟩, by simpa using hne, h.le⟩
  have := (ho.box h.box h.ne).set 0 (.slice (some ⟨g', o', none⟩) l'.length c')
  simpa using this
theorem NamesAt.step (h : NamesAt w base g S n A c l vs) (hb : Below base w2 w) (hw : base ≤ w2.heap.size) {g' o' c' : Nat} {l' : List VC} {vs' : List Val} (_hmk : valMk w' base S n (some ⟨g', o', none⟩) c' l' vs') (ho : Only (fun b => A.map (·.block) = some b) w w') (u : Value) :
    Below base w2 (w'.setCell ⟨g, 0, none⟩ u) := by
  refine (ho.to_below hb (Nat.le_trans hw hb.size) fun i hi => ?_).setCell h.le _
  rcases h.made.2.1.form with ⟨rfl, _⟩ | ⟨g1, o1, rfl⟩
  · cases hi
  · have := h.made.2.1.lt.1
    simp at hi
    omega
end
end Go.Proofs.Ytdjahlkjfpbifaa
