
/-
  Slices of LkC: read, and in the making.
-/
import Derived.Test.YtgjimjpbogadjaaLkRow
import Derived.Deep.LoopGhost
import Derived.Deep.DeepCutAuto
import Derived.Deep.CutBlock
import Derived.Deep.RegionLaw
namespace Go.Proofs.Ytgjimjpbogadjaa
open Go.RowKit

/-- A slice whose elements read as vs. -/
def lkRow (w : World) (S : Nat → Prop) (n : Nat) (A : Option Addr) (c : Nat) (l : List LkC) (vs : List Lk) : Prop :=
  l.length = vs.length ∧ RowS w S A (flat lkC l) ∧ (∀ i, i < l.length → LkIn w S n (l.getD i lkc0) (vs.getD i lk0)) ∧ l.length ≤ c ∧ c ≤ maxLen ∧ (A = none → c = 0) ∧ l.length * 56 ≤ reachBytes
theorem lkRow.keep {w w' : World} {S S' : Nat → Prop} {n : Nat} {A : Option Addr} {c : Nat} {l : List LkC} {vs : List Lk} (hk : ∀ p : Addr, S p.block → w'.cell? p = w.cell? p) (hS : ∀ b, S b → S' b) (h : lkRow w S n A c l vs) : lkRow w' S' n A c l vs :=
  ⟨h.1, h.2.1.keep hk hS, fun i hi => (h.2.2.1 i hi).keep hk hS, h.2.2.2⟩
theorem lkRow.below {w w' : World} {B : Nat} {S : Nat → Prop} {n : Nat} {A : Option Addr} {c : Nat} {l : List LkC} {vs : List Lk} (hb : Below B w w') (hS : ∀ b, S b → b < B) (h : lkRow w S n A c l vs) : lkRow w' S n A c l vs :=
  h.keep (fun _ hp => hb.cell (hS _ hp)) fun _ h => h
theorem lkRow.lt {w : World} {S : Nat → Prop} {n : Nat} {A : Option Addr} {c : Nat} {l : List LkC} {vs : List Lk} (h : lkRow w S n A c l vs) : lkRow w (fun b => S b ∧ b < w.heap.size) n A c l vs :=
  ⟨h.1, h.2.1.lt, fun i hi => (h.2.2.1 i hi).lt, h.2.2.2⟩
theorem lkRow.all {w : World} {S : Nat → Prop} {n : Nat} {A : Option Addr} {c : Nat} {l : List LkC} {vs : List Lk} (h : lkRow w S n A c l vs) : lkRow w (· < w.heap.size) n A c l vs :=
  h.lt.keep (fun _ _ => rfl) fun _ h => h.2

/-- A row in the making: its block is the call's own, its elements' parts lie in S, off that block. -/
def lkMk (w : World) (base : Nat) (S : Nat → Prop) (n : Nat) (A : Option Addr) (c : Nat) (l : List LkC) (vs : List Lk) : Prop :=
  l.length = vs.length ∧ OwnAt w base 114 3 A l.length c (flat lkC l) ∧ ∀ i, i < l.length → LkIn w (Off S A) n (l.getD i lkc0) (vs.getD i lk0)
theorem lkMk.nil {w : World} {base : Nat} {S : Nat → Prop} {n : Nat} : lkMk w base S n none 0 [] [] := ⟨rfl, OwnAt.nil, fun i hi => absurd hi (by simp)⟩
theorem lkMk.below {w w' : World} {base : Nat} {S : Nat → Prop} {n : Nat} {A : Option Addr} {c : Nat} {l : List LkC} {vs : List Lk} (h : lkMk w base S n A c l vs) (hb : Below w.heap.size w w') : lkMk w' base S n A c l vs :=
  ⟨h.1, h.2.1.below hb, fun i hi => (h.2.2 i hi).lt.keep (fun _ hp => hb.cell hp.2) fun _ hp => hp.1⟩
theorem lkMk.row {w : World} {base : Nat} {S : Nat → Prop} {n : Nat} {A : Option Addr} {c : Nat} {l : List LkC} {vs : List Lk} (h : lkMk w base S n A c l vs) (hm : l.length * 56 ≤ reachBytes) : lkRow w (fun b => S b ∨ base ≤ b) n A c l vs := by
  refine ⟨h.1, ?_, fun i hi => (h.2.2 i hi).keep (fun _ _ => rfl) fun _ hp => .inl hp.1, ?_⟩
  · intro hp
    obtain ⟨b, o, e, _, hc⟩ := h.2.1.row hp
    subst e
    exact ⟨b, o, rfl, .inr h.2.1.lt.1, hc⟩
  · rcases h.2.1.2 with ⟨h1, h2, h3⟩ | ⟨g, o, cur, h1, h2, h3, h4, h5, _⟩
    · exact ⟨by omega, by omega, fun _ => h3, hm⟩
    · exact ⟨h4, h5, (fun e => by rw [h1] at e; cases e), hm⟩

theorem lkMk.push {w w' : World} {base : Nat} {S : Nat → Prop} {n : Nat} {A : Option Addr} {c : Nat} {l : List LkC} {vs : List Lk} (hmk : lkMk w base S n A c l vs) (hbase : base ≤ w.heap.size) {y : LkC} {v : Lk} (hv : LkIn w (Off S A) n y v) {g' o' c' : Nat}
    (h1 : OwnAt w' base 114 3 (some ⟨g', o', none⟩) (l.length + 1) c' (flat lkC l ++ lkC y)) (h2 : w.grownBy w' (A.map (·.block))) (h3 : A.map (·.block) = some g' ∨ g' = w.heap.size) :
    lkMk w' base S n (some ⟨g', o', none⟩) c' (l ++ [y]) (vs ++ [v]) ∧ Below base w w' := by
  have hcell : ∀ p : Addr, Off S A p.block ∧ p.block < w.heap.size → w'.cell? p = w.cell? p := fun p hp => by
    have := h2.block p.block hp.2 (fun e => hp.1.2 e.symm)
    simp only [World.cell?, this]
  have hoff : ∀ b, Off S A b ∧ b < w.heap.size → Off S (some ⟨g', o', none⟩) b := fun b hp => ⟨hp.1.1, fun e => by
    simp at e
    rcases h3 with h3 | h3
    · exact hp.1.2 (by rw [h3, e])
    · omega⟩
  refine ⟨⟨by simp [hmk.1], by rw [List.length_append, flat_append, flat_one]; exact h1, fun i hi => ?_⟩, ?_⟩
  · rw [List.length_append, List.length_singleton] at hi
    have hl := hmk.1
    rcases Nat.lt_or_ge i l.length with hlt | hge
    · have := hmk.2.2 i hlt
      simp only [List.getD_eq_getElem?_getD, List.getElem?_append_left hlt, List.getElem?_append_left (show i < vs.length by omega)] at this ⊢
      exact this.lt.keep hcell hoff
    · obtain rfl : i = l.length := by omega
      simp only [List.getD_eq_getElem?_getD, List.getElem?_append_right (Nat.le_refl _), List.getElem?_append_right (show vs.length ≤ l.length by omega), Nat.sub_self, show l.length - vs.length = 0 by omega, List.getElem?_cons_zero, Option.getD_some]
      exact hv.lt.keep hcell hoff
  · refine (Below.refl base w).grown h2 hbase fun k hk => ?_
    rcases hmk.2.1.form with ⟨rfl, _⟩ | ⟨g1, o1, rfl⟩
    · cases hk
    · simp at hk; subst hk; exact hmk.2.1.lt.1
theorem lkMk.weak {w : World} {base base' : Nat} {S S' : Nat → Prop} {n : Nat} {A : Option Addr} {c : Nat} {l : List LkC} {vs : List Lk} (h : lkMk w base S n A c l vs) (hb : base' ≤ base) (hS : ∀ b, S b → S' b) : lkMk w base' S' n A c l vs :=
  ⟨h.1, h.2.1.lower hb, fun i hi => (h.2.2 i hi).keep (fun _ _ => rfl) fun b hp => ⟨hS b hp.1, hp.2⟩⟩

/-- One element appended to a row in the making. -/
theorem wpList_mk_lk {ops : Array Oper} {rest : List Oper} {o : Oper} {a : Act} {w : World} {Q : Exit → Act → World → Prop} (hgd : o.guard = none) (s x : Operand)
    (ho : o.op = .call { callee := .builtin .append, args := #[s, x], argTypes := #[96, 96] })
    (base : Nat) (S : Nat → Prop) (n : Nat) (A : Option Addr) (c m : Nat) (l : List LkC) (vs : List Lk) (hm : l.length = m) (hs : a.eval s = .slice A m c) (hmk : lkMk w base S n A c l vs) (g : Nat) (y : LkC) (v : Lk) (hx : a.eval x = .slice (some ⟨g, 0, none⟩) 1 1) (hy : ∀ j u, (lkC y)[j]? = some u → w.cell? ⟨g, j, none⟩ = some u)
    (hv : LkIn w (Off S A) n y v)
    (hb : (m + 1) * 56 ≤ 140737488355328) (hbase : base ≤ w.heap.size)
    (h : ∀ A' c' w', lkMk w' base S n A' c' (l ++ [y]) (vs ++ [v]) → Below base w w' → wpList Try.prog ops Q rest (a.put o.dst (.slice A' (m + 1) c')) w') : wpList Try.prog ops Q (o :: rest) a w := by
  subst hm
  obtain ⟨i0, z0, hi0, hz0, hz1, hz2, hz3⟩ := lk_parts
  refine wpList_append_q hgd s x _ ho base 114 i0 z0 3 56 Try.underlying96 hi0 hz0 hz1 hz2 hz3 (by decide) A l.length c (flat lkC l) hs hmk.2.1 ⟨g, 0, none⟩ 1 1 (lkC y) hx rfl ?_ (lk_one y) (by unfold maxLen; omega) hb hbase (by decide) ?_
  · intro j u hu
    rw [addr_add, Nat.zero_add]
    exact hy j u hu
  · intro g' o' c' w' h1 h2 h3
    have := hmk.push hbase hv h1 h2 h3
    exact h _ c' w' this.1 this.2

/-- The same in a region that draws its order. -/
theorem step_mk_lk {ops : Array Oper} {o : Oper} {a : Act} {w : World} {K : Act → World → Prop} {Q : Exit → Act → World → Prop} {E : Prop} (hgd : o.guard = none) (s x : Operand)
    (ho : o.op = .call { callee := .builtin .append, args := #[s, x], argTypes := #[96, 96] })
    (base : Nat) (S : Nat → Prop) (n : Nat) (A : Option Addr) (c m : Nat) (l : List LkC) (vs : List Lk) (hm : l.length = m) (hs : a.eval s = .slice A m c) (hmk : lkMk w base S n A c l vs) (g : Nat) (y : LkC) (v : Lk) (hx : a.eval x = .slice (some ⟨g, 0, none⟩) 1 1) (hy : ∀ j u, (lkC y)[j]? = some u → w.cell? ⟨g, j, none⟩ = some u)
    (hv : LkIn w (Off S A) n y v)
    (hb : (m + 1) * 56 ≤ 140737488355328) (hbase : base ≤ w.heap.size)
    (h : ∀ A' c' w', lkMk w' base S n A' c' (l ++ [y]) (vs ++ [v]) → Below base w w' → K (a.put o.dst (.slice A' (m + 1) c')) w') :
    if Region.wanted o (yielded ops a.tmps) = true then Oper.wp Try.prog o a w K Q else E := by
  subst hm
  obtain ⟨i0, z0, hi0, hz0, hz1, hz2, hz3⟩ := lk_parts
  refine step_append_q hgd s x _ ho base 114 i0 z0 3 56 Try.underlying96 hi0 hz0 hz1 hz2 hz3 (by decide) A l.length c (flat lkC l) hs hmk.2.1 ⟨g, 0, none⟩ 1 1 (lkC y) hx rfl ?_ (lk_one y) (by unfold maxLen; omega) hb hbase (by decide) ?_
  · intro j u hu
    rw [addr_add, Nat.zero_add]
    exact hy j u hu
  · intro g' o' c' w' h1 h2 h3
    have := hmk.push hbase hv h1 h2 h3
    exact h _ c' w' this.1 this.2

/-- The same, with what has turned. -/
theorem step_mk2_lk {ops : Array Oper} {o : Oper} {a : Act} {w : World} {K : Act → World → Prop} {Q : Exit → Act → World → Prop} {E : Prop} (hgd : o.guard = none) (s x : Operand)
    (ho : o.op = .call { callee := .builtin .append, args := #[s, x], argTypes := #[96, 96] })
    (base : Nat) (S : Nat → Prop) (n : Nat) (A : Option Addr) (c m : Nat) (l : List LkC) (vs : List Lk) (hm : l.length = m) (hs : a.eval s = .slice A m c) (hmk : lkMk w base S n A c l vs) (g : Nat) (y : LkC) (v : Lk) (hx : a.eval x = .slice (some ⟨g, 0, none⟩) 1 1) (hy : ∀ j u, (lkC y)[j]? = some u → w.cell? ⟨g, j, none⟩ = some u)
    (hv : LkIn w (Off S A) n y v)
    (hb : (m + 1) * 56 ≤ 140737488355328) (hbase : base ≤ w.heap.size)
    (h : ∀ A' c' w', lkMk w' base S n A' c' (l ++ [y]) (vs ++ [v]) → Below base w w' → Only (fun b => A.map (·.block) = some b) w w' → (∀ b, A'.map (·.block) = some b → A.map (·.block) = some b ∨ w.heap.size ≤ b) → K (a.put o.dst (.slice A' (m + 1) c')) w') :
    if Region.wanted o (yielded ops a.tmps) = true then Oper.wp Try.prog o a w K Q else E := by
  subst hm
  obtain ⟨i0, z0, hi0, hz0, hz1, hz2, hz3⟩ := lk_parts
  refine step_append_q hgd s x _ ho base 114 i0 z0 3 56 Try.underlying96 hi0 hz0 hz1 hz2 hz3 (by decide) A l.length c (flat lkC l) hs hmk.2.1 ⟨g, 0, none⟩ 1 1 (lkC y) hx rfl ?_ (lk_one y) (by unfold maxLen; omega) hb hbase (by decide) ?_
  · intro j u hu
    rw [addr_add, Nat.zero_add]
    exact hy j u hu
  · intro g' o' c' w' h1 h2 h3
    have := hmk.push hbase hv h1 h2 h3
    exact h _ c' w' this.1 this.2 ⟨h2.os, h2.tape, h2.output, h2.size, fun i hi hne => h2.block i hi (fun e => hne e.symm)⟩ (fun b hb => by
      simp at hb
      subst hb
      rcases h3 with h3 | h3
      · exact .inl h3
      · exact .inr (by omega))

theorem lkMk.only {w w' : World} {base : Nat} {S S' T : Nat → Prop} {n : Nat} {A : Option Addr} {c : Nat} {l : List LkC} {vs : List Lk} (h : lkMk w base S n A c l vs) (ho : Only T w w') (hA : ∀ b, A.map (·.block) = some b → ¬ T b) (hS : ∀ b, S b → b < w.heap.size → ¬ T b ∧ S' b) : lkMk w' base S' n A c l vs :=
  ⟨h.1, h.2.1.only ho hA, fun i hi => (h.2.2 i hi).lt.keep (fun p hp => by simp only [World.cell?, ho.block p.block hp.2 (hS _ hp.1.1 hp.2).1]) fun b hp => ⟨(hS b hp.1.1 hp.2).2, hp.1.2⟩⟩
theorem lk_new (w : World) (y : LkC) (j : Nat) (u : Value) (h : (lkC y)[j]? = some u) :
    (w.alloc (.cells (lkC y).toArray 114)).cell? ⟨w.heap.size, j, none⟩ = some u := by
  rw [(Box.new w 114 (lkC y).toArray).cell j, ← h]
  simp
end Go.Proofs.Ytgjimjpbogadjaa
