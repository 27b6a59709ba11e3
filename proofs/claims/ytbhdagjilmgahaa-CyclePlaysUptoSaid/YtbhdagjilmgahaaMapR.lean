
/-
  Ranging over a map of the call's own whose keys are ints and whose elements are known as they stand.
-/
import Derived.Test.YtbhdagjilmgahaaIntSet
import Derived.Maps.RangeWalk
namespace Go.Proofs.Ytbhdagjilmgahaa
open Go.RowKit Go.Maps

/-- Block r is an iterator over the map in block b (which holds F); what is still to come is left, so many. -/
def RngV (w : World) (b r n : Nat) (F : Int → Option Value) (left : Int → Bool) (cnt : Nat) : Prop :=
  ∃ (D : DataW Value) (lf : Lit → Bool), w.ranges Try.prog 3 (fun v => some (DataW.held v, [])) b r n D lf cnt ∧ IsMap D ∧ (∀ (x : Int) (z : DataW Value), D.atKey (intL x) z = ((F x).map DataW.held).getD z) ∧ ∀ x, lf (intL x) = left x

theorem sameK (z x : Int) : (intL z).sameKey (.int .i64 x) = (z == x) := by
  show decide (IntKind.i64 = IntKind.i64 ∧ z = x) = (z == x)
  by_cases e : z = x
  · rw [decide_eq_true ⟨rfl, e⟩, e, beq_self_eq_true]
  · rw [decide_eq_false (fun h => e h.2)]
    exact (beq_eq_false_iff_ne.2 e).symm
section
variable {w w' : World} {b r n cnt : Nat} {F : Int → Option Value} {left : Int → Bool}
theorem RngV.map (h : RngV w b r n F left cnt) : IntMap w b n F := by
  obtain ⟨D, lf, h1, h2, h3, _⟩ := h
  exact ⟨D, h1.owns, h2, h3⟩
theorem RngV.lt (h : RngV w b r n F left cnt) : r < w.heap.size := by
  obtain ⟨D, lf, h1, _⟩ := h
  exact h1.lt
theorem RngV.only {S : Nat → Prop} (h : RngV w b r n F left cnt) (ho : Only S w w') (h1 : ¬ S b) (h2 : ¬ S r) : RngV w' b r n F left cnt := by
  have hb := h.map.lt
  have hr := h.lt
  obtain ⟨D, lf, ⟨es, clock, since, seen, c0, g1, g2, g3, g4, g5, rest⟩, k⟩ := h
  exact ⟨D, lf, ⟨es, clock, since, seen, c0, (ho.block b hb h1).trans g1, g2, g3, g4, (ho.block r hr h2).trans g5, rest⟩, k⟩
theorem MapV.hasK {f : Int → Lit} {D : DataW Value} (h3 : ∀ (x : Int) (z : DataW Value), D.atKey (f x) z = ((F x).map DataW.held).getD z) (x : Int) : Maps.has D (f x) = (F x).isSome := by
  cases hF : F x with
  | none => rw [has_false_of_atKey (fun z => by rw [h3 x, hF]; rfl)]; rfl
  | some u => rw [has_true_of_atKey (y := .held u) (fun z => by rw [h3 x, hF]; rfl)]; rfl
variable {ops : Array Oper} {rest : List Oper} {o : Oper} {a : Act} {Q : Exit → Act → World → Prop}
/-- The loop's iterator is made. -/
theorem wpList_range_mapV (hg : o.guard = none) (m : Operand) (t e : TypeId) (hop : o.op = Op.range t m) (ht : Try.prog.underlying t = some (.map 3 e)) (hm : a.eval m = .map (some b)) (hown : IntMap w b n F)
    (hK : ∀ w' cnt, RngV w' b w.heap.size n F (fun x => (F x).isSome) cnt → Only (fun _ => False) w w' → w'.heap.size = w.heap.size + 1 → wpList Try.prog ops Q rest (a.put o.dst (.pointer (some ⟨w.heap.size, 0, none⟩))) w') :
    wpList Try.prog ops Q (o :: rest) a w := by
  obtain ⟨D, h1, h2, h3⟩ := hown
  refine wpList_range_own w hg m t hop 3 e ints_keyed ht _ b n D hm h1 fun w' k1 k2 k3 => ?_
  exact hK w' _ ⟨D, _, k1, h2, h3, fun x => MapV.hasK (f := intL) h3 x⟩ ⟨k2.os, k2.tape, k2.output, k2.size, fun i hi _ => k2.block i hi (by simp)⟩ k3
set_option maxRecDepth 100000 in
/-- The loop's step. -/
theorem wpList_next_mapV (hg : o.guard = none) (it : Operand) (hop : o.op = Op.next it false) (hit : a.eval it = .pointer (some ⟨r, 0, none⟩)) (h : RngV w b r n F left cnt)
    (hDone : (∀ x, left x = false) → wpList Try.prog ops Q rest (a.put o.dst (.tuple #[.bool false])) w)
    (hMore : ∀ (x : Int) (v : Value) (w' : World) (cnt' : Nat), I64 x → left x = true → F x = some v → RngV w' b r n F (fun z => left z && !(z == x)) cnt' → cnt' < cnt → Only (fun i => i = r) w w' → w'.heap.size = w.heap.size →
      (Instr.entry (.pointer (some ⟨r, 0, none⟩))).run Try.prog w' = .ok (.tuple #[.int .i64 x, v]) w' → wpList Try.prog ops Q rest (a.put o.dst (.tuple #[.bool true, .int .i64 x, v])) w') :
    wpList Try.prog ops Q (o :: rest) a w := by
  obtain ⟨D, lf, h1, h2, h3, h4⟩ := h
  refine wpList_next_ranges w hg it hop 3 ints_keyed (fun v => some (DataW.held v, [])) (Value.int .i64) (fun v : Value => v) (fun key kl hkey => by obtain ⟨x, rfl, _⟩ := Maps.keyOf_int_inv Try.underlying3 hkey; exact ⟨x, rfl⟩) (fun v y _ => ⟨v, rfl⟩) b r n D lf cnt hit h1 (fun _ hl => hDone (fun x => by rw [← h4 x]; exact hl _)) ?_
  intro x c kl y w' cnt' hkey hlk hv hat hrg hlt hgr hsz hen
  obtain ⟨x', ex, rfl, hwx⟩ := Maps.keyOf_int_inv Try.underlying3 hkey
  cases ex
  injection hv with hv
  have hF : F x = some c := by
    have e1 := hat .nil
    have e2 := hat (.held (.bool true))
    have e3 := h3 x .nil
    have e4 := h3 x (.held (.bool true))
    unfold intL at e3 e4
    rw [e1] at e3
    rw [e2] at e4
    cases hF : F x with
    | none =>
      rw [hF] at e3 e4
      simp only [Option.map_none, Option.getD_none] at e3 e4
      rw [e3] at e4
      cases e4
    | some u =>
      rw [hF] at e3
      simp only [Option.map_some, Option.getD_some] at e3
      rw [← hv] at e3
      injection e3 with e3
      rw [e3]
  refine hMore x c w' cnt' (I64.of_wf hwx) (by rw [← h4 x]; exact hlk) hF ⟨D, _, hrg, h2, h3, fun z => ?_⟩ hlt ⟨hgr.os, hgr.tape, hgr.output, hgr.size, fun i hi hne => hgr.block i hi (fun e => hne (Option.some.inj e))⟩ hsz hen
  dsimp only
  rw [h4 z, sameK]
end
end Go.Proofs.Ytbhdagjilmgahaa
