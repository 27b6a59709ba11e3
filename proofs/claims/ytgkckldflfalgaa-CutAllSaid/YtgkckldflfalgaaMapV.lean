
/-
  A map of the call's own whose elements are known as they stand (whatever their type): what it answers at each key.
-/
import Derived.Test.YtgkckldflfalgaaSetB
namespace Go.Proofs.Ytgkckldflfalgaa
open Go.RowKit Go.Maps

/-- Block b is a map of at most n entries; at key x it holds F x. -/
def MapV {α : Type} (f : α → Lit) (P : Program) (k : TypeId) (w : World) (b n : Nat) (F : α → Option Value) : Prop :=
  ∃ D : DataW Value, w.ownsMap P k (fun v => some (DataW.held v, [])) b n D ∧ IsMap D ∧ ∀ (x : α) (z : DataW Value), D.atKey (f x) z = ((F x).map DataW.held).getD z

section
variable {α : Type} {f : α → Lit} {P : Program} {k : TypeId} {w w' : World} {b n : Nat} {F : α → Option Value}
theorem MapV.made (w : World) : MapV f P k (w.alloc (.map #[] 0)) w.heap.size 0 (fun _ => none) :=
  ⟨.map [], World.ownsMap_made w P k _, isMap_empty, fun _ _ => rfl⟩
theorem MapV.mono {m : Nat} (h : MapV f P k w b n F) (hm : n ≤ m) : MapV f P k w b m F := by
  obtain ⟨D, h1, h2⟩ := h
  exact ⟨D, h1.mono hm, h2⟩
theorem MapV.lt (h : MapV f P k w b n F) : b < w.heap.size := by
  obtain ⟨D, h, _⟩ := h
  exact h.lt
theorem MapV.kept {row : Option Nat} (h : MapV f P k w b n F) (hg : w.grownBy w' row) (hne : some b ≠ row) : MapV f P k w' b n F := by
  obtain ⟨D, h1, h2⟩ := h
  exact ⟨D, h1.kept hg hne, h2⟩
theorem MapV.alloc (h : MapV f P k w b n F) (o : Obj) : MapV f P k (w.alloc o) b n F := by
  obtain ⟨D, h1, h2⟩ := h
  exact ⟨D, h1.alloc o, h2⟩
theorem MapV.drewN (h : MapV f P k w b n F) (m : Nat) : MapV f P k (w.drewN m) b n F := h
theorem MapV.set {a : Addr} (h : MapV f P k w b n F) (ha : b ≠ a.block) (u : Value) : MapV f P k (w.setCell a u) b n F := by
  obtain ⟨D, h1, h2⟩ := h
  exact ⟨D, h1.setCell ha u, h2⟩
theorem MapV.under (h : MapV f P k w b n F) (hb : Below w.heap.size w w') : MapV f P k w' b n F :=
  h.kept (row := none) ⟨hb.os, hb.tape, hb.output, hb.size, fun i hi _ => hb.block i hi⟩ (by simp)
theorem MapV.only {S : Nat → Prop} (h : MapV f P k w b n F) (ho : Only S w w') (hS : ¬ S b) : MapV f P k w' b n F := by
  have hlt := h.lt
  obtain ⟨D, ⟨es, clock, hb, h1⟩, h2⟩ := h
  exact ⟨D, ⟨es, clock, (ho.block b hlt hS).trans hb, h1⟩, h2⟩
theorem MapV.look {t e : TypeId} (h : MapV f P k w b n F) (K : Keyed P k) (ht : P.underlying t = some (.map k e)) {z : Value} (hz : (zeroValue e).run P w = .ok z w) {key : Value} {x : α} (hkey : keyOf P k key = some (f x)) :
    (Instr.lookup t (.map (some b)) key false).run P w = .ok ((F x).getD z) w := by
  obtain ⟨D, h1, _, h3⟩ := h
  obtain ⟨v, ps, hrun, hv⟩ := h1.lookup K ht hz (zd := DataW.held z) (zp := []) rfl hkey
  rw [h3 x] at hv
  rw [hrun]
  cases hF : F x with
  | none =>
    rw [hF] at hv
    simp only [Option.map_none, Option.getD_none, Option.some.injEq, Prod.mk.injEq, DataW.held.injEq] at hv
    rw [hv.1]; rfl
  | some u =>
    rw [hF] at hv
    simp only [Option.map_some, Option.getD_some, Option.some.injEq, Prod.mk.injEq, DataW.held.injEq] at hv
    rw [hv.1]; rfl
theorem MapV.look_ok {t e : TypeId} (h : MapV f P k w b n F) (K : Keyed P k) (ht : P.underlying t = some (.map k e)) {z : Value} (hz : (zeroValue e).run P w = .ok z w) {key : Value} {x : α} (hkey : keyOf P k key = some (f x)) :
    (Instr.lookup t (.map (some b)) key true).run P w = .ok (.tuple #[(F x).getD z, .bool (F x).isSome]) w := by
  obtain ⟨D, h1, _, h3⟩ := h
  obtain ⟨v, ps, hrun, hv⟩ := h1.look_ok K ht hz (zd := DataW.held z) (zp := []) rfl hkey
  rw [h3 x] at hv
  rw [hrun]
  cases hF : F x with
  | none =>
    rw [hF] at hv
    simp only [Option.map_none, Option.getD_none, Option.some.injEq, Prod.mk.injEq, DataW.held.injEq] at hv
    rw [hv.1, has_false_of_atKey (fun z => by rw [h3 x, hF]; rfl)]; rfl
  | some u =>
    rw [hF] at hv
    simp only [Option.map_some, Option.getD_some, Option.some.injEq, Prod.mk.injEq, DataW.held.injEq] at hv
    rw [hv.1, has_true_of_atKey (y := .held u) (fun z => by rw [h3 x, hF]; rfl)]; rfl
theorem MapV.put [DecidableEq α] {t e : TypeId} (h : MapV f P k w b n F) (K : Keyed P k) (ht : P.underlying t = some (.map k e)) (hn : n < maxLen) (hf : ∀ x y, f x = f y → x = y) (hl : ∀ x, WideAt.IsKeyLit (f x)) {key : Value} {x : α} (hkey : keyOf P k key = some (f x)) (v : Value) :
    ∃ w', (Instr.mapUpdate t (.map (some b)) key v).run P w = .ok () w' ∧ MapV f P k w' b (n + 1) (fun y => if y = x then some v else F y) ∧ w.grownBy w' (some b) := by
  obtain ⟨D, h1, h2, h3⟩ := h
  obtain ⟨w', hrun, h4, h5⟩ := h1.update K ht hn hkey (val := v) (d := DataW.held v) (ps := []) rfl
  refine ⟨w', hrun, ⟨_, h4, h2.put _ _, fun y z => ?_⟩, h5⟩
  show _ = (Option.map DataW.held (if y = x then some v else F y)).getD z
  by_cases hxy : y = x
  · subst hxy
    rw [atKey_put_same h2 (hl y), if_pos rfl]
    rfl
  · rw [atKey_put_other (fun e => hxy (hf _ _ e)), h3 y, if_neg hxy]
theorem MapV.drop [DecidableEq α] {t e : TypeId} (h : MapV f P k w b n F) (K : Keyed P k) (ht : P.underlying t = some (.map k e)) (hf : ∀ x y, f x = f y → x = y) {key : Value} {x : α} (hkey : keyOf P k key = some (f x)) (ty : TypeId) :
    ∃ w', (Builtin.delete_ #[t, k] ty #[.map (some b), key]).run P w = .ok (.tuple #[]) w' ∧ MapV f P k w' b n (fun y => if y = x then none else F y) ∧ w.grownBy w' (some b) := by
  obtain ⟨D, h1, h2, h3⟩ := h
  obtain ⟨w', hrun, h4, h5⟩ := h1.drop K ht hkey ty
  refine ⟨w', hrun, ⟨_, h4, h2.del _, fun y z => ?_⟩, h5.grown⟩
  show _ = (Option.map DataW.held (if y = x then none else F y)).getD z
  by_cases hxy : y = x
  · subst hxy
    rw [atKey_del_same, if_pos rfl]
    rfl
  · rw [atKey_del_other (fun e => hxy (hf _ _ e)), h3 y, if_neg hxy]
end
end Go.Proofs.Ytgkckldflfalgaa
