
/-
  A map of bools that the call made: a set of keys.
-/
import Derived.Test.YtgkckldflfalgaaOnly
import Derived.Maps.OwnOps
import Derived.Maps.OwnSet
import Derived.Maps.Views
import Derived.StringKeys
namespace Go.Proofs.Ytgkckldflfalgaa
open Go.RowKit Go.Maps

/-- Block b is a map with bools in it; true for just the keys listed. -/
def SetB {α : Type} [BEq α] (f : α → Lit) (P : Program) (k e : TypeId) (w : World) (b n : Nat) (keys : List α) : Prop :=
  ∃ D : DataW Unit, w.ownsMap P k (plainElem P e) b n D ∧ IsMap D ∧ ∀ x : α, D.atKey (f x) (.lit (.bool false)) = .lit (.bool (keys.contains x))

section
variable {α : Type} [BEq α] [LawfulBEq α] {f : α → Lit} {P : Program} {k e : TypeId} {w w' : World} {b n : Nat} {keys : List α}
omit [LawfulBEq α] in
theorem SetB.made (w : World) : SetB f P k e (w.alloc (.map #[] 0)) w.heap.size 0 [] :=
  ⟨.map [], World.ownsMap_made w P k _, isMap_empty, fun _ => rfl⟩
omit [LawfulBEq α] in
theorem SetB.lt (h : SetB f P k e w b n keys) : b < w.heap.size := by
  obtain ⟨D, h, _⟩ := h
  exact h.lt
omit [LawfulBEq α] in
theorem SetB.kept {row : Option Nat} (h : SetB f P k e w b n keys) (hg : w.grownBy w' row) (hne : some b ≠ row) : SetB f P k e w' b n keys := by
  obtain ⟨D, h1, h2⟩ := h
  exact ⟨D, h1.kept hg hne, h2⟩
omit [LawfulBEq α] in
theorem SetB.alloc (h : SetB f P k e w b n keys) (o : Obj) : SetB f P k e (w.alloc o) b n keys := by
  obtain ⟨D, h1, h2⟩ := h
  exact ⟨D, h1.alloc o, h2⟩
omit [LawfulBEq α] in
theorem SetB.drewN (h : SetB f P k e w b n keys) (m : Nat) : SetB f P k e (w.drewN m) b n keys := h
omit [LawfulBEq α] in
theorem SetB.under (h : SetB f P k e w b n keys) (hb : Below w.heap.size w w') : SetB f P k e w' b n keys :=
  h.kept (row := none) ⟨hb.os, hb.tape, hb.output, hb.size, fun i hi _ => hb.block i hi⟩ (by simp)
omit [LawfulBEq α] in
theorem SetB.look {t : TypeId} (h : SetB f P k e w b n keys) (K : Keyed P k) (ht : P.underlying t = some (.map k e)) (he : P.underlying e = some .bool) (hz : (zeroValue e).run P w = .ok (.bool false) w) {key : Value} {x : α} (hkey : keyOf P k key = some (f x)) :
    (Instr.lookup t (.map (some b)) key false).run P w = .ok (.bool (keys.contains x)) w := by
  obtain ⟨D, h1, _, h3⟩ := h
  obtain ⟨v, ps, hrun, hv⟩ := h1.lookup K ht hz (plainElem_bool he false) hkey
  rw [h3 x] at hv
  have : v = .bool (keys.contains x) := by
    unfold plainElem at hv
    rw [he] at hv
    cases v <;> simp at hv
    rw [hv.1]
  rw [hrun, this]
theorem SetB.put {t : TypeId} (h : SetB f P k e w b n keys) (K : Keyed P k) (ht : P.underlying t = some (.map k e)) (he : P.underlying e = some .bool) (hn : n < maxLen) (hf : ∀ x y, f x = f y → x = y) (hl : ∀ x, WideAt.IsKeyLit (f x)) {key : Value} {x : α} (hkey : keyOf P k key = some (f x)) :
    ∃ w', (Instr.mapUpdate t (.map (some b)) key (.bool true)).run P w = .ok () w' ∧ SetB f P k e w' b (n + 1) (keys ++ [x]) ∧ w.grownBy w' (some b) := by
  obtain ⟨D, h1, h2, h3⟩ := h
  obtain ⟨w', hrun, h4, h5⟩ := h1.update K ht hn hkey (plainElem_bool he true)
  refine ⟨w', hrun, ⟨_, h4, h2.put _ _, fun y => ?_⟩, h5⟩
  by_cases hxy : y = x
  · subst hxy
    rw [atKey_put_same h2 (hl y)]
    simp
  · rw [atKey_put_other (fun e => hxy (hf _ _ e)), h3 y]
    simp [hxy]
end
end Go.Proofs.Ytgkckldflfalgaa
