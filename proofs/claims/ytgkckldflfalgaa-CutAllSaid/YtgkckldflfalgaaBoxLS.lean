
/-
  A whole struct loaded out of its block, and stored into it.
-/
import Derived.Test.YtgkckldflfalgaaOwnOnly
import Derived.Deep.MidRow
import Derived.Lib.Hide
namespace Go.Proofs.Ytgkckldflfalgaa
open Go.RowKit

theorem boxThere {w : World} {g : Nat} {t : TypeId} {cs : Array Value} (hb : Box w g t cs) : w.there g 0 cs.size := fun j hj => by
  refine ⟨?_, hb.frozen _⟩
  rw [hb.cell, Nat.zero_add, Array.getElem?_eq_getElem hj]
  rfl
theorem boxRange {w : World} {g : Nat} {t : TypeId} {cs : Array Value} (hb : Box w g t cs) : w.rangeAt g 0 cs.toList := fun j v hv => by
  rw [hb.cell, Nat.zero_add]
  simpa using hv
theorem boxSets {g : Nat} {t : TypeId} : ∀ (vs : List Value) (o : Nat) (w : World) (cs : Array Value), Box w g t cs → o + vs.length ≤ cs.size →
    ∃ cs' : Array Value, Box (w.setCells g o vs) g t cs' ∧ cs'.size = cs.size ∧ (∀ j, j < o → cs'[j]? = cs[j]?) ∧ (∀ j, j < vs.length → cs'[o + j]? = vs[j]?)
  | [], o, w, cs, h, _ => ⟨cs, h, rfl, fun _ _ => rfl, fun j hj => absurd hj (by simp)⟩
  | v :: r, o, w, cs, h, hl => by
    simp only [List.length_cons] at hl
    obtain ⟨cs', h1, h2, h3, h4⟩ := boxSets r (o + 1) (w.setCell ⟨g, o, none⟩ v) (cs.setIfInBounds o v) (h.set o v) (by simp; omega)
    refine ⟨cs', h1, by rw [h2]; simp, fun j hj => ?_, fun j hj => ?_⟩
    · rw [h3 j (by omega), Array.getElem?_setIfInBounds]
      rw [if_neg (by omega)]
    · match j, hj with
      | 0, _ =>
        rw [Nat.add_zero, h3 o (by omega), Array.getElem?_setIfInBounds, if_pos rfl, if_pos (by omega)]
        rfl
      | j + 1, hj =>
        have := h4 j (by simpa using hj)
        rw [show o + (j + 1) = o + 1 + j by omega, this]
        rfl
theorem boxSetAll {w : World} {g : Nat} {t : TypeId} {cs : Array Value} (h : Box w g t cs) (vs : List Value) (hl : vs.length = cs.size) : Box (w.setCells g 0 vs) g t vs.toArray := by
  obtain ⟨cs', h1, h2, _, h4⟩ := boxSets vs 0 w cs h (by omega)
  have e : cs' = vs.toArray := by
    apply Array.ext_getElem?
    intro j
    by_cases hj : j < vs.length
    · have := h4 j hj
      rw [Nat.zero_add] at this
      rw [this, List.getElem?_toArray]
    · rw [Array.getElem?_eq_none (by omega), List.getElem?_toArray, List.getElem?_eq_none (by omega)]
  rw [e] at h1
  exact h1
theorem sizeSets {g : Nat} : ∀ (vs : List Value) (o : Nat) (w : World), (w.setCells g o vs).heap.size = w.heap.size
  | [], _, _ => rfl
  | v :: r, o, w => (sizeSets r (o + 1) (w.setCell ⟨g, o, none⟩ v)).trans (by simp [World.setCell])
theorem onlySets {S : Nat → Prop} {a : World} {g : Nat} (hg : S g) : ∀ (vs : List Value) (o : Nat) (w : World), Only S a w → Only S a (w.setCells g o vs)
  | [], _, _, h => h
  | v :: r, o, w, h => by
    rw [World.setCells]
    exact onlySets hg r (o + 1) _ (h.set (p := ⟨g, o, none⟩) hg v)

/-- What a store leaves: the block holds the new cells, no other block turned. -/
structure Stored (w w' : World) (g : Nat) (t : TypeId) (cs : Array Value) : Prop where
  box : Box w' g t cs
  only : Only (fun b => b = g) w w'
  size : w'.heap.size = w.heap.size

section
variable {P : Program}
theorem wpList_load_box {ops : Array Oper} {rest : List Oper} {op : Oper} {a : Act} {w : World} {Q : Exit → Act → World → Prop} (hgd : op.guard = none) (ty : TypeId) (x : Operand) (ho : op.op = .load ty x)
    (g : Nat) (hx : a.eval x = .pointer (some ⟨g, 0, none⟩)) (cs : Array Value) (d : TypeDesc) (hb : Hid (Box w g ty cs)) (hu : P.underlying ty = some d) (hd : d.isRow = true) (hi : (P.info? ty).map (·.size) = some cs.size)
    (h : wpList P ops Q rest (a.put op.dst (.agg cs)) w) : wpList P ops Q (op :: rest) a w := by
  refine wpList_load_mid hgd ty x ho g 0 hx cs.toList d (boxRange hb.out) hu hd (by simpa using hi) ?_
  simpa using h
theorem wpList_store_box {ops : Array Oper} {rest : List Oper} {op : Oper} {a : Act} {w : World} {Q : Exit → Act → World → Prop} (hgd : op.guard = none) (ty : TypeId) (x y : Operand) (ho : op.op = .store ty x y)
    (g : Nat) (hx : a.eval x = .pointer (some ⟨g, 0, none⟩)) (old cs : Array Value) (hy : a.eval y = .agg cs) (hb : Hid (Box w g ty old)) (hl : old.size = cs.size) (hi : (P.info? ty).map (·.size) = some cs.size) (h1 : cs.all (·.oneCell') = true)
    (h : ∀ w', Hid (Stored w w' g ty cs) → wpList P ops Q rest (a.put op.dst undef) w') : wpList P ops Q (op :: rest) a w := by
  refine wpList_store_mid hgd ty x y ho g 0 cs hx hy (by have := boxThere hb.out; rw [hl] at this; exact this) hi h1 ?_
  refine h _ ⟨?_, onlySets (S := fun b => b = g) rfl _ _ _ (Only.refl _ _), sizeSets _ _ _⟩
  have := boxSetAll hb.out cs.toList (by simpa using hl.symm)
  simpa using this
theorem run_load_box {w : World} {g : Nat} {ty : TypeId} {cs : Array Value} {d : TypeDesc} (hb : Box w g ty cs) (hu : P.underlying ty = some d) (hd : d.isRow = true) (hi : (P.info? ty).map (·.size) = some cs.size) :
    (loadVar ty ⟨g, 0, none⟩).run P w = .ok (.agg cs) w := by
  have := run_loadVar_mid (P := P) w g 0 ty cs.toList d (boxRange hb) hu hd (by simpa using hi)
  simpa using this
theorem res_c1_t2 {fn : Func} {tmps : Array Value} {w : World} {a b c : Tmp} {t : TypeId} {p : Addr} {v u z : Value} (hf : fn.results = #[.cell a t, .tmp b, .tmp c]) (ha : tmps.getD a undef = .pointer (some p)) (hl : (loadVar t p).run P w = .ok v w) (hb : tmps.getD b undef = u) (hc : tmps.getD c undef = z) :
    (results fn tmps).run P w = .ok (.tuple #[v, u, z]) w := by
  have ha' : tmps[a]?.getD undef = .pointer (some p) := by simpa using ha
  have hb' : tmps[b]?.getD undef = u := by simpa using hb
  have hc' : tmps[c]?.getD undef = z := by simpa using hc
  simp [results, hf, ha', hb', hc', asAddr, hl]
theorem res_c2_t1 {fn : Func} {tmps : Array Value} {w : World} {a b c : Tmp} {t t' : TypeId} {p q : Addr} {v u z : Value} (hf : fn.results = #[.cell a t, .cell b t', .tmp c]) (ha : tmps.getD a undef = .pointer (some p)) (hl : (loadVar t p).run P w = .ok v w) (hb : tmps.getD b undef = .pointer (some q)) (hl' : (loadVar t' q).run P w = .ok u w) (hc : tmps.getD c undef = z) :
    (results fn tmps).run P w = .ok (.tuple #[v, u, z]) w := by
  have ha' : tmps[a]?.getD undef = .pointer (some p) := by simpa using ha
  have hb' : tmps[b]?.getD undef = .pointer (some q) := by simpa using hb
  have hc' : tmps[c]?.getD undef = z := by simpa using hc
  simp [results, hf, ha', hb', hc', asAddr, hl, hl']
theorem res_c2 {fn : Func} {tmps : Array Value} {w : World} {a b : Tmp} {t t' : TypeId} {p q : Addr} {v u : Value} (hf : fn.results = #[.cell a t, .cell b t']) (ha : tmps.getD a undef = .pointer (some p)) (hl : (loadVar t p).run P w = .ok v w) (hb : tmps.getD b undef = .pointer (some q)) (hl' : (loadVar t' q).run P w = .ok u w) :
    (results fn tmps).run P w = .ok (.tuple #[v, u]) w := by
  have ha' : tmps[a]?.getD undef = .pointer (some p) := by simpa using ha
  have hb' : tmps[b]?.getD undef = .pointer (some q) := by simpa using hb
  simp [results, hf, ha', hb', asAddr, hl, hl']
end
/-- Two slices of elements of two types lie in two blocks. -/
theorem own_apart {w : World} {base base' : Nat} {e e' : TypeId} {size size' n n' cap cap' : Nat} {A A' : Option Addr} {xs xs' : List Value} (h : OwnAt w base e size A n cap xs) (h' : OwnAt w base' e' size' A' n' cap' xs') (hne : e ≠ e') :
    ∀ b, A.map (·.block) = some b → ¬ A'.map (·.block) = some b := by
  intro b hb hb'
  rcases h.2 with ⟨rfl, _⟩ | ⟨g, o, cur, rfl, _, hh, _⟩
  · cases hb
  · rcases h'.2 with ⟨rfl, _⟩ | ⟨g', o', cur', rfl, _, hh', _⟩
    · cases hb'
    · injection hb with hb
      injection hb' with hb'
      have e1 : g' = g := hb'.trans hb.symm
      subst e1
      rw [hh] at hh'
      injection hh' with hh'
      injection hh' with _ ht
      exact hne ht
end Go.Proofs.Ytgkckldflfalgaa
