/-
  Lines of the call's own: each line in a block of its own.
-/
import Derived.Test.YtaecgapoaagjfaaSteal2
namespace Go.Proofs.Ytaecgapoaagjfaa
open Go.RowKit

def blkS (A : Option Addr) (b : Nat) : Prop := A.map (·.block) = some b
theorem blkS_lt {w : World} {base e k n c : Nat} {A : Option Addr} {xs : List Value} (ho : OwnAt w base e k A n c xs) {b : Nat} (hb : blkS A b) : base ≤ b ∧ b < w.heap.size := by
  rcases ho.form with ⟨rfl, _⟩ | ⟨g1, o1, rfl⟩
  · cases hb
  · simp [blkS] at hb; subst hb; exact ho.lt
/-- A line of the call's own. -/
structure LineOwn (w : World) (base : Nat) (y : BC) (ys : List Int) : Prop where
  len : y.len = ys.length
  own : OwnAt w base 3 1 y.A ys.length y.cap (ints ys)
  rng : ∀ v ∈ ys, I64 v
  big : ys.length ≤ 17592186044416
theorem LineOwn.below {w w' : World} {base : Nat} {y : BC} {ys : List Int} (h : LineOwn w base y ys) (hb : Below w.heap.size w w') : LineOwn w' base y ys := ⟨h.len, h.own.below hb, h.rng, h.big⟩
theorem LineOwn.only {w w' : World} {base : Nat} {T : Nat → Prop} {y : BC} {ys : List Int} (h : LineOwn w base y ys) (ho : Only T w w') (hT : ∀ b, blkS y.A b → ¬ T b) : LineOwn w' base y ys := ⟨h.len, h.own.only ho hT, h.rng, h.big⟩
theorem LineOwn.lower {w : World} {base base' : Nat} {y : BC} {ys : List Int} (h : LineOwn w base y ys) (hb : base' ≤ base) : LineOwn w base' y ys := ⟨h.len, h.own.lower hb, h.rng, h.big⟩
theorem LineOwn.iin {w : World} {base : Nat} {y : BC} {ys : List Int} (h : LineOwn w base y ys) : IIn w (fun b => blkS y.A b) 0 y ys := by
  refine ⟨h.len, fun hp => ?_, ?_, ?_, ?_, h.rng, h.big⟩
  · obtain ⟨b, o, e, _, hc⟩ := h.own.row hp
    exact ⟨b, o, e, by rw [e]; rfl, hc⟩
  · rw [h.len]
    rcases h.own.2 with ⟨_, h0, h1⟩ | ⟨_, _, _, _, _, _, h3, _⟩
    · omega
    · exact h3
  · rcases h.own.2 with ⟨_, _, h1⟩ | ⟨_, _, _, _, _, _, _, h4, _⟩
    · rw [h1]; exact Nat.zero_le _
    · exact h4
  · intro e
    rcases h.own.form with ⟨_, _, h0⟩ | ⟨g, o, h0⟩
    · exact h0
    · rw [h0] at e; cases e

/-- Lines of the call's own, in blocks of their own. -/
structure OwnLines (w : World) (base : Nat) (A : Option Addr) (c : Nat) (l : List BC) (vs : List (List Int)) : Prop where
  len : l.length = vs.length
  row : OwnAt w base 64 1 A l.length c (flat lnC l)
  each : ∀ i, i < l.length → LineOwn w base (l.getD i bc0) (vs.getD i [])
  off : ∀ i, i < l.length → ∀ b, blkS (l.getD i bc0).A b → ¬ blkS A b
  part : ∀ i j, i < l.length → j < l.length → i ≠ j → ∀ b, blkS (l.getD i bc0).A b → ¬ blkS (l.getD j bc0).A b
section
variable {w w' : World} {base : Nat} {A : Option Addr} {c : Nat} {l : List BC} {vs : List (List Int)}
theorem OwnLines.nil : OwnLines w base none 0 [] [] := ⟨rfl, OwnAt.nil, (fun i hi => absurd hi (by simp)), (fun i hi => absurd hi (by simp)), (fun i j hi => absurd hi (by simp))⟩
theorem OwnLines.below (h : OwnLines w base A c l vs) (hb : Below w.heap.size w w') : OwnLines w' base A c l vs := ⟨h.len, h.row.below hb, fun i hi => (h.each i hi).below hb, h.off, h.part⟩
theorem OwnLines.lnRow (h : OwnLines w base A c l vs) (hm : l.length * 24 ≤ reachBytes) : lnRow w (base ≤ ·) 0 A c l vs := by
  refine ⟨h.len, ?_, fun i hi => (h.each i hi).iin.keep (fun _ _ => rfl) (fun b hb => (blkS_lt (h.each i hi).own hb).1), ?_, ?_, ?_, hm⟩
  · intro hp
    obtain ⟨b, o, e, _, hc⟩ := h.row.row hp
    subst e
    exact ⟨b, o, rfl, h.row.lt.1, hc⟩
  · rcases h.row.2 with ⟨_, h0, h1⟩ | ⟨_, _, _, _, _, _, h3, _⟩
    · omega
    · exact h3
  · rcases h.row.2 with ⟨_, _, h1⟩ | ⟨_, _, _, _, _, _, _, h4, _⟩
    · rw [h1]; exact Nat.zero_le _
    · exact h4
  · intro e
    rcases h.row.form with ⟨_, _, h0⟩ | ⟨g, o, h0⟩
    · exact h0
    · rw [h0] at e; cases e
theorem getD_setS {α : Type} (l : List α) (d : α) (k i : Nat) (x : α) (hk : k < l.length) : (l.set k x).getD i d = if i = k then x else l.getD i d := by
  rw [List.getD_eq_getElem?_getD, List.getElem?_set]
  by_cases e : k = i
  · subst e; rw [if_pos rfl, if_pos hk, if_pos rfl]; rfl
  · rw [if_neg e, if_neg (fun h => e h.symm), List.getD_eq_getElem?_getD]
/-- One line replaced: what turned is its block alone. -/
theorem OwnLines.put {g o : Nat} (h : OwnLines w base (some ⟨g, o, none⟩) c l vs) {q : Nat} (hq : q < l.length) (ho : Only (fun b => blkS (l.getD q bc0).A b) w w') {y : BC} {ys : List Int} (hy : LineOwn w' base y ys) (hyb : ∀ b, blkS y.A b → blkS (l.getD q bc0).A b ∨ w.heap.size ≤ b) :
    OwnLines (w'.setCell ⟨g, o + q, none⟩ (.slice y.A y.len y.cap)) base (some ⟨g, o, none⟩) c (l.set q y) (vs.set q ys) := by
  have hgq : ¬ blkS (l.getD q bc0).A g := fun hb => h.off q hq g hb rfl
  have hglt := h.row.lt
  have hyg : ¬ blkS y.A g := fun hb => by
    rcases hyb g hb with h1 | h1
    · exact hgq h1
    · omega
  have hlen : (l.set q y).length = l.length := List.length_set ..
  have hos : Only (fun b => b = g) w' (w'.setCell ⟨g, o + q, none⟩ (.slice y.A y.len y.cap)) := (Only.refl (fun b => b = g) w').set (p := ⟨g, o + q, none⟩) rfl _
  have hvq : q < vs.length := by rw [← h.len]; exact hq
  refine ⟨by rw [hlen, List.length_set]; exact h.len, ?_, fun i hi => ?_, fun i hi b hb => ?_, fun i j hi hj hne b hb => ?_⟩
  · have h1 : OwnAt w' base 64 1 (some ⟨g, o, none⟩) l.length c (flat lnC l) := h.row.only ho (fun b hb => by simp at hb; subst hb; exact hgq)
    have h2 := h1.set (j := q) (.slice y.A y.len y.cap)
    rw [hlen]
    have h3 := flat_set (j := 0) lnC_len l (.slice y.A y.len y.cap) (getD_some bc0 hq) (by decide) y rfl
    rw [Nat.mul_one, Nat.add_zero] at h3
    rw [← h3]
    exact h2
  · rw [hlen] at hi
    rw [getD_setS l bc0 q i y hq, getD_setS vs [] q i ys hvq]
    by_cases e : i = q
    · rw [if_pos e, if_pos e]
      exact hy.only hos (fun b hb e => by subst e; exact hyg hb)
    · rw [if_neg e, if_neg e]
      exact ((h.each i hi).only ho (fun b hb hb2 => h.part i q hi hq e b hb hb2)).only hos (fun b hb e => by subst e; exact h.off i hi _ hb rfl)
  · rw [hlen] at hi
    rw [getD_setS l bc0 q i y hq] at hb
    by_cases e : i = q
    · rw [if_pos e] at hb
      intro h2
      simp [blkS] at h2
      subst h2
      exact hyg hb
    · rw [if_neg e] at hb
      exact h.off i hi b hb
  · rw [hlen] at hi hj
    rw [getD_setS l bc0 q i y hq] at hb
    rw [getD_setS l bc0 q j y hq]
    by_cases e : i = q
    · rw [if_pos e] at hb
      rw [if_neg (fun e2 => hne (e.trans e2.symm))]
      intro h2
      rcases hyb b hb with h1 | h1
      · exact h.part q j hq hj (fun e2 => hne (e.trans e2)) b h1 h2
      · have := (blkS_lt (h.each j hj).own h2).2
        omega
    · rw [if_neg e] at hb
      by_cases e2 : j = q
      · rw [if_pos e2]
        intro h2
        rcases hyb b h2 with h1 | h1
        · exact h.part i q hi hq e b hb h1
        · have := (blkS_lt (h.each i hi).own hb).2
          omega
      · rw [if_neg e2]
        exact h.part i j hi hj hne b hb
end

theorem cloneI (x : BC) (xs : List Int) (S : Nat → Prop) (w : World) (h : IIn w S 0 x xs) :
    Calls Try.prog 147 #[.slice x.A xs.length x.cap] w fun e w' => ∃ y : BC, e = .returned (.slice y.A xs.length y.cap) ∧ LineOwn w' w.heap.size y xs ∧ Below w.heap.size w w' := by
  refine (clone_any x.A x.cap xs _ w h.row h.2.2.2.2.1 (by have := h.2.2.2.2.2.2; omega)).mono ?_
  rintro e w' ⟨v, rfl, ho, hb⟩
  obtain ⟨A, cap, rfl, ho2⟩ := OwnAt.of_own ho
  exact ⟨⟨A, xs.length, cap⟩, rfl, ⟨rfl, ho2, h.2.2.2.2.2.1, h.2.2.2.2.2.2⟩, hb⟩
end Go.Proofs.Ytaecgapoaagjfaa
