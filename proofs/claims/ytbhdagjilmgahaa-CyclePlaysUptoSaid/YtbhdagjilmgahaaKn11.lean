
/-
  Rows of the call's own in a row of the call's own, beside a list.
-/
import Derived.Test.YtbhdagjilmgahaaKn10
namespace Go.Proofs.Ytbhdagjilmgahaa
open Go.RowKit

theorem ty_ne {w : World} {b1 b2 s1 s2 n1 n2 c1 c2 : Nat} {e1 e2 : TypeId} {A1 A2 : Option Addr} {x1 x2 : List Value} (h1 : OwnAt w b1 e1 s1 A1 n1 c1 x1) (h2 : OwnAt w b2 e2 s2 A2 n2 c2 x2) (hne : e1 ≠ e2) : ∀ b, A1.map (·.block) = some b → A2.map (·.block) ≠ some b := fun b hb1 hb2 => by
  rcases h1.2 with ⟨rfl, _⟩ | ⟨g, o, cur, rfl, _, hh, _⟩
  · cases hb1
  · rcases h2.2 with ⟨rfl, _⟩ | ⟨g', o', cur', rfl, _, hh', _⟩
    · cases hb2
    · simp at hb1 hb2
      subst hb1 hb2
      rw [hh] at hh'
      injection hh' with hh'
      injection hh' with _ h3
      exact hne h3
structure PsSt (w : World) (base : Nat) (Ao : Option Addr) (co : Nat) (l : List SlZ) (P : List (List Int)) (Ad : Option Addr) (cd : Nat) (dead : List Int) : Prop where
  out : OwnAt w base 23 1 Ao l.length co (flat slZ l)
  len : l.length = P.length
  row : ∀ i, i < l.length → OwnAt w base 3 1 (l.getD i slz0).A (P.getD i []).length (l.getD i slz0).cap (ints (P.getD i [])) ∧ (l.getD i slz0).len = (P.getD i []).length
  ap : ∀ i j b, i < l.length → j < l.length → i ≠ j → (l.getD i slz0).A.map (·.block) = some b → (l.getD j slz0).A.map (·.block) ≠ some b
  dd : OwnAt w base 3 1 Ad dead.length cd (ints dead)
  ad : ∀ i b, i < l.length → (l.getD i slz0).A.map (·.block) = some b → Ad.map (·.block) ≠ some b
section
variable {w w' : World} {base : Nat} {Ao : Option Addr} {co : Nat} {l : List SlZ} {P : List (List Int)} {Ad : Option Addr} {cd : Nat} {dead : List Int}
theorem PsSt.nil : PsSt w base none 0 [] [] none 0 [] :=
  ⟨OwnAt.nil, rfl, (fun i hi => absurd hi (by simp)), (fun i j b hi => absurd hi (by simp)), OwnAt.nil, fun i b hi => absurd hi (by simp)⟩
theorem PsSt.below (h : PsSt w base Ao co l P Ad cd dead) (hb : Below w.heap.size w w') : PsSt w' base Ao co l P Ad cd dead :=
  ⟨h.out.below hb, h.len, fun i hi => ⟨(h.row i hi).1.below hb, (h.row i hi).2⟩, h.ap, h.dd.below hb, h.ad⟩
theorem own_blkK {e : TypeId} {m c s : Nat} {A : Option Addr} {xs : List Value} (h : OwnAt w base e s A m c xs) {b : Nat} (hb : A.map (·.block) = some b) : base ≤ b ∧ b < w.heap.size := by
  rcases h.form with ⟨rfl, _⟩ | ⟨g', o, rfl⟩
  · cases hb
  · have := h.lt
    simp at hb
    omega
theorem int_ne : 3 ≠ 23 := by decide
theorem only_grownK {row : Option Nat} (hg : w.grownBy w' row) : Only (fun b => row = some b) w w' := ⟨hg.os, hg.tape, hg.output, hg.size, fun i hi hne => hg.block i hi (fun e => hne e.symm)⟩
/-- The list grown. -/
theorem PsSt.deadG (h : PsSt w base Ao co l P Ad cd dead) {A' : Option Addr} {c' : Nat} {dead' : List Int} (hg : w.grownBy w' (Ad.map (·.block))) (hown : OwnAt w' base 3 1 A' dead'.length c' (ints dead')) (hA : ∀ g, A'.map (·.block) = some g → Ad.map (·.block) = some g ∨ w.heap.size ≤ g) : PsSt w' base Ao co l P A' c' dead' := by
  have ho := only_grownK hg
  refine ⟨h.out.only ho (fun b hb e => ty_ne h.dd h.out int_ne b e hb), h.len, fun i hi => ⟨(h.row i hi).1.only ho (fun b hb e => h.ad i b hi hb e), (h.row i hi).2⟩, h.ap, hown, fun i b hi hb e => ?_⟩
  rcases hA b e with e | e
  · exact h.ad i b hi hb e
  · have := (own_blkK (h.row i hi).1 hb).2; omega
/-- One more row, empty. -/
theorem PsSt.grow (h : PsSt w base Ao co l P Ad cd dead) {A' : Option Addr} {c' : Nat} (hg : w.grownBy w' (Ao.map (·.block))) (hown : OwnAt w' base 23 1 A' (l.length + 1) c' (flat slZ l ++ [.slice none 0 0])) : PsSt w' base A' c' (l ++ [slz0]) (P ++ [[]]) Ad cd dead := by
  have ho := only_grownK hg
  have hl := h.len
  have hget : ∀ i, i < l.length → (l ++ [slz0]).getD i slz0 = l.getD i slz0 := fun i hi => by simp only [List.getD_eq_getElem?_getD]; rw [List.getElem?_append_left hi]
  have hgeP : ∀ i, i < l.length → (P ++ [[]]).getD i [] = P.getD i [] := fun i hi => by simp only [List.getD_eq_getElem?_getD]; rw [List.getElem?_append_left (by omega)]
  have hlast : (l ++ [slz0]).getD l.length slz0 = slz0 := by simp [List.getD_eq_getElem?_getD]
  have hlasP : (P ++ [[]]).getD l.length [] = [] := by rw [hl]; simp [List.getD_eq_getElem?_getD]
  have hnone : ∀ b, slz0.A.map (·.block) ≠ some b := fun b e => by cases e
  refine ⟨?_, by simp [hl], fun i hi => ?_, fun i j b hi hj hne hb => ?_, h.dd.only ho (fun b hb e => ty_ne h.dd h.out int_ne b hb e), fun i b hi hb => ?_⟩
  · rw [List.length_append, flat_append, flat_one]
    exact hown
  · simp only [List.length_append, List.length_singleton] at hi
    rcases Nat.lt_or_ge i l.length with h1 | h1
    · rw [hget i h1, hgeP i h1]
      exact ⟨(h.row i h1).1.only ho (fun b hb e => ty_ne (h.row i h1).1 h.out int_ne b hb e), (h.row i h1).2⟩
    · obtain rfl : i = l.length := by omega
      rw [hlast, hlasP]
      exact ⟨OwnAt.nil, rfl⟩
  · simp only [List.length_append, List.length_singleton] at hi hj
    rcases Nat.lt_or_ge i l.length with h1 | h1
    · rw [hget i h1] at hb
      rcases Nat.lt_or_ge j l.length with h2 | h2
      · rw [hget j h2]; exact h.ap i j b h1 h2 hne hb
      · obtain rfl : j = l.length := by omega
        rw [hlast]; exact hnone b
    · obtain rfl : i = l.length := by omega
      rw [hlast] at hb
      exact absurd hb (hnone b)
  · simp only [List.length_append, List.length_singleton] at hi
    rcases Nat.lt_or_ge i l.length with h1 | h1
    · rw [hget i h1] at hb; exact h.ad i b h1 hb
    · obtain rfl : i = l.length := by omega
      rw [hlast] at hb
      exact absurd hb (hnone b)
theorem getD_setZ {α : Type} (l : List α) (d : α) (i j : Nat) (v : α) (hi : i < l.length) : (l.set i v).getD j d = if j = i then v else l.getD j d := by
  simp only [List.getD_eq_getElem?_getD, List.getElem?_set]
  by_cases h : i = j
  · subst h
    rw [if_pos rfl, if_pos hi, if_pos rfl]
    rfl
  · rw [if_neg h, if_neg (fun e => h e.symm)]
/-- A row grown, and stored. -/
theorem PsSt.put (h : PsSt w base Ao co l P Ad cd dead) {i : Nat} (hi : i < l.length) {A' : Option Addr} {c' : Nat} {q : List Int} {g o : Nat} (hAo : Ao = some ⟨g, o, none⟩) (hg : w.grownBy w' ((l.getD i slz0).A.map (·.block))) (hown : OwnAt w' base 3 1 A' q.length c' (ints q))
    (hA : ∀ g, A'.map (·.block) = some g → (l.getD i slz0).A.map (·.block) = some g ∨ w.heap.size ≤ g) : PsSt (w'.setCell ⟨g, o + i, none⟩ (.slice A' q.length c')) base Ao co (l.set i ⟨A', q.length, c'⟩) (P.set i q) Ad cd dead := by
  subst hAo
  have ho := only_grownK hg
  have hl := h.len
  have hout1 := h.out.only ho (fun b hb e => ty_ne (h.row i hi).1 h.out int_ne b e hb)
  have hout := hout1.set (j := i) (.slice A' q.length c')
  have hog : Only (fun b => b = g) w' (w'.setCell ⟨g, o + i, none⟩ (.slice A' q.length c')) := Only.set (S := fun b => b = g) (Only.refl _ w') (p := ⟨g, o + i, none⟩) rfl _
  have hnew : ∀ b, A'.map (·.block) = some b → b ≠ g := fun b hb e => by
    subst e
    exact ty_ne hown hout1 int_ne b hb rfl
  have hrg : ∀ j b, j < l.length → (l.getD j slz0).A.map (·.block) = some b → b ≠ g := fun j b hj hb e => by
    subst e
    exact ty_ne (h.row j hj).1 h.out int_ne b hb rfl
  have hdg : ∀ b, Ad.map (·.block) = some b → b ≠ g := fun b hb e => by
    subst e
    exact ty_ne h.dd h.out int_ne b hb rfl
  refine ⟨?_, by simp [hl], fun j hj => ?_, fun j k b hj hk hne hb => ?_, (h.dd.only ho (fun b hb e => h.ad i b hi e hb)).only hog (fun b hb e => hdg b hb e), fun j b hj hb e => ?_⟩
  · rw [List.length_set]
    have e : flat slZ (l.set i ⟨A', q.length, c'⟩) = (flat slZ l).set i (.slice A' q.length c') := by
      have hx : l[i]? = some (l.getD i slz0) := getD_some slz0 hi
      have := flat_set slZ_len l (i := i) (j := 0) (.slice A' q.length c') hx (by decide) ⟨A', q.length, c'⟩ rfl
      rw [Nat.mul_one, Nat.add_zero] at this
      exact this.symm
    rw [e]
    exact hout
  · rw [List.length_set] at hj
    rw [getD_setZ l slz0 i j _ hi, getD_setZ P [] i j _ (by omega)]
    by_cases e : j = i
    · rw [if_pos e, if_pos e]
      exact ⟨hown.only hog (fun b hb e => hnew b hb e), rfl⟩
    · rw [if_neg e, if_neg e]
      exact ⟨((h.row j hj).1.only ho (fun b hb e2 => h.ap j i b hj hi e hb e2)).only hog (fun b hb e2 => hrg j b hj hb e2), (h.row j hj).2⟩
  · rw [List.length_set] at hj hk
    rw [getD_setZ l slz0 i j _ hi] at hb
    rw [getD_setZ l slz0 i k _ hi]
    by_cases e : j = i
    · rw [if_pos e] at hb
      rw [if_neg (fun e2 => hne (by rw [e, e2]))]
      rcases hA b hb with h1 | h1
      · exact h.ap i k b hi hk (fun e2 => hne (by rw [e, e2])) h1
      · intro e3
        have := (own_blkK (h.row k hk).1 e3).2
        omega
    · rw [if_neg e] at hb
      by_cases e2 : k = i
      · rw [if_pos e2]
        intro e3
        rcases hA b e3 with h1 | h1
        · exact h.ap j i b hj hi e hb h1
        · have := (own_blkK (h.row j hj).1 hb).2
          omega
      · rw [if_neg e2]
        exact h.ap j k b hj hk hne hb
  · rw [List.length_set] at hj
    rw [getD_setZ l slz0 i j _ hi] at hb
    by_cases e2 : j = i
    · rw [if_pos e2] at hb
      rcases hA b hb with h1 | h1
      · exact h.ad i b hi h1 e
      · have := (own_blkK h.dd e).2
        omega
    · rw [if_neg e2] at hb
      exact h.ad j b hj hb e
/-- A row sorted as it lies. -/
theorem PsSt.sorted (h : PsSt w base Ao co l P Ad cd dead) {i : Nat} (hi : i < l.length) (ho : Only (fun b => (l.getD i slz0).A.map (·.block) = some b) w w') (hown : OwnAt w' base 3 1 (l.getD i slz0).A (P.getD i []).length (l.getD i slz0).cap (ints (srtI (P.getD i [])))) : PsSt w' base Ao co l (P.set i (srtI (P.getD i []))) Ad cd dead := by
  have hl := h.len
  refine ⟨h.out.only ho (fun b hb e => ty_ne (h.row i hi).1 h.out int_ne b e hb), by simp [hl], fun j hj => ?_, h.ap, h.dd.only ho (fun b hb e => h.ad i b hi e hb), h.ad⟩
  rw [getD_setZ P [] i j _ (by omega)]
  by_cases e : j = i
  · subst e
    rw [if_pos rfl, srtI_len]
    exact ⟨hown, (h.row j hj).2⟩
  · rw [if_neg e]
    exact ⟨(h.row j hj).1.only ho (fun b hb e2 => h.ap j i b hj hi e hb e2), (h.row j hj).2⟩
end
end Go.Proofs.Ytbhdagjilmgahaa
