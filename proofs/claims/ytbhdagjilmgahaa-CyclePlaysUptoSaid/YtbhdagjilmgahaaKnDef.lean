
/-
  Levels of a marking: the plain law (cycle.Passes, cycle.Garbage against the reference's Alive).
-/
import Derived.Test.YtbhdagjilmgahaaSortOwnK
namespace Go.Proofs.Ytbhdagjilmgahaa
open Go.RowKit

/-- A record: who, awake, held, and to whom it refers (with the slice's address and capacity). -/
structure KnC where
  ref : Int
  awake : Bool
  root : Bool
  A : Option Addr
  cap : Nat
  refs : List Int
def knc0 : KnC := ⟨0, false, false, none, 0, []⟩
def KnC.live (x : KnC) : Bool := x.root || x.awake

/-! ### lists as sets -/
theorem nodup_len : ∀ (l m : List Int), l.Nodup → (∀ x ∈ l, x ∈ m) → l.length ≤ m.length
  | [], _, _, _ => Nat.zero_le _
  | x :: l, m, h, hs => by
    have hx := hs x (List.mem_cons_self ..)
    rw [List.nodup_cons] at h
    have h1 := nodup_len l (m.erase x) h.2 fun y hy => (List.mem_erase_of_ne (fun e => h.1 (by rw [← e]; exact hy))).2 (hs y (List.mem_cons_of_mem _ hy))
    rw [List.length_erase_of_mem hx] at h1
    have : 0 < m.length := List.length_pos_of_mem hx
    simp only [List.length_cons]
    omega
theorem nodup_perm {l m : List Int} (h1 : l.Nodup) (h2 : m.Nodup) (h : ∀ x, x ∈ l ↔ x ∈ m) : l.Perm m := by
  rw [List.perm_iff_count]
  intro x
  rw [h1.count, h2.count]
  simp only [h x]
theorem le_total_dec (a b : Int) : (decide (a ≤ b) || decide (b ≤ a)) = true := by
  rcases Int.le_total a b with h | h <;> simp [h]
theorem srtI_sorted (l : List Int) : (srtI l).Pairwise (fun a b => a ≤ b) := by
  have h := List.pairwise_mergeSort (le := fun x y : Int => decide (x ≤ y)) (fun a b c h1 h2 => by simp at *; omega) le_total_dec l
  exact h.imp fun h => by simpa using h
theorem srtI_perm (l : List Int) : (srtI l).Perm l := List.mergeSort_perm ..
theorem sorted_unique {l m : List Int} (h : l.Perm m) (h1 : l.Pairwise (fun a b => a ≤ b)) (h2 : m.Pairwise (fun a b => a ≤ b)) : l = m :=
  h.eq_of_pairwise (fun _ _ _ _ h1 h2 => Int.le_antisymm h1 h2) h1 h2
/-- Whatever order, once sorted. -/
theorem srtI_set {l m : List Int} (h1 : l.Nodup) (h2 : m.Nodup) (h : ∀ x, x ∈ l ↔ x ∈ m) : srtI l = srtI m :=
  sorted_unique (((srtI_perm l).trans (nodup_perm h1 h2 h)).trans (srtI_perm m).symm) (srtI_sorted l) (srtI_sorted m)
theorem srtI_nodup {l : List Int} (h : l.Nodup) : (srtI l).Nodup := (srtI_perm l).nodup_iff.2 h

/-! ### the node -/
def ownF (K : List KnC) (r : Int) : Bool := (K.map (·.ref)).contains r
def refsF (K : List KnC) (r : Int) : List Int := ((K.find? fun x => x.ref == r).map (·.refs)).getD []
structure LvS where
  nx : List Int
  told : List Int
  due : List Int
def stepL (K : List KnC) (M : List Int) (s : LvS) (to : Int) : LvS :=
  if ownF K to = false then (if s.told.contains to = true then s else ⟨s.nx, s.told ++ [to], s.due ++ [to]⟩)
  else if M.contains to = true then s else if s.nx.contains to = true then s else ⟨s.nx ++ [to], s.told, s.due⟩
def rowL (K : List KnC) (M : List Int) (s : LvS) (r : Int) : LvS := (refsF K r).foldl (stepL K M) s
/-- A level L, behind whose marking M are marked. -/
def levF (K : List KnC) (M L : List Int) (s : LvS) : LvS := L.foldl (rowL K M) s
def nextF (K : List KnC) (M L : List Int) : List Int := srtI (levF K (M ++ L) L ⟨[], [], []⟩).nx
def passF (K : List KnC) : Nat → List Int → List Int → List (List Int)
  | 0, _, _ => []
  | f + 1, M, L => if L = [] then [] else L :: passF K f (M ++ L) (nextF K M L)
def firstF (K : List KnC) : List Int := (K.filter KnC.live).map (·.ref)

theorem stepL_nx (K : List KnC) (M : List Int) (s s' : LvS) (to : Int) (h : s.nx = s'.nx) : (stepL K M s to).nx = (stepL K M s' to).nx := by
  unfold stepL
  rw [h]
  split
  · split <;> split <;> simp [h]
  · split
    · exact h
    · split
      · exact h
      · rfl
theorem foldL_nx (K : List KnC) (M : List Int) : ∀ (l : List Int) (s s' : LvS), s.nx = s'.nx → (l.foldl (stepL K M) s).nx = (l.foldl (stepL K M) s').nx
  | [], _, _, h => h
  | a :: l, s, s', h => foldL_nx K M l _ _ (stepL_nx K M s s' a h)
theorem levF_nx (K : List KnC) (M : List Int) : ∀ (L : List Int) (s s' : LvS), s.nx = s'.nx → (levF K M L s).nx = (levF K M L s').nx
  | [], _, _, h => h
  | r :: L, s, s', h => levF_nx K M L _ _ (foldL_nx K M (refsF K r) s s' h)
theorem step_mem (K : List KnC) (M : List Int) (s : LvS) (to y : Int) : y ∈ (stepL K M s to).nx ↔ y ∈ s.nx ∨ (y = to ∧ ownF K to = true ∧ to ∉ M) := by
  unfold stepL
  by_cases h1 : ownF K to = false
  · rw [if_pos h1]
    have : ¬ (y = to ∧ ownF K to = true ∧ to ∉ M) := fun h => by rw [h1] at h; exact absurd h.2.1 (by simp)
    split <;> simp [this]
  · rw [if_neg h1]
    have h1' : ownF K to = true := by simpa using h1
    by_cases h2 : M.contains to = true
    · rw [if_pos h2]
      have h2' : to ∈ M := by simpa using h2
      simp [h2']
    · rw [if_neg h2]
      have h2' : to ∉ M := by simpa using h2
      by_cases h3 : s.nx.contains to = true
      · rw [if_pos h3]
        have h3' : to ∈ s.nx := by simpa using h3
        constructor
        · exact .inl
        · rintro (h | ⟨rfl, _⟩)
          · exact h
          · exact h3'
      · rw [if_neg h3]
        simp [h1', h2']
theorem step_nodup (K : List KnC) (M : List Int) (s : LvS) (to : Int) (h : s.nx.Nodup) : (stepL K M s to).nx.Nodup := by
  unfold stepL
  split
  · split <;> exact h
  · split
    · exact h
    · split
      · exact h
      · rename_i h3
        have h3' : to ∉ s.nx := by simpa using h3
        rw [List.nodup_append]
        refine ⟨h, by simp, fun a ha b hb e => ?_⟩
        rw [List.mem_singleton] at hb
        subst hb e
        exact h3' ha
theorem fold_mem (K : List KnC) (M : List Int) : ∀ (l : List Int) (s : LvS) (y : Int), y ∈ (l.foldl (stepL K M) s).nx ↔ y ∈ s.nx ∨ (y ∈ l ∧ ownF K y = true ∧ y ∉ M)
  | [], s, y => by simp
  | a :: l, s, y => by
    rw [List.foldl_cons, fold_mem K M l, step_mem]
    constructor
    · rintro ((h | ⟨rfl, h⟩) | ⟨h1, h2⟩)
      · exact .inl h
      · exact .inr ⟨List.mem_cons_self .., h⟩
      · exact .inr ⟨List.mem_cons_of_mem _ h1, h2⟩
    · rintro (h | ⟨h1, h2⟩)
      · exact .inl (.inl h)
      · rcases List.mem_cons.1 h1 with rfl | h1
        · exact .inl (.inr ⟨rfl, h2⟩)
        · exact .inr ⟨h1, h2⟩
theorem fold_nodup (K : List KnC) (M : List Int) : ∀ (l : List Int) (s : LvS), s.nx.Nodup → (l.foldl (stepL K M) s).nx.Nodup
  | [], _, h => h
  | a :: l, s, h => fold_nodup K M l _ (step_nodup K M s a h)
theorem lev_mem (K : List KnC) (M : List Int) : ∀ (L : List Int) (s : LvS) (y : Int), y ∈ (levF K M L s).nx ↔ y ∈ s.nx ∨ ((∃ r ∈ L, y ∈ refsF K r) ∧ ownF K y = true ∧ y ∉ M)
  | [], s, y => by simp [levF]
  | r :: L, s, y => by
    show y ∈ (levF K M L (rowL K M s r)).nx ↔ _
    rw [lev_mem K M L]
    unfold rowL
    rw [fold_mem]
    constructor
    · rintro ((h | ⟨h1, h2⟩) | ⟨⟨r', h1, h3⟩, h2⟩)
      · exact .inl h
      · exact .inr ⟨⟨r, List.mem_cons_self .., h1⟩, h2⟩
      · exact .inr ⟨⟨r', List.mem_cons_of_mem _ h1, h3⟩, h2⟩
    · rintro (h | ⟨⟨r', h1, h3⟩, h2⟩)
      · exact .inl (.inl h)
      · rcases List.mem_cons.1 h1 with rfl | h1
        · exact .inl (.inr ⟨h3, h2⟩)
        · exact .inr ⟨⟨r', h1, h3⟩, h2⟩
theorem lev_nodup (K : List KnC) (M : List Int) : ∀ (L : List Int) (s : LvS), s.nx.Nodup → (levF K M L s).nx.Nodup
  | [], _, h => h
  | _ :: L, s, h => lev_nodup K M L _ (fold_nodup K M _ s h)
theorem next_mem (K : List KnC) (M L : List Int) (y : Int) : y ∈ nextF K M L ↔ (∃ r ∈ L, y ∈ refsF K r) ∧ ownF K y = true ∧ y ∉ M ++ L := by
  unfold nextF
  rw [srtI_mem, lev_mem]
  simp
theorem next_nodup (K : List KnC) (M L : List Int) : (nextF K M L).Nodup := srtI_nodup (lev_nodup K _ L _ (by simp))

/-! ### the reference -/
def setK (K : List KnC) (d : Int) (i : Nat) (out : List Int) (k : Nat) : List Int :=
  if out.getD k 0 < 0 ∧ (K.getD i knc0).refs.contains (K.getD k knc0).ref = true then out.set k (d + 1) else out
def rowK (K : List KnC) (d : Int) (out : List Int) (i : Nat) : List Int :=
  if out.getD i 0 = d then (List.range K.length).foldl (setK K d i) out else out
def passK (K : List KnC) (out : List Int) (d : Nat) : List Int := (List.range K.length).foldl (rowK K d) out
def startK (K : List KnC) : List Int := K.map fun x => if x.live = true then 0 else -1
def aliveF (K : List KnC) : List Int := (List.range K.length).foldl (passK K) (startK K)
end Go.Proofs.Ytbhdagjilmgahaa
