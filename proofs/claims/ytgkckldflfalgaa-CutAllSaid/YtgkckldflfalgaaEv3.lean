
/-
  Histories: what came ahead of what (roadref4.Past).
-/
import Derived.Test.YtgkckldflfalgaaEv1
import Derived.Test.YtgkckldflfalgaaBMat
import Derived.Deep.RegionLaw
import Derived.Deep.DeepCutAuto
import Derived.Deep.CutBlock
import Derived.RegionTactic
import Derived.BigRegion
import Derived.Outline
namespace Go.Proofs.Ytgkckldflfalgaa
open Go.RowKit

open Classical in
/-- Is j ahead of i? -/
noncomputable def befB (l : List Ev) (i j : Nat) : Bool := decide (Bef l i j)
open Classical in
/-- .. as far as the steps from m on tell. -/
noncomputable def curB (l : List Ev) (i m j : Nat) : Bool := decide (∃ k, m ≤ k ∧ k < i ∧ dirB (evAt l k) (evAt l i) = true ∧ Upto l k j)
open Classical in
theorem curB_top (l : List Ev) (i j : Nat) : curB l i i j = false := by
  unfold curB
  exact decide_eq_false fun ⟨k, h1, h2, _⟩ => by omega
theorem curB_zero (l : List Ev) (i j : Nat) : curB l i 0 j = befB l i j := by
  unfold curB befB
  congr 1
  rw [bef_iff, eq_iff_iff]
  exact ⟨fun ⟨k, _, h2, h3, h4⟩ => ⟨k, h2, h3, h4⟩, fun ⟨k, h2, h3, h4⟩ => ⟨k, Nat.zero_le _, h2, h3, h4⟩⟩
theorem curB_no {l : List Ev} {i m : Nat} (j : Nat) (hd : dirB (evAt l m) (evAt l i) = false) : curB l i m j = curB l i (m + 1) j := by
  unfold curB
  congr 1
  rw [eq_iff_iff]
  constructor
  · rintro ⟨k, h1, h2, h3, h4⟩
    by_cases e : k = m
    · subst e; rw [hd] at h3; cases h3
    · exact ⟨k, by omega, h2, h3, h4⟩
  · rintro ⟨k, h1, h2, h3, h4⟩
    exact ⟨k, by omega, h2, h3, h4⟩
open Classical in
theorem curB_yes {l : List Ev} {i m : Nat} (j : Nat) (hm : m < i) (hd : dirB (evAt l m) (evAt l i) = true) : curB l i m j = ((if j = m then true else curB l i (m + 1) j) || befB l m j) := by
  unfold curB befB
  rw [Bool.eq_iff_iff]
  simp only [decide_eq_true_eq, Bool.or_eq_true]
  constructor
  · rintro ⟨k, h1, h2, h3, h4⟩
    by_cases e : k = m
    · subst e
      rcases h4 with rfl | h4
      · left; rw [if_pos rfl]
      · exact .inr h4
    · left
      by_cases e2 : j = m
      · rw [if_pos e2]
      · rw [if_neg e2, decide_eq_true_eq]
        exact ⟨k, by omega, h2, h3, h4⟩
  · rintro (h | h)
    · by_cases e2 : j = m
      · exact ⟨m, Nat.le_refl _, hm, hd, .inl e2⟩
      · rw [if_neg e2, decide_eq_true_eq] at h
        obtain ⟨k, h1, h2, h3, h4⟩ := h
        exact ⟨k, by omega, h2, h3, h4⟩
    · exact ⟨m, Nat.le_refl _, hm, hd, .inr h⟩

/-- The first k rows are there. -/
structure PastDone (l : List Ev) (n : Nat) (W wr : World) (g0 k : Nat) (h : Nat → Nat) : Prop where
  box : Box wr g0 30 (hdrs n k h)
  rows : ∀ j, j < k → Box wr (h j) 4 (bools n (befB l j))
  apart : ∀ j, j < k → h j ≠ g0
  low : W.heap.size ≤ g0
  bel : Below W.heap.size W wr
/-- .. and row k is under way, in block h k. -/
structure PastSt (l : List Ev) (n : Nat) (W wr : World) (g0 k : Nat) (h : Nat → Nat) (c : Nat → Bool) : Prop where
  box : Box wr g0 30 (hdrs n (k + 1) h)
  rows : ∀ j, j < k → Box wr (h j) 4 (bools n (befB l j))
  row : Box wr (h k) 4 (bools n c)
  apart : ∀ j, j ≤ k → h j ≠ g0
  apart2 : ∀ j, j < k → h j ≠ h k
  low : W.heap.size ≤ g0 ∧ W.heap.size ≤ h k
  bel : Below W.heap.size W wr
section
variable {l : List Ev} {n : Nat} {W wr : World} {g0 k : Nat} {h : Nat → Nat} {c : Nat → Bool}
theorem PastDone.alloc (s : PastDone l n W wr g0 k h) (o : Obj) : PastDone l n W (wr.alloc o) g0 k h :=
  ⟨s.box.alloc o, fun j hj => (s.rows j hj).alloc o, s.apart, s.low, s.bel.alloc s.bel.size o⟩
theorem PastSt.alloc (s : PastSt l n W wr g0 k h c) (o : Obj) : PastSt l n W (wr.alloc o) g0 k h c :=
  ⟨s.box.alloc o, fun j hj => (s.rows j hj).alloc o, s.row.alloc o, s.apart, s.apart2, s.low, s.bel.alloc s.bel.size o⟩
theorem PastSt.drewN (s : PastSt l n W wr g0 k h c) (m : Nat) : PastSt l n W (wr.drewN m) g0 k h c :=
  ⟨s.box, s.rows, s.row, s.apart, s.apart2, s.low, below_drewN s.bel m⟩
theorem PastSt.put (s : PastSt l n W wr g0 k h c) {j : Nat} (b : Bool) : PastSt l n W (wr.setCell ⟨h k, j, none⟩ (.bool b)) g0 k h (fun i => if i = j then b else c i) :=
  ⟨s.box.far (fun e => s.apart k (Nat.le_refl _) e.symm) _, fun i hi => (s.rows i hi).far (s.apart2 i hi) _, by have := s.row.set j (.bool b); rwa [bools_set] at this, s.apart, s.apart2, s.low, s.bel.setCell s.low.2 _⟩
theorem PastSt.same (s : PastSt l n W wr g0 k h c) {d : Nat → Bool} (hd : ∀ j, j < n → c j = d j) : PastSt l n W wr g0 k h d :=
  ⟨s.box, s.rows, by rw [← bools_congr hd]; exact s.row, s.apart, s.apart2, s.low, s.bel⟩
/-- Row k begins: its header is stored, its block is new. -/
theorem PastDone.begin (s : PastDone l n W wr g0 k h) (cs : Array Value) (hcs : cs = bools n c) : PastSt l n W ((wr.setCell ⟨g0, k, none⟩ (.slice (some ⟨wr.heap.size, 0, none⟩) n n)).alloc (.cells cs 4)) g0 k (fun i => if i = k then wr.heap.size else h i) c := by
  subst hcs
  have hlt := s.box.lt
  have hsz := s.bel.size
  refine ⟨?_, fun j hj => ?_, ?_, fun j hj => ?_, fun j hj => ?_, ⟨s.low, by simp; omega⟩, (s.bel.setCell s.low _).alloc (by simpa [World.setCell] using hsz) _⟩
  · have := s.box.set k (.slice (some ⟨wr.heap.size, 0, none⟩) n n)
    rw [hdrs_set] at this
    exact this.alloc _
  · rw [if_neg (by omega)]
    exact ((s.rows j hj).far (s.apart j hj) _).alloc _
  · rw [if_pos rfl]
    have := Box.new (wr.setCell ⟨g0, k, none⟩ (.slice (some ⟨wr.heap.size, 0, none⟩) n n)) 4 (bools n c)
    rw [show (wr.setCell ⟨g0, k, none⟩ (.slice (some ⟨wr.heap.size, 0, none⟩) n n)).heap.size = wr.heap.size by simp [World.setCell]] at this
    exact this
  · by_cases e : j = k
    · rw [if_pos e]; omega
    · rw [if_neg e]; exact s.apart j (by omega)
  · rw [if_neg (by omega), if_pos rfl]
    have := (s.rows j hj).lt
    omega
theorem PastSt.done (s : PastSt l n W wr g0 k h c) (hc : ∀ j, j < n → c j = befB l k j) : PastDone l n W wr g0 (k + 1) h :=
  ⟨s.box, fun j hj => by
    by_cases e : j = k
    · subst e; have := s.same hc; exact this.row
    · exact s.rows j (by omega), fun j hj => s.apart j (by omega), s.low.1, s.bel⟩
theorem PastDone.mat (s : PastDone l n W wr g0 n h) : BMat wr wr.heap.size (some ⟨g0, 0, none⟩) n (befB l) :=
  ⟨g0, rfl, s.box.lt, fun i hi => ⟨h i, (s.rows i hi).lt, (s.box.cell i).trans (hdrs_get hi hi), fun j hj => ((s.rows i hi).cell j).trans (bools_get hj)⟩⟩
end
end Go.Proofs.Ytgkckldflfalgaa
