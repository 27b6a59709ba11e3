
/-
  Links: a row moved down to its place; small facts for the law's walk.
-/
import Derived.Test.YtgjimjpbogadjaaLk9
namespace Go.Proofs.Ytgjimjpbogadjaa
open Go.RowKit

/-- A row laid in at place k. -/
def midG {α : Type} (L : List α) (x : α) (k : Nat) : List α := L.take k ++ x :: L.drop k
section
variable {α : Type} (d : α)
theorem drop_getDG (l : List α) {k : Nat} (hk : k < l.length) : l.drop k = l.getD k d :: l.drop (k + 1) := by
  rw [List.drop_eq_getElem_cons hk]
  simp [List.getD_eq_getElem?_getD, List.getElem?_eq_getElem hk]
theorem midG_len (L : List α) (x : α) {k : Nat} (hk : k ≤ L.length) : (midG L x k).length = L.length + 1 := by
  unfold midG
  simp only [List.length_append, List.length_take, List.length_cons, List.length_drop]
  omega
theorem midG_at (L : List α) (x : α) {k : Nat} (hk : k ≤ L.length) : (midG L x k).getD k d = x := by
  unfold midG
  rw [getD_ins d x L k k hk, if_neg (Nat.lt_irrefl _), if_pos rfl]
theorem midG_pre (L : List α) (x : α) {k : Nat} (hk : k ≤ L.length) (h0 : 0 < k) : (midG L x k).getD (k - 1) d = L.getD (k - 1) d := by
  unfold midG
  rw [getD_ins d x L k (k - 1) hk, if_pos (by omega)]
theorem midG_swap (L : List α) (x : α) {k : Nat} (h0 : 0 < k) (hk : k ≤ L.length) : ((midG L x k).set (k - 1) x).set k (L.getD (k - 1) d) = midG L x (k - 1) := by
  unfold midG
  obtain ⟨j, rfl⟩ : ∃ j, k = j + 1 := ⟨k - 1, by omega⟩
  rw [show j + 1 - 1 = j from rfl]
  have hj : j < L.length := by omega
  rw [take_getD L d hj, drop_getDG d L hj]
  have hl : (L.take j).length = j := by rw [List.length_take]; omega
  generalize L.getD j d = z
  generalize L.drop (j + 1) = D
  generalize L.take j = P at *
  subst hl
  rw [List.append_assoc, List.set_append_right _ _ (Nat.le_refl _), Nat.sub_self]
  show (P ++ x :: x :: D).set (P.length + 1) z = P ++ x :: z :: D
  rw [List.set_append_right _ _ (by omega), show P.length + 1 - P.length = 1 by omega]
  rfl
end
theorem midLk_end (L : List LkC) (x : LkC) : flat lkC (midG L x L.length) = flat lkC L ++ lkC x := by
  unfold midG
  rw [List.take_length, List.drop_length, flat_append, flat_one]

/-- One cell of one element set. -/
theorem OwnAt.putF {α : Type} {ec : α → List Value} {size : Nat} (hs : ∀ x, (ec x).length = size) {w : World} {base : Nat} {e : TypeId} {n cap g o : Nat} {l : List α} (h : OwnAt w base e size (some ⟨g, o, none⟩) n cap (flat ec l)) {i j : Nat} {x : α} (u : Value) (hx : l[i]? = some x) (hj : j < size) (y : α) (hy : ec y = (ec x).set j u) :
    OwnAt (w.setCell ⟨g, o + i * size + j, none⟩ u) base e size (some ⟨g, o, none⟩) n cap (flat ec (l.set i y)) := by
  have h1 := h.set (j := i * size + j) u
  rw [flat_set hs l u hx hj y hy, ← Nat.add_assoc] at h1
  exact h1
/-- A whole row stored, cell by cell. -/
theorem OwnAt.put3 {w : World} {base : Nat} {e : TypeId} {n cap g o : Nat} {l : List LkC} (h : OwnAt w base e 3 (some ⟨g, o, none⟩) n cap (flat lkC l)) {i : Nat} (hi : i < l.length) (r : LkC) :
    OwnAt (((w.setCell ⟨g, o + i * 3, none⟩ (.int .i64 r.r)).setCell ⟨g, o + i * 3 + 1, none⟩ (.slice r.W.A r.W.len r.W.cap)).setCell ⟨g, o + i * 3 + 2, none⟩ (.slice r.L.A r.L.len r.L.cap)) base e 3 (some ⟨g, o, none⟩) n cap (flat lkC (l.set i r)) := by
  obtain ⟨y, hy⟩ : ∃ y, l[i]? = some y := ⟨_, List.getElem?_eq_getElem hi⟩
  obtain ⟨y0, y1, y2⟩ := y
  obtain ⟨r0, r1, r2⟩ := r
  have h0 := h.putF lkC_len (i := i) (j := 0) (.int .i64 r0) hy (by decide) ⟨r0, y1, y2⟩ rfl
  have h1 := h0.putF lkC_len (i := i) (x := ⟨r0, y1, y2⟩) (j := 1) (.slice r1.A r1.len r1.cap) (by rw [List.getElem?_set_self hi]) (by decide) ⟨r0, r1, y2⟩ rfl
  rw [List.set_set] at h1
  have h2 := h1.putF lkC_len (i := i) (x := ⟨r0, r1, y2⟩) (j := 2) (.slice r2.A r2.len r2.cap) (by rw [List.getElem?_set_self hi]) (by decide) ⟨r0, r1, r2⟩ rfl
  rw [List.set_set] at h2
  exact h2
theorem below_put3 {B : Nat} {a w : World} {g p : Nat} (h : Below B a w) (hg : B ≤ g) (u0 u1 u2 : Value) :
    Below B a (((w.setCell ⟨g, p, none⟩ u0).setCell ⟨g, p + 1, none⟩ u1).setCell ⟨g, p + 2, none⟩ u2) :=
  ((h.setCell (p := ⟨g, _, none⟩) hg _).setCell (p := ⟨g, _, none⟩) hg _).setCell (p := ⟨g, _, none⟩) hg _

theorem only_put3 {S : Nat → Prop} {a w : World} {g p : Nat} (h : Only S a w) (hg : S g) (u0 u1 u2 : Value) :
    Only S a (((w.setCell ⟨g, p, none⟩ u0).setCell ⟨g, p + 1, none⟩ u1).setCell ⟨g, p + 2, none⟩ u2) :=
  ((h.set (p := ⟨g, _, none⟩) hg _).set (p := ⟨g, _, none⟩) hg _).set (p := ⟨g, _, none⟩) hg _

/-- Where the row stops: all ahead is smaller. -/
theorem lk_stop {vs : List Lk} (hs : vs.Pairwise (fun a b => a.ref < b.ref)) {n : Int} (hno : lkAt vs n < 0) {k : Nat} (hk : k ≤ vs.length) (h : ∀ j, k ≤ j → j < vs.length → n < (vs.getD j lk0).ref) (h0 : k = 0 ∨ ¬ n < (vs.getD (k - 1) lk0).ref) :
    putLk ⟨n, [], []⟩ vs = midG vs ⟨n, [], []⟩ k := by
  have hg : ∀ i (hi : i < vs.length), vs.getD i lk0 = vs[i] := fun i hi => by simp [List.getD_eq_getElem?_getD, List.getElem?_eq_getElem hi]
  have hne : ∀ x ∈ vs, x.ref ≠ n := by
    intro x hx e
    have h1 := idxAt_any (isLk n) vs 0 (by omega)
    have h2 : vs.any (isLk n) = true := List.any_eq_true.2 ⟨x, hx, by unfold isLk; rw [e]; exact beq_self_eq_true n⟩
    rw [h2] at h1
    have h3 : 0 ≤ idxAt (isLk n) vs 0 := of_decide_eq_true h1
    have h4 : idxAt (isLk n) vs 0 < 0 := hno
    omega
  refine putLk_at ⟨n, [], []⟩ vs k hk (fun j hj => ?_) (fun hl h2 => ?_)
  · rcases h0 with h0 | h0
    · omega
    · have hk1 : k - 1 < vs.length := by omega
      have h3 := hne _ (getD_mem lk0 hk1)
      show (vs.getD j lk0).ref < n
      by_cases e : j = k - 1
      · subst e; omega
      · have h4 := List.pairwise_iff_getElem.1 hs j (k - 1) (by omega) hk1 (by omega)
        rw [hg (k - 1) hk1] at h0 h3
        rw [hg j (by omega)]
        omega
  · have := h k (Nat.le_refl _) hl
    have h5 : (vs.getD k lk0).ref < n := h2
    omega
/-- The rows with the new one laid in at place k are the same as rows that came back. -/
theorem mid_same {w2 wr : World} {base base' : Nat} {A1 A' : Option Addr} {c1 c' k g' o' cap' N : Nat} {l1 l' : List LkC} {vs L1 : List Lk} {ref : Int} (h1 : lkRow wr (· < wr.heap.size) 0 A1 c1 l1 L1)
    (hL : L1 = midG vs ⟨ref, [], []⟩ k) (ho : OwnLks w2 base A' c' l' vs) (hon : Only (fun b => blkS A' b ∨ b = g') w2 wr) (hg : blkS A' g' ∨ w2.heap.size ≤ g')
    (hown : OwnAt wr base' 114 3 (some ⟨g', o', none⟩) (N + 1) cap' (flat lkC (midG l' ⟨ref, bc0, bc0⟩ k))) (hN : l'.length = N) (hk : k ≤ N) (h99 : N ≤ 99) :
    Calls Try.prog 56 #[.slice A1 L1.length c1, .slice (some ⟨g', o', none⟩) (N + 1) cap'] wr fun e w' => e = .returned (.bool true) ∧ ∃ n, w' = wr.drewN n := by
  have hon' : Only (fun b => blkS A' b) w2 wr := ⟨hon.os, hon.tape, hon.output, hon.size, fun i hi hne => hon.block i hi (fun h => by
    rcases h with h | h
    · exact hne h
    · subst h
      rcases hg with h | h
      · exact hne h
      · omega)⟩
  have hkl : k ≤ l'.length := by omega
  have hkv : k ≤ vs.length := by rw [← ho.len]; exact hkl
  have hz : (midG l' (⟨ref, bc0, bc0⟩ : LkC) k).length = N + 1 := by rw [midG_len l' _ hkl, hN]
  have hz2 : (midG l' (⟨ref, bc0, bc0⟩ : LkC) k).length = (midG vs (⟨ref, [], []⟩ : Lk) k).length := by rw [midG_len l' _ hkl, midG_len vs _ hkv, ho.len]
  have hrow : lkRow wr (· < wr.heap.size) 0 (some ⟨g', o', none⟩) cap' (midG l' ⟨ref, bc0, bc0⟩ k) (midG vs ⟨ref, [], []⟩ k) := by
    refine lkRow.of_own (base := base') hz2 (by rw [hz]; exact hown) (fun j hj => ?_) (by rw [hz]; unfold reachBytes; omega)
    rw [hz] at hj
    unfold midG
    rw [getD_ins lkc0 ⟨ref, bc0, bc0⟩ l' k j hkl, getD_ins lk0 ⟨ref, [], []⟩ vs k j hkv]
    by_cases h1 : j < k
    · rw [if_pos h1, if_pos h1]
      exact ho.keepE hon' j (by omega)
    · rw [if_neg h1, if_neg h1]
      by_cases h2 : j = k
      · rw [if_pos h2, if_pos h2]
        exact ⟨rfl, IIn.none, IIn.none⟩
      · rw [if_neg h2, if_neg h2]
        exact ho.keepE hon' (j - 1) (by omega)
  have h := sameLinks_true A1 (some ⟨g', o', none⟩) c1 cap' l1 _ _ _ _ wr (hL ▸ h1) hrow
  rw [hz, h1.1] at h
  exact h
theorem idxAt_hit {α : Type} (f : α → Bool) (d : α) : ∀ (l : List α) (k : Int) (i : Nat), idxAt f l k = k + i → i < l.length → 0 ≤ k → f (l.getD i d) = true
  | [], _, _, _, h, _ => absurd h (by simp)
  | x :: r, k, i, h, hi, hk => by
    unfold idxAt at h
    by_cases hx : f x = true
    · rw [if_pos hx] at h
      obtain rfl : i = 0 := by omega
      exact hx
    · rw [if_neg hx] at h
      have hi0 : i ≠ 0 := by
        rintro rfl
        rcases idxAt_range f r (k + 1) (by omega) with h2 | h2
        · omega
        · omega
      obtain ⟨j, rfl⟩ : ∃ j, i = j + 1 := ⟨i - 1, by omega⟩
      exact idxAt_hit f d r (k + 1) j (by omega) (by simpa using hi) (by omega)
theorem lkAt_ref {vs : List Lk} {n : Int} {i : Nat} (h : lkAt vs n = (i : Int)) (hi : i < vs.length) : (vs.getD i lk0).ref = n := by
  have h1 := idxAt_hit (isLk n) lk0 vs 0 i (by rw [Int.zero_add]; exact h) hi (by omega)
  simpa [isLk] using h1
end Go.Proofs.Ytgjimjpbogadjaa
