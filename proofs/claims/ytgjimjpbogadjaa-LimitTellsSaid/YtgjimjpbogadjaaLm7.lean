
/-
  What the law says of quotas: forked.
-/
import Derived.Test.YtgjimjpbogadjaaLm6
namespace Go.Proofs.Ytgjimjpbogadjaa
open Go.RowKit

theorem putLm_split (x : Lm) : ∀ (P S : List Lm), (∀ y ∈ P, y.ref < x.ref) → (∀ y ∈ S, ¬ y.ref < x.ref) → putLm x (P ++ S) = P ++ x :: S
  | [], [], _, _ => rfl
  | [], y :: r, _, h => by
    show (if y.ref < x.ref then y :: putLm x r else x :: y :: r) = x :: y :: r
    rw [if_neg (h y (by simp))]
  | y :: p, S, h1, h2 => by
    show (if y.ref < x.ref then y :: putLm x (p ++ S) else x :: y :: (p ++ S)) = y :: (p ++ x :: S)
    rw [if_pos (h1 y (by simp)), putLm_split x p S (fun z hz => h1 z (by simp [hz])) h2]
theorem fork_exit {L : List Lm} {x : Lm} (hs : L.Pairwise (fun a b => a.ref < b.ref)) (hne : ∀ y ∈ L, y.ref ≠ x.ref) {k : Nat} (hk : k ≤ L.length) (h : ∀ y ∈ L.drop k, x.ref < y.ref) (h0 : k = 0 ∨ ¬ x.ref < (L.getD (k - 1) lm0).ref) :
    putLm x L = L.take k ++ x :: L.drop k := by
  have h1 : ∀ y ∈ L.take k, y.ref < x.ref := by
    intro y hy
    obtain ⟨j, hj, rfl⟩ := List.mem_iff_getElem.1 hy
    rw [List.length_take] at hj
    rw [List.getElem_take]
    have hjl : j < L.length := by omega
    rcases h0 with h0 | h0
    · omega
    · have hk1 : k - 1 < L.length := by omega
      rw [List.getD_eq_getElem?_getD, List.getElem?_eq_getElem hk1] at h0
      have h2 : ¬ x.ref < L[k - 1].ref := h0
      have h3 := hne _ (List.getElem_mem hk1)
      by_cases e : j = k - 1
      · subst e; omega
      · have h4 := List.pairwise_iff_getElem.1 hs j (k - 1) hjl hk1 (by omega)
        omega
  have h5 := putLm_split x (L.take k) (L.drop k) h1 (fun y hy h6 => by have := h y hy; omega)
  rw [List.take_append_drop] at h5
  exact h5
theorem swap_put (L : List Lm) (x : Lm) {k : Nat} (h0 : 0 < k) (hk : k ≤ L.length) :
    ((L.take k ++ x :: L.drop k).set (k - 1) x).set k (L.getD (k - 1) lm0) = L.take (k - 1) ++ x :: L.drop (k - 1) := by
  obtain ⟨j, rfl⟩ : ∃ j, k = j + 1 := ⟨k - 1, by omega⟩
  rw [show j + 1 - 1 = j from rfl]
  have hj : j < L.length := by omega
  rw [take_getD L lm0 hj, drop_getD L lm0 hj]
  have hl : (L.take j).length = j := by rw [List.length_take]; omega
  generalize L.getD j lm0 = z
  generalize L.drop (j + 1) = D
  generalize L.take j = P at *
  subst hl
  rw [List.append_assoc, List.set_append_right _ _ (Nat.le_refl _), Nat.sub_self]
  show (P ++ x :: x :: D).set (P.length + 1) z = P ++ x :: z :: D
  rw [List.set_append_right _ _ (by omega), show P.length + 1 - P.length = 1 by omega]
  rfl
theorem mid_get (L : List Lm) (x : Lm) {k : Nat} (hk : k ≤ L.length) : (L.take k ++ x :: L.drop k).getD k lm0 = x ∧ (0 < k → (L.take k ++ x :: L.drop k).getD (k - 1) lm0 = L.getD (k - 1) lm0) := by
  have hl : (L.take k).length = k := by rw [List.length_take]; omega
  constructor
  · rw [List.getD_eq_getElem?_getD, List.getElem?_append_right (by omega), hl, Nat.sub_self]
    rfl
  · intro h0
    rw [List.getD_eq_getElem?_getD, List.getElem?_append_left (by omega), List.getElem?_take_of_lt (by omega), List.getD_eq_getElem?_getD]
theorem fork_list {l : List Lm} (hok : LmOk l) {i : Nat} (hi : i < l.length) {tt : Int} (hno : ∀ x ∈ l, x.ref ≠ tt) {r : Lm} (hr : r.ref = (l.getD i lm0).ref) :
    (l.set i r).Pairwise (fun a b => a.ref < b.ref) ∧ ∀ y ∈ l.set i r, y.ref ≠ tt := by
  have hm : (l.set i r).map (·.ref) = l.map (·.ref) := by
    rw [List.map_set, hr]
    have : (l.getD i lm0).ref = (l.map (·.ref))[i]'(by rw [List.length_map]; exact hi) := by
      rw [List.getElem_map, List.getD_eq_getElem?_getD, List.getElem?_eq_getElem hi]; rfl
    rw [this, List.set_getElem_self]
  constructor
  · have h1 := hok.sort
    have h2 : (l.map (·.ref)).Pairwise (· < ·) := List.pairwise_map.2 h1
    rw [← hm] at h2
    exact List.pairwise_map.1 h2
  · intro y hy
    have h3 : y.ref ∈ (l.set i r).map (·.ref) := List.mem_map.2 ⟨y, hy, rfl⟩
    rw [hm] at h3
    obtain ⟨z, hz, e⟩ := List.mem_map.1 h3
    rw [← e]
    exact hno z hz
/-- A row laid in at place k. -/
def midL (L : List Lm) (x : Lm) (k : Nat) : List Lm := L.take k ++ x :: L.drop k
theorem midL_len (L : List Lm) (x : Lm) {k : Nat} (hk : k ≤ L.length) : (midL L x k).length = L.length + 1 := ins_len x hk
theorem midL_at (L : List Lm) (x : Lm) {k : Nat} (hk : k ≤ L.length) : (midL L x k).getD k lm0 = x := (mid_get L x hk).1
theorem midL_pre (L : List Lm) (x : Lm) {k : Nat} (hk : k ≤ L.length) (h0 : 0 < k) : (midL L x k).getD (k - 1) lm0 = L.getD (k - 1) lm0 := (mid_get L x hk).2 h0
theorem midL_swap (L : List Lm) (x : Lm) {k : Nat} (h0 : 0 < k) (hk : k ≤ L.length) : ((midL L x k).set (k - 1) x).set k (L.getD (k - 1) lm0) = midL L x (k - 1) := swap_put L x h0 hk
theorem midL_end (L : List Lm) (x : Lm) : flat lmC (midL L x L.length) = flat lmC L ++ lmC x := by
  unfold midL
  rw [List.take_length, List.drop_length, flat_append, flat_one]
theorem drop_pre {L : List Lm} {t : Int} {k : Nat} (h0 : 0 < k) (hk : k ≤ L.length) (h : ∀ y ∈ L.drop k, t < y.ref) (h1 : t < (L.getD (k - 1) lm0).ref) : ∀ y ∈ L.drop (k - 1), t < y.ref := by
  rw [drop_getD L lm0 (show k - 1 < L.length by omega), show k - 1 + 1 = k by omega]
  intro y hy
  rcases List.mem_cons.1 hy with rfl | hy
  · exact h1
  · exact h y hy
end Go.Proofs.Ytgjimjpbogadjaa
