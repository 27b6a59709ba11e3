
/-
  Quotas: small facts for the law's walk.
-/
import Derived.Test.YtgjimjpbogadjaaLm8
import Derived.Test.YtgjimjpbogadjaaFlatV
namespace Go.Proofs.Ytgjimjpbogadjaa
open Go.RowKit

theorem inA_any (n : Int) (w : World) : Calls Try.prog 40 #[.int .i64 n, .int .i64 0, .int .i64 1073741824] w fun e w' => e = .returned (.bool (amt n)) ∧ w = w' := inP_any n 0 1073741824 w
theorem idxAt_hit {α : Type} (f : α → Bool) (d : α) : ∀ (l : List α) (k : Int) (i : Nat), idxAt f l k = k + i → i < l.length → 0 ≤ k → f (l.getD i d) = true
  | [], _, _, _, h, _ => absurd h (by simp)
  | x :: r, k, i, h, hi, hk => by
    unfold idxAt at h
    by_cases hx : f x = true
    · rw [if_pos hx] at h
      obtain rfl : i = 0 := by omega
      exact hx
    · rw [if_neg hx] at h
      have hi0 : i ≠ 0 := by
        rintro rfl
        rcases idxAt_range f r (k + 1) (by omega) with h2 | h2
        · omega
        · omega
      obtain ⟨j, rfl⟩ : ∃ j, i = j + 1 := ⟨i - 1, by omega⟩
      exact idxAt_hit f d r (k + 1) j (by omega) (by simpa using hi) (by omega)
theorem lmAt_ref {l : List Lm} {n : Int} {i : Nat} (h : lmAt l n = (i : Int)) (hi : i < l.length) : (l.getD i lm0).ref = n := by
  have h1 := idxAt_hit (isRef n) lm0 l 0 i (by rw [Int.zero_add]; exact h) hi (by omega)
  simpa [isRef] using h1
theorem lmAt_none {l : List Lm} {n : Int} (h : lmAt l n < 0) : ∀ x ∈ l, x.ref ≠ n := by
  intro x hx e
  have h1 := idxAt_any (isRef n) l 0 (by omega)
  have h2 : l.any (isRef n) = true := List.any_eq_true.2 ⟨x, hx, by simp [isRef, e]⟩
  rw [h2] at h1
  have h3 : 0 ≤ idxAt (isRef n) l 0 := of_decide_eq_true h1
  have h4 : idxAt (isRef n) l 0 < 0 := h
  omega
theorem set_len101 {l : List Lm} (hl : l.length ≤ 100) (i : Nat) (r : Lm) : (l.set i r).length ≤ 101 := by rw [List.length_set]; omega
theorem begin_zero {l : List Lm} {n : Int} (h : beginE l n = 0) : lmF l = 0 := by
  unfold beginE at h
  by_cases h1 : lmF l = 0
  · exact h1
  · rw [if_pos h1] at h; exact h
theorem res_cases {t E : Int} {X L : List Lm} (h : (if t ≠ 0 then (t, ([] : List Lm)) else (0, X)) = (E, L)) : E = t ∧ (t ≠ 0 → L = []) ∧ (t = 0 → L = X) := by
  by_cases ht : t = 0
  · rw [if_neg (by simpa using ht)] at h
    injection h with h1 h2
    exact ⟨by rw [ht]; exact h1.symm, fun e => absurd ht e, fun _ => h2.symm⟩
  · rw [if_pos ht] at h
    injection h with h1 h2
    exact ⟨h1.symm, fun _ => h2.symm, fun e => absurd e ht⟩
/-- Two rows alike. -/
theorem same_lm (L : List Lm) (A : Option Addr) (c g o c' base : Nat) (w w0 w1 : World) (hr : Row w0 w0.heap.size A (flat lmC L)) (hb : Below w0.heap.size w0 w) (ho : OwnAt w1 base 89 5 (some ⟨g, o, none⟩) L.length c' (flat lmC L)) (hb1 : Below w1.heap.size w1 w) (hl : L.length ≤ 101) :
    Calls Try.prog 41 #[.slice A L.length c, .slice (some ⟨g, o, none⟩) L.length c'] w fun e w' => e = .returned (.bool true) ∧ ∃ n, w.drewN n = w' := by
  refine (equal_lm A (some ⟨g, o, none⟩) c c' L L _ _ w (hr.below hb) (ho.row.below hb1) (by unfold maxLen; omega) (by unfold maxLen; omega)).mono ?_
  rintro e w' ⟨rfl, n, rfl⟩
  exact ⟨by simp, n, rfl⟩
end Go.Proofs.Ytgjimjpbogadjaa
