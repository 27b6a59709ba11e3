/-
  Programs executed in an order: the plain law.
-/
import Derived.Test.YtcmkkfpcdebfkaaEx3
namespace Go.Proofs.Ytcmkkfpcdebfkaa
open Go.RowKit

theorem rowBad_row {l : List (List Do)} (h : rowBad l.flatten = 0) {k : Nat} (hk : k < l.length) : rowBad (l.getD k []) = 0 := by
  have h1 : l.getD k [] = l[k] := by simp [List.getD_eq_getElem?_getD, hk]
  have h3 : l = l.take k ++ l[k] :: l.drop (k + 1) := by simp
  have h4 : rowBad ((l.take k).flatten ++ (l[k] ++ (l.drop (k + 1)).flatten)) = 0 := by
    rw [← List.flatten_cons, ← List.flatten_append, ← h3]
    exact h
  rw [rowBad_append] at h4
  split at h4
  · rw [rowBad_append] at h4
    split at h4
    · rw [h1]; assumption
    · rw [h1]; assumption
  · rename_i hne
    exact absurd h4 hne
/-- A state of programs. -/
structure GoodS (l : List (List Do)) (s : List Int) : Prop where
  len : s.length = 12
  at' : ∀ who, who < l.length → ∃ a : Nat, s.getD (8 + who) 0 = a ∧ a ≤ (l.getD who []).length
def zeroS : List Int := [0, 0, 0, 0, 0, 0, 0, 0, 0, 0, 0, 0]
theorem GoodS.zero {l : List (List Do)} (h4 : l.length ≤ 4) : GoodS l zeroS := ⟨rfl, fun who hw => ⟨0, by
  have : who = 0 ∨ who = 1 ∨ who = 2 ∨ who = 3 := by omega
  rcases this with rfl | rfl | rfl | rfl <;> rfl, Nat.zero_le _⟩⟩
theorem getD_set_ne {s : List Int} {i j : Nat} (h : i ≠ j) (x : Int) : (s.set i x).getD j 0 = s.getD j 0 := by
  rw [List.getD_eq_getElem?_getD, List.getElem?_set_ne h, ← List.getD_eq_getElem?_getD]
theorem getD_set_eq {s : List Int} {i : Nat} (h : i < s.length) (x : Int) : (s.set i x).getD i 0 = x := by
  rw [List.getD_eq_getElem?_getD, List.getElem?_set_self h]
  rfl
theorem moveS_len (x : Do) (who : Nat) (s : List Int) : (moveS x who s).length = s.length := by
  unfold moveS
  split
  · simp
  · split
    · simp
    · split
      · simp
      · rfl
theorem moveS_at {x : Do} (hx : doBad x = 0) {who j : Nat} (hw : who < 4) (s : List Int) : (moveS x who s).getD (8 + j) 0 = s.getD (8 + j) 0 := by
  obtain ⟨k, c, b⟩ := x
  obtain ⟨_, ⟨h1, h2⟩, _⟩ := doBad_ok hx
  unfold moveS
  dsimp only
  split
  · exact getD_set_ne (by omega) _
  · split
    · exact getD_set_ne (by omega) _
    · split
      · exact getD_set_ne (by omega) _
      · rfl
theorem GoodS.next {l : List (List Do)} {s : List Int} (h : GoodS l s) (hl : rowBad l.flatten = 0) (h4 : l.length ≤ 4) {who a : Nat} (hw : who < l.length) (ha : s.getD (8 + who) 0 = a) : GoodS l (nextS (l.getD who []) who s a).1 := by
  unfold nextS
  split
  · rename_i hlt
    split
    · have hx := rowBad_ok (rowBad_row hl hw) hlt
      refine ⟨by simp [moveS_len, h.len], fun j hj => ?_⟩
      by_cases hjw : j = who
      · subst hjw
        exact ⟨a + 1, by rw [getD_set_eq (by rw [moveS_len, h.len]; omega)]; simp, hlt⟩
      · obtain ⟨a', e, hle⟩ := h.at' j hj
        exact ⟨a', by rw [getD_set_ne (by omega), moveS_at hx (by omega), e], hle⟩
    · exact h
  · exact h
/-- What Run returns: none at a number of no program. -/
def runS (l : List (List Do)) : List Int → List Int → Nat → Option (List Int × Nat)
  | [], s, n => some (s, n)
  | x :: o, s, n =>
    if x < 0 ∨ (l.length : Int) ≤ x then none
    else if (nextS (l.getD x.toNat []) x.toNat s (s.getD (8 + x.toNat) 0).toNat).2 = true then runS l o (nextS (l.getD x.toNat []) x.toNat s (s.getD (8 + x.toNat) 0).toNat).1 (n + 1)
    else some (s, n)
end Go.Proofs.Ytcmkkfpcdebfkaa
