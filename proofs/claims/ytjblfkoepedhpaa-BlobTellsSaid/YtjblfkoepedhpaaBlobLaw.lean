/-
  A store of texts in plain lists: what is wrong with it, where a text stands, what is held.
-/
import Derived.Test.YtjblfkoepedhpaaRows2
namespace Go.Proofs.Ytjblfkoepedhpaa

abbrev BlobT := ByteArray × Int
/-- An entry in use with that text. -/
def isT (t : ByteArray) (b : BlobT) : Bool := decide (0 < b.2) && (b.1.toList == t.toList)
def isFree (b : BlobT) : Bool := b.2 == 0
/-- An entry that is wrong by itself. -/
def badB (b : BlobT) : Bool := decide (64 < b.1.size) || decide (b.2 < 0) || decide (1000 < b.2) || (b.2 == 0 && !b.1.toList.isEmpty)
/-- What is wrong with entries, those behind 'seen'. -/
def storeF (seen : List BlobT) : List BlobT → Int
  | [] => 0
  | b :: r => if badB b = true then 1 else if (decide (0 < b.2) && seen.any (isT b.1)) = true then 5 else storeF (seen ++ [b]) r
def storeChk (s : List BlobT) : Int := if 60 < s.length then 2 else storeF [] s
theorem storeF_step (l : List BlobT) (k : Nat) (h : k < l.length) :
    storeF (l.take k) (l.drop k) = if badB (l.getD k (⟨#[]⟩, 0)) = true then 1 else if (decide (0 < (l.getD k (⟨#[]⟩, 0)).2) && (l.take k).any (isT (l.getD k (⟨#[]⟩, 0)).1)) = true then 5 else storeF (l.take (k + 1)) (l.drop (k + 1)) := by
  rw [drop_getD l (⟨#[]⟩, 0) h, take_getD l (⟨#[]⟩, 0) h]
  rfl
theorem storeF_ok : ∀ (l seen : List BlobT), storeF seen l = 0 → ∀ x ∈ l, x.1.size ≤ 64 ∧ 0 ≤ x.2 ∧ x.2 ≤ 1000
  | [], _, _ => by simp
  | j :: r, seen, h => by
    unfold storeF at h
    split at h
    · cases h
    · rename_i hb
      split at h
      · cases h
      · intro x hx
        rw [List.mem_cons] at hx
        rcases hx with rfl | hx
        · simp [badB] at hb
          omega
        · exact storeF_ok r _ h x hx
theorem storeChk_ok {l : List BlobT} (h : storeChk l = 0) : l.length ≤ 60 ∧ ∀ x ∈ l, x.1.size ≤ 64 ∧ 0 ≤ x.2 ∧ x.2 ≤ 1000 := by
  unfold storeChk at h
  split at h
  · cases h
  · exact ⟨by omega, storeF_ok l [] h⟩
/-- Where a text stands: -1, if nowhere. -/
def findT (s : List BlobT) (t : ByteArray) : Int := idxAt (isT t) s 0
/-- How many are held, how often, how many bytes. -/
def heldN : List BlobT → Int
  | [] => 0
  | b :: r => (if 0 < b.2 then 1 else 0) + heldN r
def timesN : List BlobT → Int
  | [] => 0
  | b :: r => (if 0 < b.2 then b.2 else 0) + timesN r
def bytesN : List BlobT → Int
  | [] => 0
  | b :: r => (if 0 < b.2 then (b.1.size : Int) else 0) + bytesN r
theorem held_bd : ∀ (l : List BlobT), (∀ x ∈ l, x.1.size ≤ 64 ∧ 0 ≤ x.2 ∧ x.2 ≤ 1000) → 0 ≤ heldN l ∧ heldN l ≤ l.length ∧ 0 ≤ timesN l ∧ timesN l ≤ 1000 * l.length ∧ 0 ≤ bytesN l ∧ bytesN l ≤ 64 * l.length
  | [], _ => by simp [heldN, timesN, bytesN]
  | x :: r, h => by
    have h1 := held_bd r fun y hy => h y (by simp [hy])
    have h2 := h x (by simp)
    simp only [heldN, timesN, bytesN, List.length_cons, Int.natCast_add]
    by_cases hx : 0 < x.2
    · simp only [if_pos hx]; omega
    · simp only [if_neg hx]; omega
theorem idxAt_cases {α : Type} (f : α → Bool) (d : α) : ∀ (l : List α) (k : Nat), idxAt f l k = -1 ∧ l.any f = false ∨ ∃ i : Nat, i < l.length ∧ idxAt f l k = ((k + i : Nat) : Int) ∧ f (l.getD i d) = true
  | [], k => .inl ⟨rfl, rfl⟩
  | x :: r, k => by
    unfold idxAt
    by_cases hx : f x = true
    · rw [if_pos hx]
      exact .inr ⟨0, by simp, by simp, by simpa using hx⟩
    · rw [if_neg hx]
      rcases idxAt_cases f d r (k + 1) with ⟨h1, h2⟩ | ⟨i, h1, h2, h3⟩
      · left
        refine ⟨by simpa using h1, ?_⟩
        simp [h2]
        simpa using hx
      · right
        refine ⟨i + 1, by simpa using h1, ?_, by simpa using h3⟩
        rw [show ((k : Int) + 1) = ((k + 1 : Nat) : Int) by simp, h2]
        congr 1
        omega
end Go.Proofs.Ytjblfkoepedhpaa
