/-
  Numbers read by the reference (roadref4.Read).
-/
import Derived.Test.YtcmkkfpcdebfkaaUnp2
namespace Go.Proofs.Ytcmkkfpcdebfkaa
open Go.RowKit

def readF : Nat → List UInt8 → List Int × Bool
  | 0, _ => ([], true)
  | f + 1, bs => if bs.length = 0 then ([], true) else match numS bs with
    | none => ([], false)
    | some p => ((p.1 : Int) :: (readF f p.2).1, (readF f p.2).2)
theorem readF_any : ∀ (f g : Nat) (bs : List UInt8), bs.length ≤ f → bs.length ≤ g → readF f bs = readF g bs
  | 0, g, bs, hf, _ => by
    have hz : bs.length = 0 := by omega
    cases g with
    | zero => rfl
    | succ g => rw [readF, readF, if_pos hz]
  | f + 1, 0, bs, _, hg => by
    have hz : bs.length = 0 := by omega
    rw [readF, readF, if_pos hz]
  | f + 1, g + 1, bs, hf, hg => by
    rw [readF, readF]
    by_cases hz : bs.length = 0
    · rw [if_pos hz, if_pos hz]
    · rw [if_neg hz, if_neg hz]
      cases hn : numS bs with
      | none => rfl
      | some p =>
        obtain ⟨n, r⟩ := p
        have := (numS_lt hn).2.1
        dsimp only
        rw [readF_any f g r (by omega) (by omega)]
def readS (bs : List UInt8) : List Int × Bool := readF bs.length bs
theorem readS_nil : readS [] = ([], true) := rfl
theorem readS_none {bs : List UInt8} (h : bs.length ≠ 0) (hn : numS bs = none) : readS bs = ([], false) := by
  unfold readS
  obtain ⟨f, hf⟩ : ∃ f, bs.length = f + 1 := ⟨bs.length - 1, by omega⟩
  rw [hf, readF, if_neg h, hn]
theorem readS_some {bs r : List UInt8} {n : Nat} (hn : numS bs = some (n, r)) : readS bs = ((n : Int) :: (readS r).1, (readS r).2) := by
  have hl := (numS_lt hn).2.1
  unfold readS
  obtain ⟨f, hf⟩ : ∃ f, bs.length = f + 1 := ⟨bs.length - 1, by omega⟩
  rw [hf, readF, if_neg (by omega), hn]
  dsimp only
  rw [readF_any f r.length r (by omega) (Nat.le_refl _)]

/-- The digits from k down, so many of them. -/
def hvS (bs : List UInt8) (k : Nat) : Nat → Nat
  | 0 => 0
  | d + 1 => hvS bs k d * 128 + (bs.getD (k - d) 0).toNat % 128
theorem hvS_lt (bs : List UInt8) (k : Nat) : hvS bs k 0 < 1 ∧ hvS bs k 1 < 128 ∧ hvS bs k 2 < 16384 ∧ hvS bs k 3 < 2097152 := by
  have h0 : hvS bs k 0 = 0 := rfl
  have h1 : hvS bs k 1 = hvS bs k 0 * 128 + (bs.getD (k - 0) 0).toNat % 128 := rfl
  have h2 : hvS bs k 2 = hvS bs k 1 * 128 + (bs.getD (k - 1) 0).toNat % 128 := rfl
  have h3 : hvS bs k 3 = hvS bs k 2 * 128 + (bs.getD (k - 2) 0).toNat % 128 := rfl
  omega
/-- The first k bytes say that more comes. -/
def HiTo (bs : List UInt8) (k : Nat) : Prop := ∀ i, i < k → 128 ≤ (bs.getD i 0).toNat
theorem HiTo.hi {bs : List UInt8} {k : Nat} (h : HiTo bs k) (hk : k ≤ bs.length) : Hi (bs.take k) := by
  intro b hb
  obtain ⟨i, hi, rfl⟩ := List.getElem_of_mem hb
  rw [List.length_take] at hi
  have := h i (by omega)
  rw [List.getElem_take]
  simpa [List.getD_eq_getElem?_getD, show i < bs.length by omega] using this
theorem num_all {bs : List UInt8} (h : HiTo bs bs.length) : numS bs = none := by
  have := numS_hi (h.hi (Nat.le_refl _))
  rwa [List.take_length] at this
theorem split_at {bs : List UInt8} {k : Nat} (hk : k < bs.length) : bs = bs.take k ++ bs.getD k 0 :: bs.drop (k + 1) := by
  rw [← drop_getD bs 0 hk, List.take_append_drop]
theorem num_long {bs : List UInt8} {k : Nat} (h : HiTo bs k) (hk : k < bs.length) (h3 : 2 < k) : numS bs = none := by
  rw [split_at hk]
  exact numS_long (h.hi (by omega)) (by rw [List.length_take]; omega)
theorem num_zero {bs : List UInt8} {k : Nat} (h : HiTo bs k) (hk : k < bs.length) (h0 : 0 < k) (hz : (bs.getD k 0).toNat = 0) : numS bs = none := by
  rw [split_at hk]
  exact numS_zero (h.hi (by omega)) (by rw [List.length_take]; omega) hz
theorem num_some {bs : List UInt8} {k : Nat} (h : HiTo bs k) (hk : k < bs.length) (h2 : k ≤ 2) (hlo : (bs.getD k 0).toNat < 128) (hz : 0 < k → (bs.getD k 0).toNat ≠ 0) : numS bs = some (hvS bs k (k + 1), bs.drop (k + 1)) := by
  have hpl : (bs.take k).length = k := by rw [List.length_take]; omega
  have hs := numS_some (r := bs.drop (k + 1)) (h.hi (by omega)) (by omega) hlo (by rw [hpl]; exact hz)
  rw [← split_at hk, hpl] at hs
  rw [hs]
  congr 2
  rcases bs with _ | ⟨b0, _ | ⟨b1, _ | ⟨b2, t⟩⟩⟩
  · simp at hk
  · obtain rfl : k = 0 := by simp at hk; omega
    simp [hvS, valP] at hlo ⊢
    omega
  · rcases (show k = 0 ∨ k = 1 by simp at hk; omega) with rfl | rfl <;> (simp [hvS, valP] at hlo ⊢; omega)
  · rcases (show k = 0 ∨ k = 1 ∨ k = 2 by omega) with rfl | rfl | rfl <;> (simp [hvS, valP] at hlo ⊢; omega)
end Go.Proofs.Ytcmkkfpcdebfkaa
