
/-
  Objects of a heap of words: the plain law (what the words of an object are; what is read at a place).
-/
import Derived.Test.YtdjahlkjfpbifaaMem
namespace Go.Proofs.Ytdjahlkjfpbifaa
open Go.RowKit

structure Ob where
  at_ : Int
  kind : Int
  num : Int
  text : List UInt8
  parts : List Nat

def isNum (k : Int) : Bool := k == 1 || k == 4
theorem isNum_iff (k : Int) : isNum k = true ↔ (k = 1 ∨ k = 4) := by simp [isNum]
def OkO (o : Ob) : Prop := 1 ≤ o.kind ∧ o.kind ≤ 5 ∧ o.text.length ≤ 64 ∧ o.parts.length ≤ 400 ∧ (o.kind ≤ 2 → o.parts.length = 0) ∧ (o.kind = 5 → o.parts.length ≤ 1) ∧ (o.text.length = 0 ∨ o.kind = 2 ∨ o.kind = 3) ∧ (o.num = 0 ∨ o.kind = 1 ∨ o.kind = 4)
instance (o : Ob) : Decidable (OkO o) := by unfold OkO; infer_instance

/-- bytes as one number, the first the least -/
def le8 : List UInt8 → Nat
  | [] => 0
  | b :: r => b.toNat + 256 * le8 r
theorem le8_lt : ∀ bs : List UInt8, le8 bs < 256 ^ bs.length
  | [] => by simp [le8]
  | b :: r => by
    have h := le8_lt r
    have hb := b.toNat_lt
    simp only [le8, List.length_cons, Nat.pow_succ]
    omega
theorem le8_push : ∀ (bs : List UInt8) (b : UInt8), le8 (bs ++ [b]) = le8 bs + 256 ^ bs.length * b.toNat
  | [], b => by simp [le8]
  | x :: r, b => by
    have h := le8_push r b
    simp only [List.cons_append, le8, List.length_cons, Nat.pow_succ, h]
    rw [Nat.mul_add, Nat.add_assoc, Nat.mul_comm (256 ^ r.length) 256, Nat.mul_assoc]
/-- a text in words of eight bytes -/
def packs (bs : List UInt8) : List Nat := (List.range ((bs.length + 7) / 8)).map fun k => le8 ((bs.drop (8 * k)).take 8)
theorem packs_len (bs : List UInt8) : (packs bs).length = (bs.length + 7) / 8 := by simp [packs]
theorem packs_nil : packs [] = [] := rfl
theorem packs_ahead (xs : List UInt8) (b : UInt8) {m : Nat} (hm : 8 * m ≤ xs.length) : (List.range m).map (fun k => le8 (((xs ++ [b]).drop (8 * k)).take 8)) = (List.range m).map fun k => le8 ((xs.drop (8 * k)).take 8) := by
  apply List.map_congr_left
  intro k hk
  rw [List.mem_range] at hk
  rw [List.drop_append_of_le_length (by omega), List.take_append_of_le_length (by rw [List.length_drop]; omega)]
theorem packs_new (xs : List UInt8) (b : UInt8) (h : xs.length % 8 = 0) : packs (xs ++ [b]) = packs xs ++ [b.toNat] := by
  have e1 : ((xs ++ [b]).length + 7) / 8 = xs.length / 8 + 1 := by rw [List.length_append]; simp; omega
  have e2 : (xs.length + 7) / 8 = xs.length / 8 := by omega
  unfold packs
  rw [e1, e2, List.range_succ, List.map_append, packs_ahead xs b (by omega)]
  congr 1
  simp only [List.map_cons, List.map_nil]
  rw [List.drop_append_of_le_length (by omega), List.drop_eq_nil_of_le (by omega)]
  simp [le8]
theorem packs_on (xs : List UInt8) (b : UInt8) (h : xs.length % 8 ≠ 0) : ∃ ps l, packs xs = ps ++ [l] ∧ l < 256 ^ (xs.length % 8) ∧ packs (xs ++ [b]) = ps ++ [l + 256 ^ (xs.length % 8) * b.toNat] := by
  have e1 : ((xs ++ [b]).length + 7) / 8 = xs.length / 8 + 1 := by rw [List.length_append]; simp; omega
  have e2 : (xs.length + 7) / 8 = xs.length / 8 + 1 := by omega
  have e3 : (xs.drop (8 * (xs.length / 8))).length = xs.length % 8 := by rw [List.length_drop]; omega
  have e4 : (xs.drop (8 * (xs.length / 8))).take 8 = xs.drop (8 * (xs.length / 8)) := List.take_of_length_le (by omega)
  refine ⟨(List.range (xs.length / 8)).map fun k => le8 ((xs.drop (8 * k)).take 8), le8 (xs.drop (8 * (xs.length / 8))), ?_, ?_, ?_⟩
  · unfold packs
    rw [e2, List.range_succ, List.map_append, List.map_cons, List.map_nil, e4]
  · rw [← e3]; exact le8_lt _
  · unfold packs
    rw [e1, List.range_succ, List.map_append, packs_ahead xs b (by omega), List.map_cons, List.map_nil]
    rw [List.drop_append_of_le_length (by omega), List.take_of_length_le (by rw [List.length_append, e3]; simp; omega), le8_push, e3]
theorem packs_cons (t : List UInt8) (h : t ≠ []) : packs t = le8 (t.take 8) :: packs (t.drop 8) := by
  have hp : 0 < t.length := List.length_pos_iff.2 h
  have e1 : (t.length + 7) / 8 = ((t.drop 8).length + 7) / 8 + 1 := by rw [List.length_drop]; omega
  unfold packs
  rw [e1, List.range_succ_eq_map, List.map_cons, List.map_map]
  congr 1
  apply List.map_congr_left
  intro k _
  simp only [Function.comp, List.drop_drop, Nat.succ_eq_add_one]
  rw [show 8 * (k + 1) = 8 + 8 * k by omega]

def numW (o : Ob) : List Nat := if isNum o.kind = true then [(o.num % 18446744073709551616).toNat] else []
def headW (o : Ob) : Nat := o.kind.toNat + 256 * o.text.length + 1048576 * o.parts.length
def wordsF (o : Ob) : List Nat := headW o :: (numW o ++ packs o.text ++ o.parts)
theorem numW_le (o : Ob) : (numW o).length ≤ 1 := by unfold numW; split <;> simp
theorem wordsF_len (o : Ob) : (wordsF o).length = 1 + (numW o).length + (o.text.length + 7) / 8 + o.parts.length := by
  simp only [wordsF, List.length_cons, List.length_append, packs_len]; omega
theorem wordsF_pos (o : Ob) : 0 < (wordsF o).length := by rw [wordsF_len]; omega
theorem wordsF_le {o : Ob} (h : OkO o) : (wordsF o).length ≤ 410 := by
  have := numW_le o
  obtain ⟨_, _, h1, h2, _⟩ := h
  rw [wordsF_len]; omega
theorem headW_lt {o : Ob} (h : OkO o) : headW o < 4294967296 := by
  obtain ⟨h0, h5, h1, h2, _⟩ := h
  unfold headW; omega

/-- what is read at a place of a heap -/
def bytesF (hd : Nat) : Nat := hd / 256 % 4096
def partsF (hd : Nat) : Nat := hd / 1048576
def kindF (hd : Nat) : Int := ((hd % 256 : Nat) : Int)
def restF (h : List Nat) (p hd : Nat) : List Nat := if isNum (kindF hd) = true then h.drop (p + 2) else h.drop (p + 1)
def textF (r : List Nat) (n : Nat) : List UInt8 := (List.range n).map fun i => UInt8.ofNat (r.getD (i / 8) 0 / 256 ^ (i % 8) % 256)
theorem textF_len (r : List Nat) (n : Nat) : (textF r n).length = n := by simp [textF]
theorem textF_zero (r : List Nat) : textF r 0 = [] := rfl
theorem textF_succ (r : List Nat) (n : Nat) : textF r (n + 1) = textF r n ++ [UInt8.ofNat (r.getD (n / 8) 0 / 256 ^ (n % 8) % 256)] := by
  simp [textF, List.range_succ]
def numF (h : List Nat) (p hd : Nat) : Int := if isNum (kindF hd) = true ∧ p + 1 < h.length then wrap64 (h.getD (p + 1) 0 : Nat) else 0
def obF (h : List Nat) (p hd : Nat) : Ob := ⟨p, kindF hd, numF h p hd, textF (restF h p hd) (bytesF hd), ((restF h p hd).drop ((bytesF hd + 7) / 8)).take (partsF hd)⟩
def OkAt (h : List Nat) (p hd : Nat) : Prop := OkO (obF h p hd) ∧ (h.drop p).take (wordsF (obF h p hd)).length = wordsF (obF h p hd)
instance (h : List Nat) (p hd : Nat) : Decidable (OkAt h p hd) := by unfold OkAt; infer_instance
def progF (h : List Nat) (p : Nat) : Option Ob :=
  if 64 < bytesF (h.getD p 0) ∨ 400 < partsF (h.getD p 0) ∨ (restF h p (h.getD p 0)).length < (bytesF (h.getD p 0) + 7) / 8 + partsF (h.getD p 0) then none
  else if OkAt h p (h.getD p 0) then some (obF h p (h.getD p 0)) else none
def refF (h : List Nat) (p : Nat) : Option Ob :=
  if 4294967296 ≤ h.getD p 0 then none
  else if isNum (kindF (h.getD p 0)) = true ∧ h.length ≤ p + 1 then none
  else if (restF h p (h.getD p 0)).length < (bytesF (h.getD p 0) + 7) / 8 + partsF (h.getD p 0) then none
  else if OkAt h p (h.getD p 0) then some (obF h p (h.getD p 0)) else none
theorem refF_eq (h : List Nat) (p : Nat) (hp : p < h.length) : refF h p = progF h p := by
  unfold refF progF
  generalize h.getD p 0 = hd
  by_cases h1 : 4294967296 ≤ hd
  · rw [if_pos h1, if_pos (Or.inr (Or.inl (by unfold partsF; omega)))]
  rw [if_neg h1]
  by_cases h2 : isNum (kindF hd) = true ∧ h.length ≤ p + 1
  · rw [if_pos h2]
    split
    · rfl
    · rw [if_neg]
      rintro ⟨_, he⟩
      have hl := congrArg List.length he
      have hk : (numW (obF h p hd)).length = 1 := by
        unfold numW
        rw [if_pos (by exact h2.1)]
        rfl
      rw [List.length_take, List.length_drop, wordsF_len, hk] at hl
      omega
  rw [if_neg h2]
  by_cases h3 : (restF h p hd).length < (bytesF hd + 7) / 8 + partsF hd
  · rw [if_pos h3, if_pos (Or.inr (Or.inr h3))]
  rw [if_neg h3]
  by_cases h4 : 64 < bytesF hd ∨ 400 < partsF hd
  · rw [if_neg, if_pos (by rcases h4 with h4 | h4 <;> simp [h4])]
    rintro ⟨⟨_, _, h5, h6, _⟩, _⟩
    have e1 : (obF h p hd).text.length = bytesF hd := textF_len _ _
    have e2 : (obF h p hd).parts.length = partsF hd := by
      show (((restF h p hd).drop ((bytesF hd + 7) / 8)).take (partsF hd)).length = _
      rw [List.length_take, List.length_drop]
      omega
    omega
  · rw [if_neg (show ¬(64 < bytesF hd ∨ 400 < partsF hd ∨ (restF h p hd).length < (bytesF hd + 7) / 8 + partsF hd) by omega)]
theorem progF_ok {h : List Nat} {p : Nat} {o : Ob} (e : progF h p = some o) : OkO o ∧ p + (wordsF o).length ≤ h.length ∧ o.at_ = p := by
  unfold progF at e
  split at e
  · cases e
  · split at e
    · rename_i h1 h2
      injection e with e
      subst e
      obtain ⟨h3, h4⟩ := h2
      refine ⟨h3, ?_, rfl⟩
      have hl := congrArg List.length h4
      have hpos := wordsF_pos (obF h p (h.getD p 0))
      rw [List.length_take, List.length_drop] at hl
      omega
    · cases e

/-- all objects from a place on -/
def objsF (h : List Nat) : Nat → Nat → Option (List Ob)
  | 0, p => if h.length ≤ p then some [] else none
  | f + 1, p => if h.length ≤ p then some [] else match progF h p with
    | none => none
    | some o => (objsF h f (p + (wordsF o).length)).map (o :: ·)
theorem objsF_end (h : List Nat) {f p : Nat} (hp : h.length ≤ p) : objsF h f p = some [] := by
  cases f <;> simp [objsF, hp]
theorem objsF_go (h : List Nat) {f p : Nat} (hp : p < h.length) : objsF h (f + 1) p = match progF h p with
    | none => none
    | some o => (objsF h f (p + (wordsF o).length)).map (o :: ·) := by
  rw [objsF, if_neg (by omega)]
/-- the fuel does not matter where it suffices -/
theorem objsF_fuel (h : List Nat) : ∀ (f p : Nat), h.length - p ≤ f → objsF h f p = objsF h (h.length - p) p := by
  intro f
  induction f using Nat.strongRecOn with
  | ind f ih =>
    intro p hf
    rcases Nat.lt_or_ge p h.length with hp | hp
    · obtain ⟨f', rfl⟩ : ∃ f', f = f' + 1 := ⟨f - 1, by omega⟩
      obtain ⟨g, hg⟩ : ∃ g, h.length - p = g + 1 := ⟨h.length - p - 1, by omega⟩
      rw [hg, objsF_go h hp, objsF_go h hp]
      cases he : progF h p with
      | none => rfl
      | some o =>
        have hpos := wordsF_pos o
        dsimp only
        rcases Nat.lt_or_ge g f' with hlt | hge
        · rw [ih f' (by omega) _ (by omega), ih g (by omega) _ (by omega)]
        · obtain rfl : f' = g := by omega
          rfl
    · rw [objsF_end h hp, objsF_end h hp]
def allF (h : List Nat) (p : Nat) : Option (List Ob) := objsF h (h.length - p) p
theorem allF_end (h : List Nat) {p : Nat} (hp : h.length ≤ p) : allF h p = some [] := objsF_end h hp
theorem allF_none (h : List Nat) {p : Nat} (hp : p < h.length) (e : progF h p = none) : allF h p = none := by
  unfold allF
  obtain ⟨g, hg⟩ : ∃ g, h.length - p = g + 1 := ⟨h.length - p - 1, by omega⟩
  rw [hg, objsF_go h hp, e]
theorem allF_some (h : List Nat) {p : Nat} {o : Ob} (hp : p < h.length) (e : progF h p = some o) : allF h p = (allF h (p + (wordsF o).length)).map (o :: ·) := by
  have hpos := wordsF_pos o
  unfold allF
  obtain ⟨g, hg⟩ : ∃ g, h.length - p = g + 1 := ⟨h.length - p - 1, by omega⟩
  rw [hg, objsF_go h hp, e]
  dsimp only
  rw [objsF_fuel h g _ (by omega)]
end Go.Proofs.Ytdjahlkjfpbifaa
