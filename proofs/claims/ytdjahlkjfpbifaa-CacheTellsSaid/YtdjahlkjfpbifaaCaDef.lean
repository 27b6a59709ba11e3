
/-
  Call sites: what they remember (plain law).
-/
import Derived.Test.YtdjahlkjfpbifaaKey2
import Derived.Test.YtdjahlkjfpbifaaQueue
import Derived.Test.YtdjahlkjfpbifaaOwnOnly
namespace Go.Proofs.Ytdjahlkjfpbifaa

/-- An entry of a call site. -/
structure Wa where
  tag : ByteArray
  fn : Int
deriving DecidableEq
def wa0 : Wa := ⟨⟨#[]⟩, 0⟩
/-- A function of a name for a type. -/
structure Im where
  name : ByteArray
  typ : ByteArray
  fn : Int
deriving DecidableEq
def im0 : Im := ⟨⟨#[]⟩, ⟨#[]⟩, 0⟩

def isTag (t : ByteArray) (x : Wa) : Bool := x.tag.toList == t.toList
def isIm (n t : ByteArray) (x : Im) : Bool := x.name.toList == n.toList && x.typ.toList == t.toList
/-- What the call sites remember. -/
def Tab : Type := K2 → List Wa
/-- Where the entry stands, or -1; where the function stands, or -1. -/
def waAt (l : List Wa) (t : ByteArray) : Int := idxAt (isTag t) l 0
def imAt (l : List Im) (n t : ByteArray) : Int := idxAt (isIm n t) l 0
/-- One entry to the front. -/
def frontF (l : List Wa) (i : Nat) : List Wa := l.getD i wa0 :: (l.take i ++ l.drop (i + 1))
/-- What a site remembers behind a question. -/
def lookL (ims : List Im) (l : List Wa) (n t : ByteArray) : List Wa :=
  if 0 ≤ waAt l t then frontF l (waAt l t).toNat
  else if 0 ≤ imAt ims n t then (⟨t, (ims.getD (imAt ims n t).toNat im0).fn⟩ :: l).take 4 else l
/-- What is answered: a function, an errno. -/
def lookR (ims : List Im) (l : List Wa) (n t : ByteArray) : Int × Int :=
  if 0 ≤ waAt l t then ((l.getD (waAt l t).toNat wa0).fn, 0)
  else if 0 ≤ imAt ims n t then ((ims.getD (imAt ims n t).toNat im0).fn, 0) else (0, 4)
def isHit (l : List Wa) (t : ByteArray) : Bool := decide (0 ≤ waAt l t)
theorem idxAt_rangeC {α : Type} (f : α → Bool) : ∀ (l : List α) (k : Int), 0 ≤ k → idxAt f l k = -1 ∨ (k ≤ idxAt f l k ∧ idxAt f l k < k + l.length)
  | [], _, _ => .inl rfl
  | x :: r, k, hk => by
    unfold idxAt
    by_cases h : f x = true
    · rw [if_pos h]; right; simp; omega
    · rw [if_neg h]
      rcases idxAt_rangeC f r (k + 1) (by omega) with h | h
      · exact .inl h
      · right; simp; omega
theorem front_len {l : List Wa} {i : Nat} (hi : i < l.length) : (frontF l i).length = l.length := by
  unfold frontF
  simp only [List.length_cons, List.length_append, List.length_take, List.length_drop]
  omega
theorem look_len (ims : List Im) (l : List Wa) (n t : ByteArray) (h : l.length ≤ 4) : (lookL ims l n t).length ≤ 4 := by
  unfold lookL
  by_cases h1 : 0 ≤ waAt l t
  · rw [if_pos h1]
    rcases idxAt_rangeC (isTag t) l 0 (Int.le_refl _) with h2 | h2
    · unfold waAt at h1; omega
    · rw [front_len (by unfold waAt at *; omega)]
      exact h
  · rw [if_neg h1]
    by_cases h2 : 0 ≤ imAt ims n t
    · rw [if_pos h2, List.length_take]
      omega
    · rw [if_neg h2]
      exact h
end Go.Proofs.Ytdjahlkjfpbifaa
