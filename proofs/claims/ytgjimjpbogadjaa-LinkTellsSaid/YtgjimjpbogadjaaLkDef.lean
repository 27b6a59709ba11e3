
/-
  Links: rows, what they read as; the plain law.
-/
import Derived.Test.YtgjimjpbogadjaaStealDef
import Derived.Test.YtgjimjpbogadjaaLmDef
namespace Go.Proofs.Ytgjimjpbogadjaa
open Go.RowKit

structure Lk where
  ref : Int
  ws : List Int
  ls : List Int
def lk0 : Lk := ⟨0, [], []⟩
structure LkC where
  r : Int
  W : BC
  L : BC
def lkc0 : LkC := ⟨0, bc0, bc0⟩
/-- The three cells read as a row. -/
def LkIn (w : World) (S : Nat → Prop) (n : Nat) (x : LkC) (v : Lk) : Prop := x.r = v.ref ∧ IIn w S n x.W v.ws ∧ IIn w S n x.L v.ls
theorem LkIn.keep {w w' : World} {S S' : Nat → Prop} (hk : ∀ p : Addr, S p.block → w'.cell? p = w.cell? p) (hS : ∀ b, S b → S' b) {n : Nat} {x : LkC} {v : Lk} (h : LkIn w S n x v) : LkIn w' S' n x v :=
  ⟨h.1, h.2.1.keep hk hS, h.2.2.keep hk hS⟩
theorem LkIn.below {w w' : World} {B : Nat} {S : Nat → Prop} (hb : Below B w w') (hS : ∀ b, S b → b < B) {n : Nat} {x : LkC} {v : Lk} (h : LkIn w S n x v) : LkIn w' S n x v := h.keep (fun _ hp => hb.cell (hS _ hp)) fun _ h => h
theorem LkIn.lt {w : World} {S : Nat → Prop} {n : Nat} {x : LkC} {v : Lk} (h : LkIn w S n x v) : LkIn w (fun b => S b ∧ b < w.heap.size) n x v := ⟨h.1, h.2.1.lt, h.2.2.lt⟩
theorem LkIn.all {w : World} {S : Nat → Prop} {n : Nat} {x : LkC} {v : Lk} (h : LkIn w S n x v) : LkIn w (· < w.heap.size) n x v := h.lt.keep (fun _ _ => rfl) fun _ h => h.2

/-- Is a number there twice? (pre: what has been looked at) -/
def dupGo : List Int → List Int → Bool
  | _, [] => false
  | pre, x :: r => if pre.contains x then true else dupGo (pre ++ [x]) r
/-- A row's fault, as the rows' check finds it; p is the number ahead. -/
def lkOne (p : Option Int) (x : Lk) : Int :=
  if x.ref < 1 ∨ 100 < x.ws.length ∨ 100 < x.ls.length then 1 else if p.any (fun q => decide (x.ref ≤ q)) = true then 21 else if dupGo [] x.ls = true then 5 else 0
def lkGo : Option Int → List Lk → Int
  | _, [] => 0
  | p, x :: r => if lkOne p x ≠ 0 then lkOne p x else lkGo (some x.ref) r
def lkF (l : List Lk) : Int := if 100 < l.length then 2 else lkGo none l
def isLk (n : Int) (x : Lk) : Bool := x.ref == n
def lkAt (l : List Lk) (n : Int) : Int := idxAt (isLk n) l 0
def lkBeg (l : List Lk) (n : Int) : Int := if lkF l ≠ 0 then lkF l else if lkAt l n < 0 then 4 else 0

/-- A row put where its number belongs. -/
def putLk (x : Lk) : List Lk → List Lk
  | [] => [x]
  | y :: r => if y.ref < x.ref then y :: putLk x r else x :: y :: r
def addE (l : List Lk) (n : Int) : Int := if n < 1 then 1 else if 0 ≤ lkAt l n then 5 else if l.length = 100 then 6 else 0
def addF (l : List Lk) (n : Int) : Int × List Lk := if lkF l ≠ 0 then (lkF l, []) else if addE l n ≠ 0 then (addE l n, []) else (0, putLk ⟨n, [], []⟩ l)
def watF (l : List Lk) (b n : Int) : Int × List Lk :=
  if lkBeg l n ≠ 0 then (lkBeg l n, []) else
    if (l.getD (lkAt l n).toNat lk0).ws.length = 100 then (6, []) else
      (0, l.set (lkAt l n).toNat ⟨(l.getD (lkAt l n).toNat lk0).ref, (l.getD (lkAt l n).toNat lk0).ws ++ [b], (l.getD (lkAt l n).toNat lk0).ls⟩)
def linF (l : List Lk) (n t : Int) : Int × List Lk :=
  if lkBeg l n ≠ 0 then (lkBeg l n, []) else
    if (l.getD (lkAt l n).toNat lk0).ls.contains t = true then (0, l) else
      if (l.getD (lkAt l n).toNat lk0).ls.length = 100 then (6, []) else
        (0, l.set (lkAt l n).toNat ⟨(l.getD (lkAt l n).toNat lk0).ref, (l.getD (lkAt l n).toNat lk0).ws, (l.getD (lkAt l n).toNat lk0).ls ++ [t]⟩)
def isF (l : List Lk) (n t : Int) : Bool × Int :=
  if lkBeg l n ≠ 0 then (false, lkBeg l n) else ((l.getD (lkAt l n).toNat lk0).ls.contains t, 0)

theorem dupGo_drop (l : List Int) {k : Nat} (hk : k < l.length) : dupGo (l.take k) (l.drop k) = if (l.take k).contains (l.getD k 0) then true else dupGo (l.take (k + 1)) (l.drop (k + 1)) := by
  rw [List.drop_eq_getElem_cons hk, List.take_succ_eq_append_getElem hk]
  have : l.getD k 0 = l[k] := by simp [List.getD_eq_getElem?_getD, List.getElem?_eq_getElem hk]
  rw [this]
  rfl
theorem lkGo_drop (p : Option Int) (l : List Lk) {k : Nat} (hk : k < l.length) : lkGo p (l.drop k) =
    if lkOne p (l.getD k lk0) ≠ 0 then lkOne p (l.getD k lk0) else lkGo (some (l.getD k lk0).ref) (l.drop (k + 1)) := by
  rw [List.drop_eq_getElem_cons hk]
  have : l.getD k lk0 = l[k] := by simp [List.getD_eq_getElem?_getD, List.getElem?_eq_getElem hk]
  rw [this]
  rfl
theorem lkAt_range (l : List Lk) (n : Int) : lkAt l n = -1 ∨ ∃ i : Nat, lkAt l n = (i : Int) ∧ i < l.length := by
  rcases idxAt_range (isLk n) l 0 (by omega) with h | ⟨h1, h2⟩
  · exact .inl h
  · right
    obtain ⟨i, hi⟩ := Int.eq_ofNat_of_zero_le h1
    exact ⟨i, hi, by have : idxAt (isLk n) l 0 = (i : Int) := hi; omega⟩

/-- What the check of one row makes of the whole result. -/
theorem lk_step {p : Option Int} {x : Lk} {R t : Int} (h : R = if lkOne p x ≠ 0 then lkOne p x else t) :
    ((x.ref < 1 ∨ 100 < x.ws.length ∨ 100 < x.ls.length) → R = 1) ∧
    (¬ (x.ref < 1 ∨ 100 < x.ws.length ∨ 100 < x.ls.length) → (p.any (fun q => decide (x.ref ≤ q)) = true → R = 21) ∧
      (p.any (fun q => decide (x.ref ≤ q)) = false → (dupGo [] x.ls = true → R = 5) ∧ (dupGo [] x.ls = false → R = t))) := by
  refine ⟨fun h1 => ?_, fun h1 => ⟨fun h2 => ?_, fun h2 => ⟨fun h3 => ?_, fun h3 => ?_⟩⟩⟩
  · have e : lkOne p x = 1 := by unfold lkOne; rw [if_pos h1]
    rw [e] at h; exact h
  · have e : lkOne p x = 21 := by unfold lkOne; rw [if_neg h1, if_pos h2]
    rw [e] at h; exact h
  · have e : lkOne p x = 5 := by unfold lkOne; rw [if_neg h1, h2, if_neg (by decide), if_pos h3]
    rw [e] at h; exact h
  · have e : lkOne p x = 0 := by unfold lkOne; rw [if_neg h1, h2, if_neg (by decide), h3, if_neg (by decide)]
    rw [e] at h; exact h

theorem lkOne_ok {p : Option Int} {x : Lk} (h : lkOne p x = 0) : 1 ≤ x.ref ∧ x.ws.length ≤ 100 ∧ x.ls.length ≤ 100 ∧ ∀ q, p = some q → q < x.ref := by
  unfold lkOne at h
  by_cases h1 : x.ref < 1 ∨ 100 < x.ws.length ∨ 100 < x.ls.length
  · rw [if_pos h1] at h; cases h
  · rw [if_neg h1] at h
    by_cases h2 : p.any (fun q => decide (x.ref ≤ q)) = true
    · rw [if_pos h2] at h; cases h
    · refine ⟨by omega, by omega, by omega, fun q hq => ?_⟩
      subst hq
      simp at h2
      exact h2
theorem lkGo_ok : ∀ (l : List Lk) (p : Option Int), lkGo p l = 0 → (∀ x ∈ l, 1 ≤ x.ref ∧ x.ws.length ≤ 100 ∧ x.ls.length ≤ 100) ∧ l.Pairwise (fun a b => a.ref < b.ref) ∧ ∀ q, p = some q → ∀ x ∈ l, q < x.ref
  | [], _, _ => ⟨(fun x hx => by cases hx), List.Pairwise.nil, fun q _ x hx => by cases hx⟩
  | y :: r, p, h => by
    unfold lkGo at h
    by_cases h1 : lkOne p y ≠ 0
    · rw [if_pos h1] at h; exact absurd h h1
    · rw [if_neg h1] at h
      have h1' : lkOne p y = 0 := by simpa using h1
      obtain ⟨a1, a2, a3, a4⟩ := lkOne_ok h1'
      obtain ⟨b1, b2, b3⟩ := lkGo_ok r _ h
      refine ⟨?_, List.pairwise_cons.2 ⟨fun x hx => b3 _ rfl x hx, b2⟩, ?_⟩
      · intro x hx
        rcases List.mem_cons.1 hx with rfl | hx
        · exact ⟨a1, a2, a3⟩
        · exact b1 x hx
      · intro q hq x hx
        have := a4 q hq
        rcases List.mem_cons.1 hx with rfl | hx
        · exact this
        · have := b3 _ rfl x hx
          omega
structure LkOk (l : List Lk) : Prop where
  len : l.length ≤ 100
  rows : ∀ x ∈ l, 1 ≤ x.ref ∧ x.ws.length ≤ 100 ∧ x.ls.length ≤ 100
  sort : l.Pairwise (fun a b => a.ref < b.ref)
theorem lkF_ok {l : List Lk} (h : lkF l = 0) : LkOk l := by
  unfold lkF at h
  by_cases h1 : 100 < l.length
  · rw [if_pos h1] at h; cases h
  · rw [if_neg h1] at h
    obtain ⟨a, b, _⟩ := lkGo_ok l none h
    exact ⟨by omega, a, b⟩
theorem lkBeg_ok {l : List Lk} {n : Int} (h : lkBeg l n = 0) : LkOk l ∧ lkF l = 0 ∧ ∃ i : Nat, lkAt l n = (i : Int) ∧ i < l.length := by
  unfold lkBeg at h
  by_cases h1 : lkF l ≠ 0
  · rw [if_pos h1] at h; exact absurd h h1
  · rw [if_neg h1] at h
    have h1' : lkF l = 0 := by simpa using h1
    by_cases h2 : lkAt l n < 0
    · rw [if_pos h2] at h; cases h
    · rcases lkAt_range l n with h3 | h3
      · omega
      · exact ⟨lkF_ok h1', h1', h3⟩
end Go.Proofs.Ytgjimjpbogadjaa
