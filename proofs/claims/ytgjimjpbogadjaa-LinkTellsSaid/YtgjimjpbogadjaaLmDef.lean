
/-
  Quotas (package limit): rows in plain form, what is wrong with them, and what each call answers.
-/
import Derived.Test.YtgjimjpbogadjaaQueue
namespace Go.Proofs.Ytgjimjpbogadjaa

/-- A row: whose it is, letters and cells in use, and their maxima. -/
structure Lm where
  ref : Int
  lt : Int
  ce : Int
  ml : Int
  mc : Int
deriving DecidableEq
def lm0 : Lm := ⟨0, 0, 0, 0, 0⟩
def amt (n : Int) : Bool := decide (0 ≤ n ∧ n ≤ 1073741824)
/-- Is a row right by itself? -/
def okLm (x : Lm) : Bool := (amt x.ml && amt x.mc) && (decide (0 ≤ x.lt ∧ x.lt ≤ x.ml) && decide (0 ≤ x.ce ∧ x.ce ≤ x.mc))
/-- What is wrong with rows, behind those that end at p. -/
def lmGo : Option Int → List Lm → Int
  | _, [] => 0
  | p, x :: r => if okLm x = false then 1 else if p.any (fun q => decide (x.ref ≤ q)) = true then 21 else lmGo (some x.ref) r
def lmF (l : List Lm) : Int := if 100 < l.length then 2 else lmGo none l
def isRef (n : Int) (x : Lm) : Bool := x.ref == n
def lmAt (l : List Lm) (n : Int) : Int := idxAt (isRef n) l 0
def beginE (l : List Lm) (n : Int) : Int := if lmF l ≠ 0 then lmF l else if lmAt l n < 0 then 4 else 0

/-- What Take finds wrong with a row and two amounts. -/
def tkE (r : Lm) (a b : Int) : Int := if (amt a && amt b) = false then 1 else if r.ml < r.lt + a then 6 else if r.mc < r.ce + b then 2 else 0
def gvE (r : Lm) (a b : Int) : Int := if (amt a && amt b) = false ∨ r.lt < a ∨ r.ce < b then 1 else 0
def fkE (l : List Lm) (r : Lm) (k : Int) (a b : Int) : Int := if 0 ≤ k then 5 else if tkE r a b ≠ 0 then tkE r a b else if l.length = 100 then 6 else 0
def jnE (l : List Lm) (i : Nat) (k : Int) : Int :=
  if k < 0 then 4 else if k = i then 18 else if 1073741824 < (l.getD i lm0).ml + (l.getD k.toNat lm0).ml ∨ 1073741824 < (l.getD i lm0).mc + (l.getD k.toNat lm0).mc then 2 else 0

def tkR (r : Lm) (a b : Int) : Lm := ⟨r.ref, r.lt + a, r.ce + b, r.ml, r.mc⟩
def gvR (r : Lm) (a b : Int) : Lm := ⟨r.ref, r.lt - a, r.ce - b, r.ml, r.mc⟩
def fkR (r : Lm) (a b : Int) : Lm := ⟨r.ref, r.lt, r.ce, r.ml - a, r.mc - b⟩
def jnR (r s : Lm) : Lm := ⟨r.ref, r.lt, r.ce, r.ml + s.ml, r.mc + s.mc⟩
/-- A row laid into its order. -/
def putLm (x : Lm) : List Lm → List Lm
  | [] => [x]
  | y :: r => if y.ref < x.ref then y :: putLm x r else x :: y :: r

def takeF (l : List Lm) (n a b : Int) : Int × List Lm :=
  if beginE l n ≠ 0 then (beginE l n, []) else
    let i := (lmAt l n).toNat
    if tkE (l.getD i lm0) a b ≠ 0 then (tkE (l.getD i lm0) a b, []) else (0, l.set i (tkR (l.getD i lm0) a b))
def giveF (l : List Lm) (n a b : Int) : Int × List Lm :=
  if beginE l n ≠ 0 then (beginE l n, []) else
    let i := (lmAt l n).toNat
    if gvE (l.getD i lm0) a b ≠ 0 then (gvE (l.getD i lm0) a b, []) else (0, l.set i (gvR (l.getD i lm0) a b))
def forkF (l : List Lm) (n to a b : Int) : Int × List Lm :=
  if beginE l n ≠ 0 then (beginE l n, []) else
    let i := (lmAt l n).toNat
    if fkE l (l.getD i lm0) (lmAt l to) a b ≠ 0 then (fkE l (l.getD i lm0) (lmAt l to) a b, []) else (0, putLm ⟨to, 0, 0, a, b⟩ (l.set i (fkR (l.getD i lm0) a b)))
def joinF (l : List Lm) (n to : Int) : Int × List Lm :=
  if beginE l n ≠ 0 then (beginE l n, []) else
    let i := (lmAt l n).toNat
    let k := (lmAt l to).toNat
    if jnE l i (lmAt l to) ≠ 0 then (jnE l i (lmAt l to), []) else (0, (l.set k (jnR (l.getD k lm0) (l.getD i lm0))).eraseIdx i)

/-- What rows that are right are. -/
structure LmOk (l : List Lm) : Prop where
  len : l.length ≤ 100
  rows : ∀ x ∈ l, 0 ≤ x.lt ∧ x.lt ≤ x.ml ∧ x.ml ≤ 1073741824 ∧ 0 ≤ x.ce ∧ x.ce ≤ x.mc ∧ x.mc ≤ 1073741824
  sort : l.Pairwise (fun a b => a.ref < b.ref)
theorem okLm_iff (x : Lm) : okLm x = true ↔ 0 ≤ x.lt ∧ x.lt ≤ x.ml ∧ x.ml ≤ 1073741824 ∧ 0 ≤ x.ce ∧ x.ce ≤ x.mc ∧ x.mc ≤ 1073741824 := by
  unfold okLm amt
  simp only [Bool.and_eq_true, decide_eq_true_eq]
  omega
theorem lmGo_ok : ∀ (l : List Lm) (p : Option Int), lmGo p l = 0 → ∀ x ∈ l, okLm x = true
  | [], _, _, _, hx => by cases hx
  | y :: r, p, h, x, hx => by
    unfold lmGo at h
    by_cases h1 : okLm y = false
    · rw [if_pos h1] at h; cases h
    rw [if_neg h1] at h
    by_cases h2 : p.any (fun q => decide (y.ref ≤ q)) = true
    · rw [if_pos h2] at h; cases h
    rw [if_neg h2] at h
    rcases List.mem_cons.1 hx with rfl | hx
    · simpa using h1
    · exact lmGo_ok r _ h x hx
theorem lmGo_sort : ∀ (l : List Lm) (p : Option Int), lmGo p l = 0 → l.Pairwise (fun a b => a.ref < b.ref) ∧ ∀ q, p = some q → ∀ x ∈ l, q < x.ref
  | [], _, _ => ⟨List.Pairwise.nil, fun _ _ _ hx => by cases hx⟩
  | y :: r, p, h => by
    unfold lmGo at h
    by_cases h1 : okLm y = false
    · rw [if_pos h1] at h; cases h
    rw [if_neg h1] at h
    by_cases h2 : p.any (fun q => decide (y.ref ≤ q)) = true
    · rw [if_pos h2] at h; cases h
    rw [if_neg h2] at h
    obtain ⟨h3, h4⟩ := lmGo_sort r _ h
    refine ⟨List.pairwise_cons.2 ⟨fun x hx => h4 _ rfl x hx, h3⟩, ?_⟩
    rintro q rfl x hx
    have h5 : q < y.ref := by simpa using h2
    rcases List.mem_cons.1 hx with rfl | hx
    · exact h5
    · have := h4 _ rfl x hx; omega
theorem lmF_ok {l : List Lm} (h : lmF l = 0) : LmOk l := by
  unfold lmF at h
  by_cases h1 : 100 < l.length
  · rw [if_pos h1] at h; cases h
  rw [if_neg h1] at h
  exact ⟨by omega, fun x hx => (okLm_iff x).1 (lmGo_ok l none h x hx), (lmGo_sort l none h).1⟩
theorem lmGo_drop (p : Option Int) (l : List Lm) {k : Nat} (hk : k < l.length) : lmGo p (l.drop k) =
    if okLm (l.getD k lm0) = false then 1 else if p.any (fun q => decide ((l.getD k lm0).ref ≤ q)) = true then 21 else lmGo (some (l.getD k lm0).ref) (l.drop (k + 1)) := by
  rw [drop_getD l lm0 hk]
  rfl
theorem idxAt_range {α : Type} (f : α → Bool) : ∀ (l : List α) (k : Int), 0 ≤ k → idxAt f l k = -1 ∨ (k ≤ idxAt f l k ∧ idxAt f l k < k + l.length)
  | [], _, _ => .inl rfl
  | x :: r, k, hk => by
    unfold idxAt
    by_cases h : f x = true
    · rw [if_pos h]; right; simp; omega
    · rw [if_neg h]
      rcases idxAt_range f r (k + 1) (by omega) with h | h
      · exact .inl h
      · right; simp; omega
/-- The row is there, or the number is -1. -/
theorem lmAt_range (l : List Lm) (n : Int) : lmAt l n = -1 ∨ ∃ i : Nat, lmAt l n = (i : Int) ∧ i < l.length := by
  rcases idxAt_range (isRef n) l 0 (by omega) with h | ⟨h1, h2⟩
  · exact .inl h
  · right
    obtain ⟨i, hi⟩ := Int.eq_ofNat_of_zero_le h1
    exact ⟨i, hi, by have : idxAt (isRef n) l 0 = (i : Int) := hi; omega⟩
end Go.Proofs.Ytgjimjpbogadjaa
