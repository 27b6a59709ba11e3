
/-
  Patterns and values: what fits, and what is bound (plain law).
-/
import Derived.Test.YtdjahlkjfpbifaaValSame
namespace Go.Proofs.Ytdjahlkjfpbifaa

mutual
/-- How many parts there are. -/
def Val.size : Val → Nat
  | .mk _ _ _ l => 1 + Val.sizes l
def Val.sizes : List Val → Nat
  | [] => 0
  | x :: r => x.size + Val.sizes r
end
theorem size_args (p : Val) : p.size = 1 + Val.sizes p.args := by
  cases p
  rfl
theorem size_pos (p : Val) : 1 ≤ p.size := by rw [size_args]; omega
theorem sizes_take : ∀ (l : List Val) (k : Nat), k < l.length → Val.sizes (l.take (k + 1)) = Val.sizes (l.take k) + (l.getD k val0).size
  | [], k, h => by simp at h
  | x :: r, 0, _ => by simp [Val.sizes]
  | x :: r, k + 1, h => by
    have := sizes_take r k (by simpa using h)
    simp only [List.take_succ_cons, Val.sizes, List.getD_cons_succ] at this ⊢
    omega
theorem sizes_le : ∀ (l : List Val) (k : Nat), Val.sizes (l.take k) ≤ Val.sizes l
  | [], k => by simp [Val.sizes]
  | x :: r, 0 => by simp [Val.sizes]
  | x :: r, k + 1 => by
    have := sizes_le r k
    simp only [List.take_succ_cons, Val.sizes]
    omega

/-- The value of a literal pattern. -/
def litF (p v : Val) : Bool :=
  if p.kind = 3 then v.kind == 2 && v.num == p.num
  else if p.kind = 4 then v.kind == 3 && v.num == p.num
  else if p.kind = 5 then v.kind == 4 && v.text.toList == p.text.toList
  else false
/-- The value of a constructor's pattern, its arguments not yet looked at. -/
def mkF (p v : Val) : Bool := v.kind == 5 && v.text.toList == p.text.toList && v.args.length == p.args.length
def bindL (f : Val → Val → Option (List Val)) (ps vs : List Val) : Nat → Option (List Val)
  | 0 => some []
  | k + 1 => (bindL f ps vs k).bind fun xs => (f (ps.getD k val0) (vs.getD k val0)).map (xs ++ ·)
def bindN : Nat → Val → Val → Option (List Val)
  | 0, _, _ => none
  | n + 1, p, v => if p.kind = 1 then some [] else if p.kind = 2 then some [v] else if p.kind = 6 then (if mkF p v then bindL (bindN n) p.args v.args p.args.length else none) else if litF p v then some [] else none
theorem bindL_none (f : Val → Val → Option (List Val)) (ps vs : List Val) {k : Nat} (h : bindL f ps vs k = none) : ∀ m, k ≤ m → bindL f ps vs m = none
  | 0, hm => by
    obtain rfl : k = 0 := by omega
    exact h
  | m + 1, hm => by
    by_cases e : k = m + 1
    · rw [← e]; exact h
    · unfold bindL
      rw [bindL_none f ps vs h m (by omega)]
      rfl
theorem bindL_some {f : Val → Val → Option (List Val)} {ps vs xs ys : List Val} {k : Nat} (h : bindL f ps vs k = some xs) (hf : f (ps.getD k val0) (vs.getD k val0) = some ys) : bindL f ps vs (k + 1) = some (xs ++ ys) := by
  unfold bindL
  rw [h, Option.bind_some, hf]
  rfl
theorem bindL_stop {f : Val → Val → Option (List Val)} {ps vs : List Val} {k : Nat} (hf : f (ps.getD k val0) (vs.getD k val0) = none) (m : Nat) (hm : k < m) : bindL f ps vs m = none := by
  refine bindL_none f ps vs (k := k + 1) ?_ m hm
  unfold bindL
  rw [hf]
  cases bindL f ps vs k <;> rfl
theorem bindL_len {f : Val → Val → Option (List Val)} (ps vs : List Val) (hf : ∀ p v xs, f p v = some xs → xs.length ≤ p.size) : ∀ (k : Nat) (xs : List Val), k ≤ ps.length → bindL f ps vs k = some xs → xs.length ≤ Val.sizes (ps.take k)
  | 0, xs, _, h => by
    unfold bindL at h
    injection h with h
    subst h
    simp
  | k + 1, xs, hk, h => by
    unfold bindL at h
    obtain ⟨ys, h1, h2⟩ := Option.bind_eq_some_iff.1 h
    obtain ⟨zs, h3, rfl⟩ := Option.map_eq_some_iff.1 h2
    have i1 := bindL_len ps vs hf k ys (by omega) h1
    have i2 := hf _ _ _ h3
    rw [List.length_append, sizes_take ps k (by omega)]
    omega
theorem bindN_len : ∀ (n : Nat) (p v : Val) (xs : List Val), bindN n p v = some xs → xs.length ≤ p.size
  | 0, _, _, _, h => by simp [bindN] at h
  | n + 1, p, v, xs, h => by
    have hp := size_pos p
    unfold bindN at h
    by_cases h1 : p.kind = 1
    · rw [if_pos h1] at h
      injection h with h
      subst h
      simp
    rw [if_neg h1] at h
    by_cases h2 : p.kind = 2
    · rw [if_pos h2] at h
      injection h with h
      subst h
      simpa using hp
    rw [if_neg h2] at h
    by_cases h6 : p.kind = 6
    · rw [if_pos h6] at h
      by_cases hm : mkF p v = true
      · rw [if_pos hm] at h
        have := bindL_len p.args v.args (bindN_len n) _ xs (Nat.le_refl _) h
        rw [List.take_length] at this
        rw [size_args]
        omega
      · rw [if_neg hm] at h
        cases h
    rw [if_neg h6] at h
    by_cases hl : litF p v = true
    · rw [if_pos hl] at h
      injection h with h
      subst h
      simp
    · rw [if_neg hl] at h
      cases h
/-- There is room for what the next argument binds. -/
theorem bind_room {n : Nat} {p v : Val} {xs : List Val} {k : Nat} (hk : k < p.args.length) (h : bindL (bindN n) p.args v.args k = some xs) : xs.length + (p.args.getD k val0).size < p.size := by
  have h1 := bindL_len p.args v.args (bindN_len n) k xs (by omega) h
  have h2 := sizes_take p.args k hk
  have h3 := sizes_le p.args (k + 1)
  rw [size_args p]
  omega
/-- The first pattern that a value fits. -/
def firstF (n : Nat) (l : List Val) (v : Val) : Int := idxAt (fun p => (bindN n p v).isSome) l 0
/-- The first letter from a place that some pattern fits; past the end: none. -/
def hitF (f : Let → Int) (ts : List Let) : Nat → Nat → Nat
  | 0, i => i
  | m + 1, i => if 0 ≤ f (ts.getD i let0) then i else hitF f ts m (i + 1)
theorem hitF_le (f : Let → Int) (ts : List Let) : ∀ m i, i ≤ hitF f ts m i ∧ hitF f ts m i ≤ i + m
  | 0, i => ⟨Nat.le_refl _, Nat.le_refl _⟩
  | m + 1, i => by
    unfold hitF
    by_cases h : 0 ≤ f (ts.getD i let0)
    · rw [if_pos h]; omega
    · rw [if_neg h]
      have := hitF_le f ts m (i + 1)
      omega
end Go.Proofs.Ytdjahlkjfpbifaa
