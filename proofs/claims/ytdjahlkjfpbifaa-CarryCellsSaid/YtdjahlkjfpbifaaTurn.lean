
/-
  Package turn and its reference, over []int: Check, ReadyFault, after, NextOf, Next, Round, In.
-/
import Derived.Test.YtdjahlkjfpbifaaEqual
import Derived.IntWalk
namespace Go.Proofs.Ytdjahlkjfpbifaa
open Go.RowKit

/-- Each of the first k elements is greater than the one before it. -/
def incTo (xs : List Int) (k : Nat) : Prop := ∀ i, i + 1 < k → xs.getD i 0 < xs.getD (i + 1) 0
theorem incTo_step {xs : List Int} {k : Nat} (h : incTo xs (k + 1)) (e : xs.getD k 0 < xs.getD (k + 1) 0) : incTo xs (k + 2) := fun i hi => by
  rcases Nat.lt_or_ge (i + 1) (k + 1) with hlt | hge
  · exact h i hlt
  · obtain rfl : i = k := by omega
    exact e
open Classical in
/-- What a ready list's check answers. -/
noncomputable def rf (xs : List Int) : Int := if 100 < xs.length then 2 else if incTo xs xs.length then 0 else 21
theorem rf_large {xs : List Int} (h : 100 < xs.length) : rf xs = 2 := by simp [rf, h]
theorem rf_ok {xs : List Int} (h : xs.length ≤ 100) (hi : incTo xs xs.length) : rf xs = 0 := by
  unfold rf; rw [if_neg (by omega), if_pos hi]
theorem rf_bad {xs : List Int} {k : Nat} (h : xs.length ≤ 100) (hk : k + 1 < xs.length) (hi : ¬ xs.getD k 0 < xs.getD (k + 1) 0) : rf xs = 21 := by
  unfold rf; rw [if_neg (by omega), if_neg (fun hh => hi (hh k hk))]
theorem rf_cases (xs : List Int) : rf xs = 0 ∧ xs.length ≤ 100 ∨ rf xs = 2 ∨ rf xs = 21 := by
  unfold rf
  split
  · exact .inr (.inl rfl)
  · split
    · exact .inl ⟨rfl, by omega⟩
    · exact .inr (.inr rfl)

/-- The next one behind 'last'. -/
def nx (last d : Int) : List Int → Int
  | [] => d
  | x :: r => if last < x then x else nx last d r
def nextOf (xs : List Int) (last : Int) : Int := nx last (xs.getD 0 0) xs
theorem nx_drop (last d : Int) (xs : List Int) (k : Nat) (hk : k < xs.length) : nx last d (xs.drop k) = if last < xs.getD k 0 then xs.getD k 0 else nx last d (xs.drop (k + 1)) := by
  rw [List.drop_eq_getElem_cons hk]
  have : xs.getD k 0 = xs[k] := by simp [List.getD_eq_getElem?_getD, hk]
  rw [this]
  rfl

def sliceLen : Value → Nat
  | .slice _ n _ => n
  | _ => 0
/-- So many turns behind 'last'. -/
def turnsOf (xs : List Int) (last : Int) : Nat → List Int
  | 0 => []
  | t + 1 => turnsOf xs last t ++ [nextOf xs ((turnsOf xs last t).getLastD last)]
def lastOf (xs : List Int) (last : Int) (t : Nat) : Int := (turnsOf xs last t).getLastD last
theorem turnsOf_len (xs : List Int) (last : Int) (t : Nat) : (turnsOf xs last t).length = t := by
  induction t with
  | zero => rfl
  | succ t ih => simp [turnsOf, ih]
theorem turnsOf_succ (xs : List Int) (last : Int) (t : Nat) : turnsOf xs last (t + 1) = turnsOf xs last t ++ [nextOf xs (lastOf xs last t)] := rfl
theorem lastOf_succ (xs : List Int) (last : Int) (t : Nat) : lastOf xs last (t + 1) = nextOf xs (lastOf xs last t) := by
  unfold lastOf
  rw [turnsOf_succ]
  simp [lastOf]

theorem in_any (n a b : Int) (w : World) : Calls Try.prog 63 #[.int .i64 n, .int .i64 a, .int .i64 b] w fun e w' => e = .returned (.bool (decide (a ≤ n ∧ n ≤ b))) ∧ w = w' := by
  by_cases h1 : a ≤ n
  · have d1 : decide (a ≤ n) = true := by simp; omega
    by_cases h2 : n ≤ b
    · have d2 : decide (n ≤ b) = true := by simp; omega
      rw [show decide (a ≤ n ∧ n ≤ b) = true by simp; omega]
      go_enter Try.func63, Try.ntmps63
      go_wp2_with fail
      go_ret
      exact ⟨rfl, rfl⟩
    · have d2 : decide (n ≤ b) = false := by simp; omega
      rw [show decide (a ≤ n ∧ n ≤ b) = false by simp; omega]
      go_enter Try.func63, Try.ntmps63
      go_wp2_with fail
      go_ret
      exact ⟨rfl, rfl⟩
  · have d1 : decide (a ≤ n) = false := by simp; omega
    rw [show decide (a ≤ n ∧ n ≤ b) = false by simp; omega]
    go_enter Try.func63, Try.ntmps63
    go_wp2_with fail
    go_ret
    exact ⟨rfl, rfl⟩

end Go.Proofs.Ytdjahlkjfpbifaa
