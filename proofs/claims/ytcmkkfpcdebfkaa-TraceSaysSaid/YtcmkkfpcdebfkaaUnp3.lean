/-
  Histories unpacked by the reference: the same (plain).
-/
import Derived.Test.YtcmkkfpcdebfkaaReadW
namespace Go.Proofs.Ytcmkkfpcdebfkaa
open Go.RowKit

def evsN : Nat → List Int → Option (List Ev × List Int)
  | 0, l => some ([], l)
  | _ + 1, [] => none
  | n + 1, k :: l => if k % 3 = 0 then (evsN n l).map fun p => ((k / 3, k % 3 + 1, 0) :: p.1, p.2) else
    match l with
    | [] => none
    | m :: l2 => (evsN n l2).map fun p => ((k / 3, k % 3 + 1, m) :: p.1, p.2)
theorem evsN_nil (n : Nat) : evsN (n + 1) [] = none := rfl
theorem evsN_loc {n : Nat} {k : Int} {l : List Int} (h : k % 3 = 0) : evsN (n + 1) (k :: l) = (evsN n l).map fun p => ((k / 3, k % 3 + 1, 0) :: p.1, p.2) := by
  show (if k % 3 = 0 then _ else _) = _
  rw [if_pos h]
theorem evsN_end {n : Nat} {k : Int} (h : k % 3 ≠ 0) : evsN (n + 1) [k] = none := by
  show (if k % 3 = 0 then _ else _) = _
  rw [if_neg h]
theorem evsN_msg {n : Nat} {k m : Int} {l : List Int} (h : k % 3 ≠ 0) : evsN (n + 1) (k :: m :: l) = (evsN n l).map fun p => ((k / 3, k % 3 + 1, m) :: p.1, p.2) := by
  show (if k % 3 = 0 then _ else _) = _
  rw [if_neg h]
theorem ev_rel : ∀ (n : Nat) (r : List UInt8), evsN n (readS r).1 = (evsB n r).map (fun p => (p.1, (readS p.2).1)) ∧ ∀ p, evsB n r = some p → (readS p.2).2 = (readS r).2
  | 0, r => ⟨rfl, fun p hp => by simp only [evsB, Option.some.injEq] at hp; subst hp; rfl⟩
  | n + 1, r => by
    cases hn : numS r with
    | none =>
      have hl : (readS r).1 = [] := by
        by_cases hz : r.length = 0
        · rw [List.eq_nil_of_length_eq_zero hz]; rfl
        · rw [readS_none hz hn]
      rw [hl, evsB_succ, hn]
      exact ⟨rfl, fun p hp => by cases hp⟩
    | some p0 =>
      obtain ⟨k, r1⟩ := p0
      rw [evsB_succ, hn, readS_some hn]
      dsimp only
      by_cases hk : k % 3 = 0
      · have hk' : (k : Int) % 3 = 0 := by omega
        obtain ⟨h1, h2⟩ := ev_rel n r1
        rw [evsN_loc hk', h1, if_pos (by omega), show ((k / 3 : Nat) : Int) = (k : Int) / 3 by omega, show ((k % 3 + 1 : Nat) : Int) = (k : Int) % 3 + 1 by omega]
        refine ⟨by cases evsB n r1 <;> rfl, fun p hp => ?_⟩
        cases hb : evsB n r1 with
        | none => rw [hb] at hp; cases hp
        | some q =>
          rw [hb] at hp
          simp only [Option.map_some, Option.some.injEq] at hp
          subst hp
          exact h2 q hb
      · have hk' : (k : Int) % 3 ≠ 0 := by omega
        rw [if_neg (by omega), show ((k / 3 : Nat) : Int) = (k : Int) / 3 by omega, show ((k % 3 + 1 : Nat) : Int) = (k : Int) % 3 + 1 by omega]
        cases hm : numS r1 with
        | none =>
          have hl : (readS r1).1 = [] := by
            by_cases hz : r1.length = 0
            · rw [List.eq_nil_of_length_eq_zero hz]; rfl
            · rw [readS_none hz hm]
          rw [hl, evsN_end hk']
          exact ⟨rfl, fun p hp => by cases hp⟩
        | some p1 =>
          obtain ⟨m, r2⟩ := p1
          rw [readS_some hm]
          dsimp only
          obtain ⟨h1, h2⟩ := ev_rel n r2
          rw [evsN_msg hk', h1]
          refine ⟨by cases evsB n r2 <;> rfl, fun p hp => ?_⟩
          cases hb : evsB n r2 with
          | none => rw [hb] at hp; cases hp
          | some q =>
            rw [hb] at hp
            simp only [Option.map_some, Option.some.injEq] at hp
            subst hp
            exact h2 q hb
def refU3 (ok : Bool) : Option (List Ev × List Int) → List Ev × Int
  | none => ([], 3)
  | some p => if p.2.length ≠ 0 ∨ ok = false then ([], 3) else if history p.1 ≠ 0 then ([], history p.1) else (p.1, 0)
def refU (ok : Bool) : List Int → List Ev × Int
  | [] => ([], 3)
  | n :: l => if 200 < n then ([], 2) else refU3 ok (evsN n.toNat l)
theorem unp_ref (bs : List UInt8) (h4 : ¬ 4000 < bs.length) : unp bs = refU (readS bs).2 (readS bs).1 := by
  unfold unp
  rw [if_neg h4]
  cases hn : numS bs with
  | none =>
    by_cases hz : bs.length = 0
    · rw [List.eq_nil_of_length_eq_zero hz]; rfl
    · rw [readS_none hz hn]; rfl
  | some p =>
    obtain ⟨n, r⟩ := p
    rw [readS_some hn]
    show (if 200 < n then ([], 2) else unp2 (evsB n r)) = if 200 < (n : Int) then ([], 2) else refU3 (readS r).2 (evsN (n : Int).toNat (readS r).1)
    by_cases h200 : 200 < n
    · rw [if_pos h200, if_pos (by omega)]
    · rw [if_neg h200, if_neg (by omega), Int.toNat_natCast]
      obtain ⟨h1, h2⟩ := ev_rel n r
      rw [h1]
      cases hb : evsB n r with
      | none => rfl
      | some q =>
        obtain ⟨es, rest⟩ := q
        have h3 := h2 _ hb
        rw [← h3]
        show (if rest.length ≠ 0 then _ else _) = if (readS rest).1.length ≠ 0 ∨ (readS rest).2 = false then _ else _
        by_cases hz : rest.length = 0
        · have hnil := List.eq_nil_of_length_eq_zero hz
          subst hnil
          rw [if_neg (show ¬ ([] : List UInt8).length ≠ 0 by simp), if_neg (show ¬ ((readS []).1.length ≠ 0 ∨ (readS []).2 = false) by rw [readS_nil]; simp)]
        · rw [if_pos hz, if_pos]
          cases hm : numS rest with
          | none => rw [readS_none hz hm]; exact .inr rfl
          | some q2 =>
            obtain ⟨m, r2⟩ := q2
            rw [readS_some hm]
            exact .inl (by simp)
end Go.Proofs.Ytcmkkfpcdebfkaa
