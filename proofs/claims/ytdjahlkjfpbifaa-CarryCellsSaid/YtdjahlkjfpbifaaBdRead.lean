
/-
  A word read as a value: the plain law (heap.Read, roadref3.ReadOf).
-/
import Derived.Test.YtdjahlkjfpbifaaBdDef
import Derived.Test.YtdjahlkjfpbifaaHp7
namespace Go.Proofs.Ytdjahlkjfpbifaa
open Go.RowKit

/-- What is new to the first world may turn in the second step. -/
theorem Only.trans2 {S : Nat → Prop} {w w' w'' : World} (h : Only S w w') (k : Only (fun b => b = w.heap.size) w' w'') : Only S w w'' :=
  ⟨k.os.trans h.os, k.tape.trans h.tape, k.output.trans h.output, Nat.le_trans h.size k.size, fun i hi hne => (k.block i (Nat.lt_of_lt_of_le hi h.size) (fun e => by omega)).trans (h.block i hi hne)⟩
theorem Only.trans2' {S : Nat → Prop} {w w' w'' : World} {g : Nat} (h : Only S w w') (k : Only (fun b => b = g) w' w'') (hg : w.heap.size ≤ g) : Only S w w'' :=
  ⟨k.os.trans h.os, k.tape.trans h.tape, k.output.trans h.output, Nat.le_trans h.size k.size, fun i hi hne => (k.block i (Nat.lt_of_lt_of_le hi h.size) (fun e => by omega)).trans (h.block i hi hne)⟩
theorem Only.beneath {S : Nat → Prop} {w w' w'' : World} (h : Only S w w') (k : Below w.heap.size w' w'') : Only S w w'' :=
  ⟨k.os.trans h.os, k.tape.trans h.tape, k.output.trans h.output, Nat.le_trans h.size k.size, fun i hi hne => (k.block i hi).trans (h.block i hi hne)⟩
/-- Which kind of value an object is. -/
def kindOut (k : Int) : Int := if k = 1 then 2 else if k = 2 then 4 else if k = 3 then 5 else if k = 4 then 7 else 8
def foldV (f : Int → Nat → Int × Except Int Val) : Int → List Nat → Int × Except Int (List Val)
  | left, [] => (left, .ok [])
  | left, u :: r => match f left u with
    | (l', .error e) => (l', .error e)
    | (l', .ok v) => match foldV f l' r with
      | (l'', .error e) => (l'', .error e)
      | (l'', .ok vs) => (l'', .ok (v :: vs))
def leafV (u : Nat) : Val := .mk (kindOf ((u : Int) % 8)) (readN (u : Int)) ⟨#[]⟩ []
/-- One step of reading; f reads the parts. -/
def readStep (h : List Nat) (f : Int → Nat → Int × Except Int Val) (left : Int) (u : Nat) : Int × Except Int Val :=
  if left - 1 < 0 then (left - 1, .error 2)
  else if valB (u : Int) = true then (left - 1, .ok (leafV u))
  else if readB (u : Int) = false then (left - 1, .error 3)
  else if (rdF h (readN (u : Int))).2.2 ≠ 0 then (left - 1, .error (rdF h (readN (u : Int))).2.2)
  else match foldV f (left - 1) (rdF h (readN (u : Int))).1.parts with
    | (l', .error e) => (l', .error e)
    | (l', .ok vs) => (l', .ok (.mk (kindOut (rdF h (readN (u : Int))).1.kind) (rdF h (readN (u : Int))).1.num ⟨(rdF h (readN (u : Int))).1.text.toArray⟩ vs))
def readV (h : List Nat) : Nat → Int → Nat → Int × Except Int Val
  | 0 => fun left _ => (left - 1, .error 2)
  | d + 1 => readStep h (readV h d)
theorem kindOf_i64 (m : Int) : I64 (kindOf m) := by
  unfold kindOf I64
  (repeat' split) <;> omega
theorem readN_i64 (u : Int) : I64 (readN u) := by
  unfold readN wrap64 I64
  omega
theorem kindOut_i64 (k : Int) : I64 (kindOut k) := by
  unfold kindOut I64
  (repeat' split) <;> omega
theorem num_i64 (h : List Nat) (p : Int) : I64 (rdF h p).1.num := by
  unfold rdF
  by_cases hp : p < 0 ∨ (h.length : Int) ≤ p
  · rw [if_pos hp]
    exact ⟨by decide, by decide⟩
  · rw [if_neg hp]
    cases ho : progF h p.toNat with
    | none => exact ⟨by decide, by decide⟩
    | some o =>
      dsimp only
      unfold progF at ho
      split at ho
      · cases ho
      · split at ho
        · injection ho with ho
          subst ho
          show I64 (numF _ _ _)
          unfold numF
          split
          · unfold wrap64 I64
            omega
          · exact ⟨by decide, by decide⟩
        · cases ho
theorem nat_u64 {u : Nat} (hu : u < 18446744073709551616) : 0 ≤ (u : Int) ∧ (u : Int) < 18446744073709551616 := by omega
theorem valB_eq (u : Int) : valB u = (readB u && decide (u % 8 ≠ 4)) := rfl
theorem leafV_eq (u : Nat) : leafV u = .mk (kindOf ((u : Int) % 8)) (readN (u : Int)) ⟨#[]⟩ [] := rfl
theorem readV_zero (h : List Nat) (left : Int) (u : Nat) : readV h 0 left u = (left - 1, .error 2) := rfl
theorem readV_succ (h : List Nat) (d : Nat) (left : Int) (u : Nat) : readV h (d + 1) left u = if left - 1 < 0 then (left - 1, .error 2)
  else if valB (u : Int) = true then (left - 1, .ok (leafV u))
  else if readB (u : Int) = false then (left - 1, .error 3)
  else if (rdF h (readN (u : Int))).2.2 ≠ 0 then (left - 1, .error (rdF h (readN (u : Int))).2.2)
  else match foldV (readV h d) (left - 1) (rdF h (readN (u : Int))).1.parts with
    | (l', .error e) => (l', .error e)
    | (l', .ok vs) => (l', .ok (.mk (kindOut (rdF h (readN (u : Int))).1.kind) (rdF h (readN (u : Int))).1.num ⟨(rdF h (readN (u : Int))).1.text.toArray⟩ vs)) := by
  rw [readV]
  unfold readStep
  rfl
/-- How far one has come with the parts. -/
def FoldVSt (f : Int → Nat → Int × Except Int Val) (left : Int) (us : List Nat) (j : Nat) (lj : Int) (vs : List Val) : Prop :=
  vs.length = j ∧ j ≤ us.length ∧ foldV f left us = match foldV f lj (us.drop j) with
    | (l', .error e) => (l', .error e)
    | (l', .ok r) => (l', .ok (vs ++ r))
theorem FoldVSt.nil (f : Int → Nat → Int × Except Int Val) (left : Int) (us : List Nat) : FoldVSt f left us 0 left [] := by
  refine ⟨rfl, Nat.zero_le _, ?_⟩
  rw [List.drop_zero]
  rcases foldV f left us with ⟨l, e | r⟩ <;> rfl
theorem foldV_drop {f : Int → Nat → Int × Except Int Val} {left : Int} {us : List Nat} {j : Nat} (hj : j < us.length) : foldV f left (us.drop j) = match f left (us.getD j 0) with
    | (l', .error e) => (l', .error e)
    | (l', .ok v) => match foldV f l' (us.drop (j + 1)) with
      | (l'', .error e) => (l'', .error e)
      | (l'', .ok vs) => (l'', .ok (v :: vs)) := by
  rw [List.drop_eq_getElem_cons hj, List.getD_eq_getElem?_getD, List.getElem?_eq_getElem hj]
  rfl
theorem FoldVSt.fail {f : Int → Nat → Int × Except Int Val} {left lj l' : Int} {us : List Nat} {j : Nat} {vs : List Val} {e : Int} (s : FoldVSt f left us j lj vs) (hlt : j < us.length) (he : f lj (us.getD j 0) = (l', .error e)) : foldV f left us = (l', .error e) := by
  rw [s.2.2, foldV_drop hlt, he]
theorem FoldVSt.step {f : Int → Nat → Int × Except Int Val} {left lj l' : Int} {us : List Nat} {j : Nat} {vs : List Val} {v : Val} (s : FoldVSt f left us j lj vs) (hlt : j < us.length) (he : f lj (us.getD j 0) = (l', .ok v)) : FoldVSt f left us (j + 1) l' (vs ++ [v]) := by
  refine ⟨by rw [List.length_append, s.1]; rfl, hlt, ?_⟩
  rw [s.2.2, foldV_drop hlt, he]
  dsimp only
  rcases foldV f l' (us.drop (j + 1)) with ⟨l, e | r⟩
  · rfl
  · simp
theorem FoldVSt.done {f : Int → Nat → Int × Except Int Val} {left lj : Int} {us : List Nat} {j : Nat} {vs : List Val} (s : FoldVSt f left us j lj vs) (hj' : us.length ≤ j) : foldV f left us = (lj, .ok vs) := by
  rw [s.2.2, List.drop_eq_nil_of_le hj']
  simp [foldV]
theorem foldV_left {f : Int → Nat → Int × Except Int Val} (hf : ∀ left u l' v, f left u = (l', .ok v) → 0 ≤ l' ∧ l' ≤ left) : ∀ (us : List Nat) (lj l' : Int) (vs : List Val), 0 ≤ lj → foldV f lj us = (l', .ok vs) → 0 ≤ l' ∧ l' ≤ lj := by
  intro us
  induction us with
  | nil =>
    intro lj l' vs hl e
    injection e with e1 e2
    omega
  | cons u r ih =>
    intro lj l' vs hl e
    unfold foldV at e
    rcases h1 : f lj u with ⟨l2, e2 | v2⟩
    · rw [h1] at e
      injection e with e1 e2
      cases e2
    · rw [h1] at e
      dsimp only at e
      have h2 := hf lj u l2 v2 h1
      rcases h3 : foldV f l2 r with ⟨l3, e3 | v3⟩
      · rw [h3] at e
        injection e with e1 e2
        cases e2
      · rw [h3] at e
        have h4 := ih l2 l3 v3 h2.1 h3
        injection e with e1 e2
        omega
theorem readStep_left {h : List Nat} {f : Int → Nat → Int × Except Int Val} (hf : ∀ left u l' v, f left u = (l', .ok v) → 0 ≤ l' ∧ l' ≤ left) (left : Int) (u : Nat) (l' : Int) (v : Val) (e : readStep h f left u = (l', .ok v)) : 0 ≤ l' ∧ l' ≤ left := by
  unfold readStep at e
  generalize valB (u : Int) = q1 at e
  generalize readB (u : Int) = q2 at e
  generalize rdF h (readN (u : Int)) = q3 at e
  generalize leafV u = q4 at e
  by_cases h0 : left - 1 < 0
  · rw [if_pos h0] at e
    injection e with e1 e2
    cases e2
  rw [if_neg h0] at e
  cases q1 with
  | true =>
    rw [if_pos rfl] at e
    injection e with e1 e2
    omega
  | false =>
    rw [if_neg (by decide)] at e
    cases q2 with
    | false =>
      rw [if_pos rfl] at e
      injection e with e1 e2
      cases e2
    | true =>
      rw [if_neg (by decide)] at e
      by_cases h3 : q3.2.2 ≠ 0
      · rw [if_pos h3] at e
        injection e with e1 e2
        cases e2
      rw [if_neg h3] at e
      rcases h5 : foldV f (left - 1) q3.1.parts with ⟨l2, e2 | vs⟩
      · rw [h5] at e
        injection e with e1 e2
        cases e2
      · rw [h5] at e
        have h6 := foldV_left hf _ _ _ _ (by omega) h5
        injection e with e1 e2
        omega
theorem foldV_err {f : Int → Nat → Int × Except Int Val} (hf : ∀ left u l' e, f left u = (l', .error e) → e ≠ 0) : ∀ (us : List Nat) (lj l' : Int) (er : Int), foldV f lj us = (l', .error er) → er ≠ 0 := by
  intro us
  induction us with
  | nil =>
    intro lj l' er e
    injection e with e1 e2
    cases e2
  | cons u r ih =>
    intro lj l' er e
    unfold foldV at e
    rcases h1 : f lj u with ⟨l2, e2 | v2⟩
    · rw [h1] at e
      injection e with e1 e3
      injection e3 with e3
      subst e3
      exact hf _ _ _ _ h1
    · rw [h1] at e
      dsimp only at e
      rcases h3 : foldV f l2 r with ⟨l3, e3 | v3⟩
      · rw [h3] at e
        injection e with e1 e4
        injection e4 with e4
        subst e4
        exact ih _ _ _ h3
      · rw [h3] at e
        injection e with e1 e2
        cases e2
theorem readStep_err {h : List Nat} {f : Int → Nat → Int × Except Int Val} (hf : ∀ left u l' e, f left u = (l', .error e) → e ≠ 0) (left : Int) (u : Nat) (l' : Int) (er : Int) (e : readStep h f left u = (l', .error er)) : er ≠ 0 := by
  unfold readStep at e
  generalize valB (u : Int) = q1 at e
  generalize readB (u : Int) = q2 at e
  generalize rdF h (readN (u : Int)) = q3 at e
  generalize leafV u = q4 at e
  by_cases h0 : left - 1 < 0
  · rw [if_pos h0] at e
    injection e with e1 e2
    injection e2 with e2
    omega
  rw [if_neg h0] at e
  cases q1 with
  | true =>
    rw [if_pos rfl] at e
    injection e with e1 e2
    cases e2
  | false =>
    rw [if_neg (by decide)] at e
    cases q2 with
    | false =>
      rw [if_pos rfl] at e
      injection e with e1 e2
      injection e2 with e2
      omega
    | true =>
      rw [if_neg (by decide)] at e
      by_cases h3 : q3.2.2 ≠ 0
      · rw [if_pos h3] at e
        injection e with e1 e2
        injection e2 with e2
        rw [← e2]
        exact h3
      rw [if_neg h3] at e
      rcases h5 : foldV f (left - 1) q3.1.parts with ⟨l2, e2 | vs⟩
      · rw [h5] at e
        injection e with e1 e3
        injection e3 with e3
        subst e3
        exact foldV_err hf _ _ _ _ h5
      · rw [h5] at e
        injection e with e1 e2
        cases e2
theorem readV_err (h : List Nat) : ∀ (d : Nat) (left : Int) (u : Nat) (l' : Int) (er : Int), readV h d left u = (l', .error er) → er ≠ 0 := by
  intro d
  induction d with
  | zero =>
    intro left u l' er e
    injection e with e1 e2
    injection e2 with e2
    omega
  | succ d ih => exact readStep_err ih
theorem parts_fit {h : List Nat} {p : Int} (hf : ∀ x ∈ h, x < 18446744073709551616) : ∀ x ∈ (rdF h p).1.parts, x < 18446744073709551616 := by
  intro x hx
  unfold rdF at hx
  by_cases hp : p < 0 ∨ (h.length : Int) ≤ p
  · rw [if_pos hp] at hx
    cases hx
  · rw [if_neg hp] at hx
    cases ho : progF h p.toNat with
    | none =>
      rw [ho] at hx
      cases hx
    | some o =>
      rw [ho] at hx
      dsimp only at hx
      unfold progF at ho
      split at ho
      · cases ho
      · split at ho
        · injection ho with ho
          subst ho
          unfold obF at hx
          dsimp only at hx
          have h1 := List.mem_of_mem_drop (List.mem_of_mem_take hx)
          unfold restF at h1
          split at h1
          · exact hf x (List.mem_of_mem_drop h1)
          · exact hf x (List.mem_of_mem_drop h1)
        · cases ho
/-- Where one goes on, no more is left than there was, and at least none. -/
theorem readV_left (h : List Nat) : ∀ (d : Nat) (left : Int) (u : Nat) (l' : Int) (v : Val), readV h d left u = (l', .ok v) → 0 ≤ l' ∧ l' ≤ left := by
  intro d
  induction d with
  | zero =>
    intro left u l' v e
    injection e with e1 e2
    cases e2
  | succ d ih => exact readStep_left ih
end Go.Proofs.Ytdjahlkjfpbifaa
