/-
  Package turn and its reference, over []int: Check, ReadyFault, after, NextOf, Next, Round, In.
-/
import Derived.Test.YtjblfkoepedhpaaEqual
import Derived.IntWalk
namespace Go.Proofs.Ytjblfkoepedhpaa
open Go.RowKit

/-- Each of the first k elements is greater than the one before it. -/
def incTo (xs : List Int) (k : Nat) : Prop := ∀ i, i + 1 < k → xs.getD i 0 < xs.getD (i + 1) 0
theorem incTo_step {xs : List Int} {k : Nat} (h : incTo xs (k + 1)) (e : xs.getD k 0 < xs.getD (k + 1) 0) : incTo xs (k + 2) := fun i hi => by
  rcases Nat.lt_or_ge (i + 1) (k + 1) with hlt | hge
  · exact h i hlt
  · obtain rfl : i = k := by omega
    exact e
open Classical in
/-- What a ready list's check answers. -/
noncomputable def rf (xs : List Int) : Int := if 100 < xs.length then 2 else if incTo xs xs.length then 0 else 21
theorem rf_large {xs : List Int} (h : 100 < xs.length) : rf xs = 2 := by simp [rf, h]
theorem rf_ok {xs : List Int} (h : xs.length ≤ 100) (hi : incTo xs xs.length) : rf xs = 0 := by
  unfold rf; rw [if_neg (by omega), if_pos hi]
theorem rf_bad {xs : List Int} {k : Nat} (h : xs.length ≤ 100) (hk : k + 1 < xs.length) (hi : ¬ xs.getD k 0 < xs.getD (k + 1) 0) : rf xs = 21 := by
  unfold rf; rw [if_neg (by omega), if_neg (fun hh => hi (hh k hk))]
theorem rf_cases (xs : List Int) : rf xs = 0 ∧ xs.length ≤ 100 ∨ rf xs = 2 ∨ rf xs = 21 := by
  unfold rf
  split
  · exact .inr (.inl rfl)
  · split
    · exact .inl ⟨rfl, by omega⟩
    · exact .inr (.inr rfl)

set_option maxRecDepth 100000 in
set_option maxHeartbeats 1000000 in
theorem check_any (A : Option Addr) (c : Nat) (xs : List Int) (B : Nat) (w : World) (ra : Row w B A (ints xs)) (hm : xs.length ≤ maxLen) :
    Calls Try.prog 36 #[.slice A xs.length c] w fun e w' => e = .returned (.int .i64 (rf xs)) ∧ ∃ n, w' = w.drewN n := by
  unfold maxLen at hm
  by_cases hl : 100 < xs.length
  · rw [rf_large hl]
    go_enter Try.func36, Try.ntmps36
    go_wp2_with fail
    go_ret
    exact ⟨rfl, 0, rfl⟩
  · go_enter Try.func36, Try.ntmps36
    go_wp2_with fail
    go_loopw [3] (fun i wr => ∃ (j m : Nat), i = .int .i64 j ∧ 1 ≤ j ∧ (j ≤ xs.length ∨ j = 1) ∧ incTo xs j ∧ wr = w.drewN m) (fun i _ => xs.length + 1 - (intOf i).toNat)
    case atStart => exact ⟨1, 0, rfl, by omega, .inr rfl, fun i hi => by omega, rfl⟩
    case round =>
      obtain ⟨j, m, rfl, hj1, hj, hE, rfl⟩ := hrel
      have HE := Lib.hid hE
      clear hE
      by_cases hlt : j < xs.length
      · obtain ⟨b, o, e1, _, hc⟩ := ra.int (show j - 1 < xs.length by omega)
        obtain ⟨b', o', e2, _, hc'⟩ := ra.int hlt
        rw [e1] at e2
        injection e2 with e2
        injection e2 with e2 e3
        subst e2 e3 e1
        have HS := Lib.hid (fun (e : xs.getD (j - 1) 0 < xs.getD j 0) => incTo_step (k := j - 1) (by rw [show j - 1 + 1 = j by omega]; exact HE.out) (by rw [show j - 1 + 1 = j by omega]; exact e))
        have HN := Lib.hid (fun (e : ¬ xs.getD (j - 1) 0 < xs.getD j 0) => rf_bad (xs := xs) (k := j - 1) (by omega) (by omega) (by rw [show j - 1 + 1 = j by omega]; exact e))
        generalize xs.getD (j - 1) 0 = x at *
        generalize xs.getD j 0 = y at *
        have hl1 : (j : Int) < (xs.length : Int) := by omega
        have hl2 : (j : Int) - 1 < (xs.length : Int) := by omega
        have hl3 : 0 ≤ (j : Int) - 1 := by omega
        have hn1 : ((j : Int) - 1).toNat = j - 1 := by omega
        have hw1 : IntKind.i64.wrap ((j : Int) - 1) = (j : Int) - 1 := IntWalk.i64_in _ (by omega)
        by_cases hxy : y ≤ x
        · have b3 : decide (y ≤ x) = true := by simp; omega
          have HX := Lib.hid (HN.out (by omega))
          clear HN HS
          go_wp2_with fail
          go_quiet (fail)
          go_wp2_with fail
          go_ret
          exact ⟨by rw [HX.out]; rfl, drewN_more _ _ _⟩
        · have b3 : decide (y ≤ x) = false := by simp; omega
          have HX := Lib.hid (HS.out (by omega))
          clear HN HS
          rw [show j - 1 + 2 = j + 1 by omega] at HX
          go_wp2_with fail
          go_quiet (fail)
          go_wp2_with fail
          go_roundw
          case rel => exact ⟨j + 1, _, by go_num, by omega, .inl (by omega), HX.out, rfl⟩
          case measure => simp [intOf]; omega
      · have HX := Lib.hid (rf_ok (xs := xs) (by omega) (by
          have h0 := HE.out
          intro i hi
          exact h0 i (by omega)))
        go_wp2_with fail
        go_ret
        exact ⟨by rw [HX.out]; rfl, _, rfl⟩

set_option maxRecDepth 100000 in
set_option maxHeartbeats 1000000 in
theorem readyFault_any (A : Option Addr) (c : Nat) (xs : List Int) (B : Nat) (w : World) (ra : Row w B A (ints xs)) (hm : xs.length ≤ maxLen) :
    Calls Try.prog 35 #[.slice A xs.length c] w fun e w' => e = .returned (.int .i64 (rf xs)) ∧ ∃ n, w' = w.drewN n := by
  unfold maxLen at hm
  by_cases hl : 100 < xs.length
  · rw [rf_large hl]
    go_enter Try.func35, Try.ntmps35
    go_wp2_with fail
    go_ret
    exact ⟨rfl, 0, rfl⟩
  · go_enter Try.func35, Try.ntmps35
    go_wp2_with fail
    go_loopw [9] (fun i wr => ∃ (j m : Nat), i = .int .i64 j ∧ j ≤ xs.length ∧ incTo xs j ∧ wr = w.drewN m) (fun i _ => xs.length - (intOf i).toNat)
    case atStart => exact ⟨0, 0, rfl, by omega, fun i hi => by omega, rfl⟩
    case round =>
      obtain ⟨j, m, rfl, hj, hE, rfl⟩ := hrel
      have HE := Lib.hid hE
      clear hE
      by_cases hlt : j < xs.length
      · by_cases hj0 : j = 0
        · have HX := Lib.hid (show incTo xs (j + 1) from fun i hi => by omega)
          have b0 : decide ((0 : Int) < (j : Int)) = false := by simp; omega
          have b0' : decide (0 < j) = false := by simp; omega
          clear hj0
          go_wp2_with fail
          go_quiet (fail)
          go_wp2_with fail
          go_roundw
          case rel => exact ⟨j + 1, _, by go_num, by omega, HX.out, rfl⟩
          case measure => simp [intOf]; omega
        · obtain ⟨b, o, e1, _, hc⟩ := ra.int (show j - 1 < xs.length by omega)
          obtain ⟨b', o', e2, _, hc'⟩ := ra.int hlt
          rw [e1] at e2
          injection e2 with e2
          injection e2 with e2 e3
          subst e2 e3 e1
          have HS := Lib.hid (fun (e : xs.getD (j - 1) 0 < xs.getD j 0) => incTo_step (k := j - 1) (by rw [show j - 1 + 1 = j by omega]; exact HE.out) (by rw [show j - 1 + 1 = j by omega]; exact e))
          have HN := Lib.hid (fun (e : ¬ xs.getD (j - 1) 0 < xs.getD j 0) => rf_bad (xs := xs) (k := j - 1) (by omega) (by omega) (by rw [show j - 1 + 1 = j by omega]; exact e))
          generalize xs.getD (j - 1) 0 = x at *
          generalize xs.getD j 0 = y at *
          have b0 : decide ((0 : Int) < (j : Int)) = true := by simp; omega
          have b0' : decide (0 < j) = true := by simp; omega
          have hl1 : (j : Int) < (xs.length : Int) := by omega
          have hl2 : (j : Int) - 1 < (xs.length : Int) := by omega
          have hl3 : 0 ≤ (j : Int) - 1 := by omega
          have hn1 : ((j : Int) - 1).toNat = j - 1 := by omega
          have hw1 : IntKind.i64.wrap ((j : Int) - 1) = (j : Int) - 1 := IntWalk.i64_in _ (by omega)
          clear hj0
          by_cases hxy : y ≤ x
          · have b3 : decide (y ≤ x) = true := by simp; omega
            have HX := Lib.hid (HN.out (by omega))
            clear HN HS
            go_wp2_with fail
            go_quiet (fail)
            go_wp2_with fail
            go_ret
            exact ⟨by rw [HX.out]; rfl, drewN_more _ _ _⟩
          · have b3 : decide (y ≤ x) = false := by simp; omega
            have HX := Lib.hid (HS.out (by omega))
            clear HN HS
            rw [show j - 1 + 2 = j + 1 by omega] at HX
            go_wp2_with fail
            go_quiet (fail)
            go_wp2_with fail
            go_roundw
            case rel => exact ⟨j + 1, _, by go_num, by omega, HX.out, rfl⟩
            case measure => simp [intOf]; omega
      · obtain rfl : j = xs.length := by omega
        have HX := Lib.hid (rf_ok (xs := xs) (by omega) HE.out)
        go_wp2_with fail
        go_ret
        exact ⟨by rw [HX.out]; rfl, _, rfl⟩

/-- The next one behind 'last'. -/
def nx (last d : Int) : List Int → Int
  | [] => d
  | x :: r => if last < x then x else nx last d r
def nextOf (xs : List Int) (last : Int) : Int := nx last (xs.getD 0 0) xs
theorem nx_drop (last d : Int) (xs : List Int) (k : Nat) (hk : k < xs.length) : nx last d (xs.drop k) = if last < xs.getD k 0 then xs.getD k 0 else nx last d (xs.drop (k + 1)) := by
  rw [List.drop_eq_getElem_cons hk]
  have : xs.getD k 0 = xs[k] := by simp [List.getD_eq_getElem?_getD, hk]
  rw [this]
  rfl

set_option maxRecDepth 100000 in
set_option maxHeartbeats 1000000 in
theorem after_any (A : Option Addr) (c : Nat) (xs : List Int) (last : Int) (B : Nat) (w : World) (ra : Row w B A (ints xs)) (hm : xs.length ≤ maxLen) (hp : 0 < xs.length) :
    Calls Try.prog 104 #[.slice A xs.length c, .int .i64 last] w fun e w' => e = .returned (.int .i64 (nextOf xs last)) ∧ w = w' := by
  unfold maxLen at hm
  obtain ⟨b0, o0, rfl, _, hc0⟩ := ra.int hp
  rw [Nat.add_zero] at hc0
  have HN := Lib.hid (show nextOf xs last = nx last (xs.getD 0 0) (xs.drop 0) from rfl)
  generalize xs.getD 0 0 = d at *
  have hp1 : (0 : Int) < (xs.length : Int) := by omega
  go_enter Try.func104, Try.ntmps104
  go_wp2_with fail
  go_loop [9] (fun i => ∃ k : Nat, k ≤ xs.length ∧ i = .int .i64 k ∧ Hid (nextOf xs last = nx last d (xs.drop k))) (fun i => xs.length - (intOf i).toNat)
  case atStart => exact ⟨0, by omega, rfl, HN⟩
  case round =>
    obtain ⟨k, hk, rfl, HK⟩ := hrel
    by_cases hlt : k < xs.length
    · obtain ⟨b, o, e1, _, hc⟩ := ra.int hlt
      injection e1 with e1
      injection e1 with e1 e2
      subst e1 e2
      have HD := Lib.hid (nx_drop last d xs k hlt)
      generalize xs.getD k 0 = x at *
      by_cases hx : last < x
      · go_wp2_with fail
        go_ret
        refine ⟨?_, rfl⟩
        rw [HK.out, HD.out, if_pos hx]
        rfl
      · go_wp2_with fail
        go_round
        case rel =>
          refine ⟨k + 1, by omega, by go_num, ?_⟩
          unfold Hid
          rw [HK.out, HD.out, if_neg (by omega)]
        case measure => simp [intOf]; omega
    · go_wp2_with fail
      go_ret
      refine ⟨?_, rfl⟩
      rw [HK.out, List.drop_eq_nil_of_le (by omega)]
      rfl

set_option maxRecDepth 100000 in
set_option maxHeartbeats 1000000 in
theorem nextOf_any (A : Option Addr) (c : Nat) (xs : List Int) (last : Int) (B : Nat) (w : World) (ra : Row w B A (ints xs)) (hm : xs.length ≤ maxLen) (hp : 0 < xs.length) :
    Calls Try.prog 37 #[.slice A xs.length c, .int .i64 last] w fun e w' => e = .returned (.int .i64 (nextOf xs last)) ∧ w = w' := by
  unfold maxLen at hm
  obtain ⟨b0, o0, rfl, _, hc0⟩ := ra.int hp
  rw [Nat.add_zero] at hc0
  have HN := Lib.hid (show nextOf xs last = nx last (xs.getD 0 0) (xs.drop 0) from rfl)
  generalize xs.getD 0 0 = d at *
  have hp1 : (0 : Int) < (xs.length : Int) := by omega
  go_enter Try.func37, Try.ntmps37
  go_wp2_with fail
  go_loop [9] (fun i => ∃ k : Nat, k ≤ xs.length ∧ i = .int .i64 k ∧ Hid (nextOf xs last = nx last d (xs.drop k))) (fun i => xs.length - (intOf i).toNat)
  case atStart => exact ⟨0, by omega, rfl, HN⟩
  case round =>
    obtain ⟨k, hk, rfl, HK⟩ := hrel
    by_cases hlt : k < xs.length
    · obtain ⟨b, o, e1, _, hc⟩ := ra.int hlt
      injection e1 with e1
      injection e1 with e1 e2
      subst e1 e2
      have HD := Lib.hid (nx_drop last d xs k hlt)
      generalize xs.getD k 0 = x at *
      by_cases hx : last < x
      · go_wp2_with fail
        go_ret
        refine ⟨?_, rfl⟩
        rw [HK.out, HD.out, if_pos hx]
        rfl
      · go_wp2_with fail
        go_round
        case rel =>
          refine ⟨k + 1, by omega, by go_num, ?_⟩
          unfold Hid
          rw [HK.out, HD.out, if_neg (by omega)]
        case measure => simp [intOf]; omega
    · go_wp2_with fail
      go_ret
      refine ⟨?_, rfl⟩
      rw [HK.out, List.drop_eq_nil_of_le (by omega)]
      rfl

set_option maxRecDepth 100000 in
set_option maxHeartbeats 1000000 in
theorem next_any (A : Option Addr) (c : Nat) (xs : List Int) (last : Int) (B : Nat) (w : World) (ra : Row w B A (ints xs)) (hm : xs.length ≤ maxLen) :
    Calls Try.prog 34 #[.slice A xs.length c, .int .i64 last] w fun e w' =>
      e = .returned (.tuple #[.int .i64 (if rf xs = 0 ∧ 0 < xs.length then nextOf xs last else 0), .int .i64 (if rf xs = 0 ∧ xs.length = 0 then 4 else rf xs)]) ∧ ∃ n, w' = w.drewN n := by
  have hc := check_any A c xs B w ra hm
  have HM := Lib.hid hm
  unfold maxLen at hm
  rcases rf_cases xs with ⟨h0, h1⟩ | h0
  · by_cases hp : 0 < xs.length
    · rw [if_pos ⟨h0, hp⟩, if_neg (show ¬ (rf xs = 0 ∧ xs.length = 0) from fun h => by omega)]
      rw [h0] at hc ⊢
      have b1 : ((xs.length : Int) == 0) = false := beq_eq_false_iff_ne.2 (by omega)
      have b2 : (xs.length == 0) = false := beq_eq_false_iff_ne.2 (by omega)
      clear h0
      go_enter Try.func34, Try.ntmps34
      go_wp2_with fail
      refine hc.mono ?_
      rintro e w' ⟨rfl, n, rfl⟩
      clear hc
      go_wp2_with fail
      refine (after_any A c xs last B (w.drewN n) ra HM.out hp).mono ?_
      rintro e w' ⟨rfl, rfl⟩
      go_wp2_with fail
      go_ret2
      exact ⟨rfl, _, rfl⟩
    · have hz : xs = [] := List.eq_nil_of_length_eq_zero (by omega)
      subst hz
      rw [if_neg (by simp), if_pos ⟨h0, rfl⟩]
      rw [h0] at hc
      clear h0
      go_enter Try.func34, Try.ntmps34
      go_wp2_with fail
      refine hc.mono ?_
      rintro e w' ⟨rfl, n, rfl⟩
      clear hc
      go_wp2_with fail
      go_ret2
      exact ⟨rfl, _, rfl⟩
  · have hne : rf xs ≠ 0 := by omega
    rw [if_neg (fun h => hne h.1), if_neg (fun h => hne h.1)]
    generalize rf xs = r at *
    have b1 : (r != 0) = true := by simp; exact hne
    have HC := Lib.hid hc
    clear hc h0 hne
    go_enter Try.func34, Try.ntmps34
    go_wp2_with fail
    refine HC.out.mono ?_
    rintro e w' ⟨rfl, n, rfl⟩
    go_wp2_with fail
    go_ret2
    exact ⟨rfl, _, rfl⟩

def sliceLen : Value → Nat
  | .slice _ n _ => n
  | _ => 0
/-- So many turns behind 'last'. -/
def turnsOf (xs : List Int) (last : Int) : Nat → List Int
  | 0 => []
  | t + 1 => turnsOf xs last t ++ [nextOf xs ((turnsOf xs last t).getLastD last)]
def lastOf (xs : List Int) (last : Int) (t : Nat) : Int := (turnsOf xs last t).getLastD last
theorem turnsOf_len (xs : List Int) (last : Int) (t : Nat) : (turnsOf xs last t).length = t := by
  induction t with
  | zero => rfl
  | succ t ih => simp [turnsOf, ih]
theorem turnsOf_succ (xs : List Int) (last : Int) (t : Nat) : turnsOf xs last (t + 1) = turnsOf xs last t ++ [nextOf xs (lastOf xs last t)] := rfl
theorem lastOf_succ (xs : List Int) (last : Int) (t : Nat) : lastOf xs last (t + 1) = nextOf xs (lastOf xs last t) := by
  unfold lastOf
  rw [turnsOf_succ]
  simp [lastOf]

theorem in_any (n a b : Int) (w : World) : Calls Try.prog 39 #[.int .i64 n, .int .i64 a, .int .i64 b] w fun e w' => e = .returned (.bool (decide (a ≤ n ∧ n ≤ b))) ∧ w = w' := by
  by_cases h1 : a ≤ n
  · have d1 : decide (a ≤ n) = true := by simp; omega
    by_cases h2 : n ≤ b
    · have d2 : decide (n ≤ b) = true := by simp; omega
      rw [show decide (a ≤ n ∧ n ≤ b) = true by simp; omega]
      go_enter Try.func39, Try.ntmps39
      go_wp2_with fail
      go_ret
      exact ⟨rfl, rfl⟩
    · have d2 : decide (n ≤ b) = false := by simp; omega
      rw [show decide (a ≤ n ∧ n ≤ b) = false by simp; omega]
      go_enter Try.func39, Try.ntmps39
      go_wp2_with fail
      go_ret
      exact ⟨rfl, rfl⟩
  · have d1 : decide (a ≤ n) = false := by simp; omega
    rw [show decide (a ≤ n ∧ n ≤ b) = false by simp; omega]
    go_enter Try.func39, Try.ntmps39
    go_wp2_with fail
    go_ret
    exact ⟨rfl, rfl⟩

set_option maxRecDepth 100000 in
set_option maxHeartbeats 1000000 in
theorem round_bad (A : Option Addr) (c : Nat) (xs : List Int) (last turns : Int) (B : Nat) (w : World) (ra : Row w B A (ints xs)) (hm : xs.length ≤ maxLen) (hr : rf xs ≠ 0) :
    Calls Try.prog 38 #[.slice A xs.length c, .int .i64 last, .int .i64 turns] w fun e w' => e = .returned (.tuple #[.slice none 0 0, .int .i64 (rf xs)]) ∧ ∃ n, w' = w.drewN n := by
  have HC := Lib.hid (check_any A c xs B w ra hm)
  generalize rf xs = r at *
  have b1 : (r != 0) = true := by simp; exact hr
  clear hr
  go_enter Try.func38, Try.ntmps38
  go_wp2_with fail
  refine HC.out.mono ?_
  rintro e w' ⟨rfl, n, rfl⟩
  go_wp2_with fail
  go_ret2
  exact ⟨rfl, _, rfl⟩

set_option maxRecDepth 100000 in
set_option maxHeartbeats 1000000 in
theorem round_arg (A : Option Addr) (c : Nat) (xs : List Int) (last turns : Int) (B : Nat) (w : World) (ra : Row w B A (ints xs)) (hm : xs.length ≤ maxLen) (hr : rf xs = 0) (ht : turns < 0 ∨ 10000 < turns) :
    Calls Try.prog 38 #[.slice A xs.length c, .int .i64 last, .int .i64 turns] w fun e w' => e = .returned (.tuple #[.slice none 0 0, .int .i64 1]) ∧ ∃ n, w' = w.drewN n := by
  have hc := check_any A c xs B w ra hm
  rw [hr] at hc
  have HC := Lib.hid hc
  clear hr hc
  by_cases h1 : turns < 0
  · have d1 : decide (turns < 0) = true := by simp; omega
    clear ht
    go_enter Try.func38, Try.ntmps38
    go_wp2_with fail
    refine HC.out.mono ?_
    rintro e w' ⟨rfl, n, rfl⟩
    go_wp2_with fail
    go_ret2
    exact ⟨rfl, _, rfl⟩
  · have d1 : decide (turns < 0) = false := by simp; omega
    have d2 : decide (10000 < turns) = true := by simp; omega
    clear ht
    go_enter Try.func38, Try.ntmps38
    go_wp2_with fail
    refine HC.out.mono ?_
    rintro e w' ⟨rfl, n, rfl⟩
    go_wp2_with fail
    go_ret2
    exact ⟨rfl, _, rfl⟩

set_option maxRecDepth 100000 in
set_option maxHeartbeats 1000000 in
theorem round_ok (A : Option Addr) (c : Nat) (xs : List Int) (last : Int) (turns : Nat) (w : World) (ra : Row w w.heap.size A (ints xs)) (hm : xs.length ≤ maxLen) (hr : rf xs = 0) (ht : turns ≤ 10000) :
    Calls Try.prog 38 #[.slice A xs.length c, .int .i64 last, .int .i64 turns] w fun e w' => ∃ v, e = .returned (.tuple #[v, .int .i64 0]) ∧
      w'.ownsRow w.heap.size 3 1 v (if 0 < xs.length then turnsOf xs last turns else []).length (ints (if 0 < xs.length then turnsOf xs last turns else [])) ∧ Below w.heap.size w w' := by
  have hc := check_any A c xs _ w ra hm
  rw [hr] at hc
  have HC := Lib.hid hc
  have HM := Lib.hid hm
  clear hr hc
  unfold maxLen at hm
  have d1 : decide ((turns : Int) < 0) = false := by simp
  have d2 : decide (10000 < (turns : Int)) = false := by simp; omega
  by_cases hp : 0 < xs.length
  · rw [if_pos hp]
    have b1 : decide ((0 : Int) < (xs.length : Int)) = true := by simp; omega
    have b2 : decide (0 < xs.length) = true := by simp; omega
    go_enter Try.func38, Try.ntmps38
    go_wp2_with fail
    refine HC.out.mono ?_
    rintro e w' ⟨rfl, n, rfl⟩
    have hb0 : Below w.heap.size w (w.drewN n) := ⟨rfl, rfl, rfl, Nat.le_refl _, fun _ _ => rfl⟩
    generalize w.drewN n = w0 at *
    clear d1 d2
    go_wp2_with fail
    go_loopw [1, 9] (fun l v wr => ∃ t : Nat, t ≤ turns ∧ l = .int .i64 (lastOf xs last t) ∧ (∃ A1 c1, v = .slice A1 t c1) ∧ wr.ownsRow w.heap.size 3 1 v (turnsOf xs last t).length (ints (turnsOf xs last t)) ∧ Below w.heap.size w wr) (fun _ v _ => turns - sliceLen v)
    case atStart => exact ⟨0, by omega, rfl, ⟨none, 0, rfl⟩, World.ownsRow_nil _ _ _ _, hb0⟩
    case round =>
      obtain ⟨t, htt, rfl, ⟨A1, c1, rfl⟩, hown, hb⟩ := hrel
      by_cases hlt : t < turns
      · have d3 : decide ((t : Int) < (turns : Int)) = true := by simp; omega
        have d3' : decide (t < turns) = true := by simp; omega
        have HS := Lib.hid (turnsOf_succ xs last t)
        have HL := Lib.hid (lastOf_succ xs last t)
        have HT := Lib.hid (turnsOf_len xs last t)
        generalize lastOf xs last t = q at *
        go_wp2_with fail
        refine (after_any A c xs q _ wr (ra.below hb) HM.out hp).mono ?_
        rintro e w' ⟨rfl, rfl⟩
        generalize nextOf xs q = r at *
        go_wp2_with (at_builtin; refine wpList_push rfl (.tmp 33) (.tmp 35) rfl w.heap.size _ (turnsOf xs last t) rfl (hown.alloc _) wr.heap.size r rfl ((Box.new _ _ _).cell 0) (by rw [HT.out]; omega) (Nat.le_trans hb.size (by simp)) ?_; intro v' w1 hown' hg')
        have hb' := (hb.alloc hb.size _).grown hg' (Nat.le_trans hb.size (by simp)) (fun g hg => (hown.lt g hg).1)
        have hv := row_of_own_int hown'
        obtain ⟨A2, c2, rfl, _⟩ := hv
        have HLEN := Lib.hid (show (turnsOf xs last t ++ [r]).length = t + 1 by rw [List.length_append, HT.out]; rfl)
        go_roundw
        case rel => exact ⟨t + 1, by omega, by rw [HL.out], ⟨A2, c2, by rw [HLEN.out]⟩, by rw [HS.out]; exact hown', hb'⟩
        case measure => simp [sliceLen]; rw [HT.out]; omega
      · have d3 : decide ((t : Int) < (turns : Int)) = false := by simp; omega
        have d3' : decide (t < turns) = false := by simp; omega
        obtain rfl : t = turns := by omega
        go_wp2_with fail
        go_ret2
        exact ⟨_, rfl, hown, hb⟩
  · have hz : xs = [] := List.eq_nil_of_length_eq_zero (by omega)
    subst hz
    rw [if_neg (by simp)]
    clear hp
    go_enter Try.func38, Try.ntmps38
    go_wp2_with fail
    refine HC.out.mono ?_
    rintro e w' ⟨rfl, n, rfl⟩
    have hb0 : Below w.heap.size w (w.drewN n) := ⟨rfl, rfl, rfl, Nat.le_refl _, fun _ _ => rfl⟩
    generalize w.drewN n = w0 at *
    go_wp2_with fail
    refine wp_loop_rounds 1 ?_
    rw [rounds_succ]
    go_wp2_with fail
    go_ret2
    exact ⟨_, rfl, World.ownsRow_nil _ _ _ _, hb0⟩
end Go.Proofs.Ytjblfkoepedhpaa
