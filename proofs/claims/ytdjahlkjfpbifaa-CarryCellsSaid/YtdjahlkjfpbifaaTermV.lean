
/-
  Package term and its reference: values as words.
-/
import Derived.Test.YtdjahlkjfpbifaaTerm
namespace Go.Proofs.Ytdjahlkjfpbifaa
open Go.RowKit

/-- The tag of the values of a kind. -/
def tagOf (k : Int) : Int := if k = 1 then 0 else if k = 2 then 1 else if k = 3 then 2 else if k = 6 then 3 else -1
theorem tagOf_le (k : Int) : -1 ≤ tagOf k ∧ tagOf k ≤ 3 := by unfold tagOf; split <;> (try split) <;> (try split) <;> (try split) <;> omega

theorem tagged_any (k : Int) (w : World) : Calls Try.prog 196 #[.int .i64 k] w fun e w' => e = .returned (.int .i64 (tagOf k)) ∧ w = w' := by
  by_cases h1 : k = 1
  · subst h1
    rw [show tagOf 1 = 0 from rfl]
    go_enter Try.func196, Try.ntmps196
    go_wp2_with fail
    go_ret
    exact ⟨rfl, rfl⟩
  have b1 : (k == 1) = false := by simp [h1]
  by_cases h2 : k = 2
  · subst h2
    rw [show tagOf 2 = 1 from rfl]
    clear b1 h1
    go_enter Try.func196, Try.ntmps196
    go_wp2_with fail
    go_ret
    exact ⟨rfl, rfl⟩
  have b2 : (k == 2) = false := by simp [h2]
  by_cases h3 : k = 3
  · subst h3
    rw [show tagOf 3 = 2 from rfl]
    clear b1 h1 b2 h2
    go_enter Try.func196, Try.ntmps196
    go_wp2_with fail
    go_ret
    exact ⟨rfl, rfl⟩
  have b3 : (k == 3) = false := by simp [h3]
  by_cases h6 : k = 6
  · subst h6
    rw [show tagOf 6 = 3 from rfl]
    clear b1 h1 b2 h2 b3 h3
    go_enter Try.func196, Try.ntmps196
    go_wp2_with fail
    go_ret
    exact ⟨rfl, rfl⟩
  have b6 : (k == 6) = false := by simp [h6]
  rw [show tagOf k = -1 by simp [tagOf, h1, h2, h3, h6]]
  clear h1 h2 h3 h6
  go_enter Try.func196, Try.ntmps196
  go_wp2_with fail
  go_ret
  exact ⟨rfl, rfl⟩

/-- Is a value a word by itself? -/
def ofB (k num : Int) (s : ByteArray) (n : Nat) : Bool := decide (0 ≤ tagOf k) && (s.toList.isEmpty && (decide (n = 0) && validB (tagOf k) num))

set_option maxRecDepth 100000 in
set_option maxHeartbeats 800000 in
theorem of_any (k num : Int) (s : ByteArray) (A : Option Addr) (n c : Nat) (w : World) (hn : n ≤ maxLen) :
    Calls Try.prog 193 #[.agg #[.int .i64 k, .int .i64 num, .string s, .slice A n c]] w fun e w' =>
      e = .returned (.tuple #[.int .u64 (if ofB k num s n then tagWord (tagOf k) num else 0), .bool (ofB k num s n)]) ∧ Below w.heap.size w w' := by
  unfold maxLen at hn
  have HB := Lib.hid (show Below w.heap.size w (w.alloc (.cells #[.int .i64 k, .int .i64 num, .string s, .slice A n c] 28)) from (Below.refl _ _).alloc (Nat.le_refl _) _)
  have ht := tagOf_le k
  have HT := Lib.hid (tagged_any k)
  have HOF := Lib.hid (show ofB k num s n = (decide (0 ≤ tagOf k) && (s.toList.isEmpty && (decide (n = 0) && validB (tagOf k) num))) from rfl)
  generalize tagOf k = t at *
  by_cases h1 : t < 0
  · have d1 : decide (t < 0) = true := by simp; omega
    have e : ofB k num s n = false := by rw [HOF.out]; simp; omega
    rw [e]
    clear e HOF
    simp only [Bool.false_eq_true, if_false]
    go_enter Try.func193, Try.ntmps193
    go_wp2_with fail
    refine (HT.out _).mono ?_
    rintro e w' ⟨rfl, rfl⟩
    go_wp2_with fail
    go_ret2
    exact ⟨rfl, HB.out⟩
  have d1 : decide (t < 0) = false := by simp; omega
  by_cases h2 : s.toList.isEmpty = true
  · have hs : s.toList = [] := by simpa using h2
    by_cases h3 : 0 < n
    · have e : ofB k num s n = false := by rw [HOF.out]; simp; omega
      rw [e]
      clear e HOF
      simp only [Bool.false_eq_true, if_false]
      have d3 : decide ((0 : Int) < (n : Int)) = true := by simp; omega
      have d3' : decide (0 < n) = true := by simp; omega
      go_enter Try.func193, Try.ntmps193
      go_wp2_with fail
      refine (HT.out _).mono ?_
      rintro e w' ⟨rfl, rfl⟩
      go_wp2_with fail
      go_ret2
      exact ⟨rfl, HB.out⟩
    · obtain rfl : n = 0 := by omega
      have HOF' := Lib.hid (show ofB k num s 0 = validB t num by rw [HOF.out, hs]; simp; omega)
      generalize ofB k num s 0 = R at *
      clear HOF
      cases R
      · simp only [Bool.false_eq_true, if_false]
        go_enter Try.func193, Try.ntmps193
        go_wp2_with fail
        refine (HT.out _).mono ?_
        rintro e w' ⟨rfl, rfl⟩
        go_wp2_with fail
        refine (word_large _ _ _ (by omega) (by omega) HOF'.out.symm).mono ?_
        rintro e w' ⟨rfl, rfl⟩
        go_wp2_with fail
        go_ret2
        exact ⟨rfl, HB.out⟩
      · simp only [if_true]
        go_enter Try.func193, Try.ntmps193
        go_wp2_with fail
        refine (HT.out _).mono ?_
        rintro e w' ⟨rfl, rfl⟩
        go_wp2_with fail
        refine (word_ok _ _ _ (by omega) (by omega) HOF'.out.symm).mono ?_
        rintro e w' ⟨rfl, rfl⟩
        go_wp2_with fail
        go_ret2
        exact ⟨rfl, HB.out⟩
  · have h2' : s.toList.isEmpty = false := by simpa using h2
    have h2'' : (!s.toList.isEmpty) = true := by rw [h2']; rfl
    have e : ofB k num s n = false := by rw [HOF.out, h2']; simp
    rw [e]
    clear e HOF h2
    simp only [Bool.false_eq_true, if_false]
    go_enter Try.func193, Try.ntmps193
    go_wp2_with fail
    refine (HT.out _).mono ?_
    rintro e w' ⟨rfl, rfl⟩
    go_wp2_with fail
    go_ret2
    exact ⟨rfl, HB.out⟩

theorem kinds_any (w : World) : Calls Try.prog 187 #[] w fun e w' => e = .returned (.agg #[.int .i64 1, .int .i64 2, .int .i64 3, .int .i64 6]) ∧ Below w.heap.size w w' := by
  go_enter Try.func187, Try.ntmps187
  go_wp2_with fail
  exact bodyPost_ret (v := .agg #[.int .i64 1, .int .i64 2, .int .i64 3, .int .i64 6]) (by simp [results, Try.results187, go_sem]) rfl ⟨rfl, (Below.refl _ _).alloc (Nat.le_refl _) _⟩

set_option maxRecDepth 100000 in
set_option maxHeartbeats 2000000 in
theorem wordOf_any (k num : Int) (s : ByteArray) (A : Option Addr) (n c : Nat) (w : World) (hn : n ≤ maxLen) :
    Calls Try.prog 159 #[.agg #[.int .i64 k, .int .i64 num, .string s, .slice A n c]] w fun e w' =>
      e = .returned (.tuple #[.int .u64 (if ofB k num s n then tagWord (tagOf k) num else 0), .bool (ofB k num s n)]) ∧ Below w.heap.size w w' := by
  unfold maxLen at hn
  have hb0 : Below w.heap.size w (w.alloc (.cells #[.int .i64 k, .int .i64 num, .string s, .slice A n c] 28)) := (Below.refl _ _).alloc (Nat.le_refl _) _
  have x0 := Box.new w 28 #[.int .i64 k, .int .i64 num, .string s, .slice A n c]
  have ht := tagOf_le k
  have HOF := Lib.hid (show ofB k num s n = (decide (0 ≤ tagOf k) && (s.toList.isEmpty && (decide (n = 0) && validB (tagOf k) num))) from rfl)
  have i0 : ∀ u : World, (Instr.index 279 (.agg #[.int .i64 1, .int .i64 2, .int .i64 3, .int .i64 6]) (.int .i64 0)).run Try.prog u = .ok (.int .i64 1) u := fun _ => by kernel_rfl
  have i1 : ∀ u : World, (Instr.index 279 (.agg #[.int .i64 1, .int .i64 2, .int .i64 3, .int .i64 6]) (.int .i64 1)).run Try.prog u = .ok (.int .i64 2) u := fun _ => by kernel_rfl
  have i2 : ∀ u : World, (Instr.index 279 (.agg #[.int .i64 1, .int .i64 2, .int .i64 3, .int .i64 6]) (.int .i64 2)).run Try.prog u = .ok (.int .i64 3) u := fun _ => by kernel_rfl
  have i3 : ∀ u : World, (Instr.index 279 (.agg #[.int .i64 1, .int .i64 2, .int .i64 3, .int .i64 6]) (.int .i64 3)).run Try.prog u = .ok (.int .i64 6) u := fun _ => by kernel_rfl
  go_enter Try.func159, Try.ntmps159
  go_wp2_with fail
  refine (kinds_any _).mono ?_
  rintro e w1 ⟨rfl, hb1⟩
  have x1 := x0.below hb1 x0.lt
  have HB := Lib.hid (show Below w.heap.size w w1 from hb0.trans (hb1.mono hb0.size))
  have c0 : w1.cell? ⟨w.heap.size, 0, none⟩ = some (.int .i64 k) := by simpa using x1.cell 0
  have c1 : w1.cell? ⟨w.heap.size, 1, none⟩ = some (.int .i64 num) := by simpa using x1.cell 1
  have c2 : w1.cell? ⟨w.heap.size, 2, none⟩ = some (.string s) := by simpa using x1.cell 2
  have c3 : w1.cell? ⟨w.heap.size, 3, none⟩ = some (.slice A n c) := by simpa using x1.cell 3
  clear x0 x1 hb0 hb1
  go_wp2_with fail
  go_loop [7] (fun i => ∃ j : Nat, j ≤ 4 ∧ i = .int .i64 j ∧ (ofB k num s n = true → (j : Int) ≤ tagOf k)) (fun i => 4 - (intOf i).toNat)
  case atStart => exact ⟨0, by omega, rfl, fun h => by
    rw [HOF.out] at h
    simp at h
    exact h.1⟩
  case round =>
    obtain ⟨j, hj, rfl, hJ⟩ := hrel
    have HJ := Lib.hid hJ
    clear hJ
    have hcase : j = 0 ∨ j = 1 ∨ j = 2 ∨ j = 3 ∨ j = 4 := by omega
    rcases hcase with rfl | rfl | rfl | rfl | rfl
    · -- round 0
      by_cases hk : k = 1
      · subst hk
        have HTG := Lib.hid (show tagOf 1 = 0 from rfl)
        by_cases h2 : s.toList.isEmpty = true
        · have hs : s.toList = [] := by simpa using h2
          by_cases h3 : n = 0
          · subst h3
            have HV := Lib.hid (show ofB 1 num s 0 = validB 0 num by rw [HOF.out, HTG.out, hs]; simp)
            go_wp2_with fail
            refine (tagFits_any _ _ _).mono ?_
            rintro e w' ⟨rfl, rfl⟩
            rw [fitsB_of _ _ (by omega) (by omega), ← HV.out]
            generalize hR : ofB 1 num s 0 = R at *
            have HR := Lib.hid hR
            clear hR
            cases R
            · go_wp2_with fail
              go_round
              case rel => exact ⟨0 + 1, by omega, by go_num, fun h => by rw [HR.out] at h; cases h⟩
              case measure => simp [intOf]
            · go_wp2_with fail
              refine (tagWord_any _ _ _ (by omega) (by omega)).mono ?_
              rintro e w' ⟨rfl, rfl⟩
              go_wp2_with fail
              go_ret2
              exact ⟨by rw [HTG.out]; rfl, HB.out⟩
          · have d3 : ((n : Int) == 0) = false := beq_eq_false_iff_ne.2 (by omega)
            have d3' : (n == 0) = false := beq_eq_false_iff_ne.2 (by omega)
            have HV := Lib.hid (show ofB 1 num s n = false by rw [HOF.out]; simp [h3])
            clear h3
            go_wp2_with fail
            go_round
            case rel => exact ⟨0 + 1, by omega, by go_num, fun h => by rw [HV.out] at h; cases h⟩
            case measure => simp [intOf]
        · have h2' : s.toList.isEmpty = false := by simpa using h2
          have h2'' : (!s.toList.isEmpty) = true := by rw [h2']; rfl
          have HV := Lib.hid (show ofB 1 num s n = false by rw [HOF.out, h2']; simp)
          clear h2
          go_wp2_with fail
          go_round
          case rel => exact ⟨0 + 1, by omega, by go_num, fun h => by rw [HV.out] at h; cases h⟩
          case measure => simp [intOf]
      · have b1 : (k == 1) = false := by simp [hk]
        have HN := Lib.hid (show ofB k num s n = true → ((0 : Nat) : Int) + 1 ≤ tagOf k from fun h => by
          have h1 := HJ.out h
          have : tagOf k ≠ 0 := by
            intro e
            unfold tagOf at e
            split at e <;> (try split at e) <;> (try split at e) <;> (try split at e) <;> omega
          omega)
        clear hk
        go_wp2_with fail
        go_round
        case rel => exact ⟨0 + 1, by omega, by go_num, fun h => by have := HN.out h; omega⟩
        case measure => simp [intOf]
    · -- round 1
      by_cases hk : k = 2
      · subst hk
        have HTG := Lib.hid (show tagOf 2 = 1 from rfl)
        by_cases h2 : s.toList.isEmpty = true
        · have hs : s.toList = [] := by simpa using h2
          by_cases h3 : n = 0
          · subst h3
            have HV := Lib.hid (show ofB 2 num s 0 = validB 1 num by rw [HOF.out, HTG.out, hs]; simp)
            go_wp2_with fail
            refine (tagFits_any _ _ _).mono ?_
            rintro e w' ⟨rfl, rfl⟩
            rw [fitsB_of _ _ (by omega) (by omega), ← HV.out]
            generalize hR : ofB 2 num s 0 = R at *
            have HR := Lib.hid hR
            clear hR
            cases R
            · go_wp2_with fail
              go_round
              case rel => exact ⟨1 + 1, by omega, by go_num, fun h => by rw [HR.out] at h; cases h⟩
              case measure => simp [intOf]
            · go_wp2_with fail
              refine (tagWord_any _ _ _ (by omega) (by omega)).mono ?_
              rintro e w' ⟨rfl, rfl⟩
              go_wp2_with fail
              go_ret2
              exact ⟨by rw [HTG.out]; rfl, HB.out⟩
          · have d3 : ((n : Int) == 0) = false := beq_eq_false_iff_ne.2 (by omega)
            have d3' : (n == 0) = false := beq_eq_false_iff_ne.2 (by omega)
            have HV := Lib.hid (show ofB 2 num s n = false by rw [HOF.out]; simp [h3])
            clear h3
            go_wp2_with fail
            go_round
            case rel => exact ⟨1 + 1, by omega, by go_num, fun h => by rw [HV.out] at h; cases h⟩
            case measure => simp [intOf]
        · have h2' : s.toList.isEmpty = false := by simpa using h2
          have h2'' : (!s.toList.isEmpty) = true := by rw [h2']; rfl
          have HV := Lib.hid (show ofB 2 num s n = false by rw [HOF.out, h2']; simp)
          clear h2
          go_wp2_with fail
          go_round
          case rel => exact ⟨1 + 1, by omega, by go_num, fun h => by rw [HV.out] at h; cases h⟩
          case measure => simp [intOf]
      · have b1 : (k == 2) = false := by simp [hk]
        have HN := Lib.hid (show ofB k num s n = true → ((1 : Nat) : Int) + 1 ≤ tagOf k from fun h => by
          have h1 := HJ.out h
          have : tagOf k ≠ 1 := by
            intro e
            unfold tagOf at e
            split at e <;> (try split at e) <;> (try split at e) <;> (try split at e) <;> omega
          omega)
        clear hk
        go_wp2_with fail
        go_round
        case rel => exact ⟨1 + 1, by omega, by go_num, fun h => by have := HN.out h; omega⟩
        case measure => simp [intOf]
    · -- round 2
      by_cases hk : k = 3
      · subst hk
        have HTG := Lib.hid (show tagOf 3 = 2 from rfl)
        by_cases h2 : s.toList.isEmpty = true
        · have hs : s.toList = [] := by simpa using h2
          by_cases h3 : n = 0
          · subst h3
            have HV := Lib.hid (show ofB 3 num s 0 = validB 2 num by rw [HOF.out, HTG.out, hs]; simp)
            go_wp2_with fail
            refine (tagFits_any _ _ _).mono ?_
            rintro e w' ⟨rfl, rfl⟩
            rw [fitsB_of _ _ (by omega) (by omega), ← HV.out]
            generalize hR : ofB 3 num s 0 = R at *
            have HR := Lib.hid hR
            clear hR
            cases R
            · go_wp2_with fail
              go_round
              case rel => exact ⟨2 + 1, by omega, by go_num, fun h => by rw [HR.out] at h; cases h⟩
              case measure => simp [intOf]
            · go_wp2_with fail
              refine (tagWord_any _ _ _ (by omega) (by omega)).mono ?_
              rintro e w' ⟨rfl, rfl⟩
              go_wp2_with fail
              go_ret2
              exact ⟨by rw [HTG.out]; rfl, HB.out⟩
          · have d3 : ((n : Int) == 0) = false := beq_eq_false_iff_ne.2 (by omega)
            have d3' : (n == 0) = false := beq_eq_false_iff_ne.2 (by omega)
            have HV := Lib.hid (show ofB 3 num s n = false by rw [HOF.out]; simp [h3])
            clear h3
            go_wp2_with fail
            go_round
            case rel => exact ⟨2 + 1, by omega, by go_num, fun h => by rw [HV.out] at h; cases h⟩
            case measure => simp [intOf]
        · have h2' : s.toList.isEmpty = false := by simpa using h2
          have h2'' : (!s.toList.isEmpty) = true := by rw [h2']; rfl
          have HV := Lib.hid (show ofB 3 num s n = false by rw [HOF.out, h2']; simp)
          clear h2
          go_wp2_with fail
          go_round
          case rel => exact ⟨2 + 1, by omega, by go_num, fun h => by rw [HV.out] at h; cases h⟩
          case measure => simp [intOf]
      · have b1 : (k == 3) = false := by simp [hk]
        have HN := Lib.hid (show ofB k num s n = true → ((2 : Nat) : Int) + 1 ≤ tagOf k from fun h => by
          have h1 := HJ.out h
          have : tagOf k ≠ 2 := by
            intro e
            unfold tagOf at e
            split at e <;> (try split at e) <;> (try split at e) <;> (try split at e) <;> omega
          omega)
        clear hk
        go_wp2_with fail
        go_round
        case rel => exact ⟨2 + 1, by omega, by go_num, fun h => by have := HN.out h; omega⟩
        case measure => simp [intOf]
    · -- round 3
      by_cases hk : k = 6
      · subst hk
        have HTG := Lib.hid (show tagOf 6 = 3 from rfl)
        by_cases h2 : s.toList.isEmpty = true
        · have hs : s.toList = [] := by simpa using h2
          by_cases h3 : n = 0
          · subst h3
            have HV := Lib.hid (show ofB 6 num s 0 = validB 3 num by rw [HOF.out, HTG.out, hs]; simp)
            go_wp2_with fail
            refine (tagFits_any _ _ _).mono ?_
            rintro e w' ⟨rfl, rfl⟩
            rw [fitsB_of _ _ (by omega) (by omega), ← HV.out]
            generalize hR : ofB 6 num s 0 = R at *
            have HR := Lib.hid hR
            clear hR
            cases R
            · go_wp2_with fail
              go_round
              case rel => exact ⟨3 + 1, by omega, by go_num, fun h => by rw [HR.out] at h; cases h⟩
              case measure => simp [intOf]
            · go_wp2_with fail
              refine (tagWord_any _ _ _ (by omega) (by omega)).mono ?_
              rintro e w' ⟨rfl, rfl⟩
              go_wp2_with fail
              go_ret2
              exact ⟨by rw [HTG.out]; rfl, HB.out⟩
          · have d3 : ((n : Int) == 0) = false := beq_eq_false_iff_ne.2 (by omega)
            have d3' : (n == 0) = false := beq_eq_false_iff_ne.2 (by omega)
            have HV := Lib.hid (show ofB 6 num s n = false by rw [HOF.out]; simp [h3])
            clear h3
            go_wp2_with fail
            go_round
            case rel => exact ⟨3 + 1, by omega, by go_num, fun h => by rw [HV.out] at h; cases h⟩
            case measure => simp [intOf]
        · have h2' : s.toList.isEmpty = false := by simpa using h2
          have h2'' : (!s.toList.isEmpty) = true := by rw [h2']; rfl
          have HV := Lib.hid (show ofB 6 num s n = false by rw [HOF.out, h2']; simp)
          clear h2
          go_wp2_with fail
          go_round
          case rel => exact ⟨3 + 1, by omega, by go_num, fun h => by rw [HV.out] at h; cases h⟩
          case measure => simp [intOf]
      · have b1 : (k == 6) = false := by simp [hk]
        have HN := Lib.hid (show ofB k num s n = true → ((3 : Nat) : Int) + 1 ≤ tagOf k from fun h => by
          have h1 := HJ.out h
          have : tagOf k ≠ 3 := by
            intro e
            unfold tagOf at e
            split at e <;> (try split at e) <;> (try split at e) <;> (try split at e) <;> omega
          omega)
        clear hk
        go_wp2_with fail
        go_round
        case rel => exact ⟨3 + 1, by omega, by go_num, fun h => by have := HN.out h; omega⟩
        case measure => simp [intOf]
    · have HV := Lib.hid (show ofB k num s n = false by
        rcases hR : ofB k num s n with _ | _
        · rfl
        · have := HJ.out hR
          omega)
      have hv := HV.out
      go_wp2_with fail
      go_ret2
      exact ⟨rfl, HB.out⟩

end Go.Proofs.Ytdjahlkjfpbifaa
