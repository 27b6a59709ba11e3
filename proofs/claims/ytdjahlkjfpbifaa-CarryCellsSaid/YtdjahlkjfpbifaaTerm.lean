
/-
  Package term and its reference: words with tags.
-/
import Derived.Test.YtdjahlkjfpbifaaTurn
import Derived.WalkLawsBesides
import Derived.Outline
import Derived.Laws.BitsAllLaws
import Derived.Laws.Bits64
import Derived.IntWalk
namespace Go.Proofs.Ytdjahlkjfpbifaa
open Go.RowKit

/-- Is a number one of a tag? -/
def validB (t n : Int) : Bool := if t = 0 then decide (n = 0) else if t = 1 then decide (-1152921504606846976 ≤ n ∧ n < 1152921504606846976) else if t = 2 then decide (n = 0 ∨ n = 1) else decide (0 ≤ n ∧ n < 1152921504606846976)

set_option maxRecDepth 100000 in
set_option maxHeartbeats 400000 in
theorem valid_any (t n : Int) (w : World) : Calls Try.prog 136 #[.int .i64 t, .int .i64 n] w fun e w' => e = .returned (.bool (validB t n)) ∧ w = w' := by
  by_cases t0 : t = 0
  · subst t0
    rw [show validB 0 n = (n == 0) by simp [validB]; rfl]
    go_enter Try.func136, Try.ntmps136
    go_wp2_with fail
    go_ret
    exact ⟨rfl, rfl⟩
  have b0 : (t == 0) = false := by simp [t0]
  by_cases t1 : t = 1
  · subst t1
    by_cases h1 : -1152921504606846976 ≤ n
    · have d1 : decide (-1152921504606846976 ≤ n) = true := by simp; omega
      rw [show validB 1 n = decide (n < 1152921504606846976) by simp [validB]; omega]
      clear b0 t0
      go_enter Try.func136, Try.ntmps136
      go_wp2_with fail
      go_ret
      exact ⟨rfl, rfl⟩
    · have d1 : decide (-1152921504606846976 ≤ n) = false := by simp; omega
      rw [show validB 1 n = false by simp [validB]; omega]
      clear b0 t0
      go_enter Try.func136, Try.ntmps136
      go_wp2_with fail
      go_ret
      exact ⟨rfl, rfl⟩
  have b1 : (t == 1) = false := by simp [t1]
  by_cases t2 : t = 2
  · subst t2
    by_cases h1 : n = 0
    · subst h1
      rw [show validB 2 0 = true by simp [validB]]
      clear b0 t0 b1 t1
      go_enter Try.func136, Try.ntmps136
      go_wp2_with fail
      go_ret
      exact ⟨rfl, rfl⟩
    · have d1 : (n == 0) = false := by simp [h1]
      rw [show validB 2 n = (n == 1) by simp [validB, h1]; rfl]
      clear b0 t0 b1 t1 h1
      go_enter Try.func136, Try.ntmps136
      go_wp2_with fail
      go_ret
      exact ⟨rfl, rfl⟩
  have b2 : (t == 2) = false := by simp [t2]
  have e : validB t n = decide (0 ≤ n ∧ n < 1152921504606846976) := by rw [validB, if_neg t0, if_neg t1, if_neg t2]
  rw [e]
  clear e t0 t1 t2
  by_cases h1 : 0 ≤ n
  · have d1 : decide (0 ≤ n) = true := by simp; omega
    rw [show decide (0 ≤ n ∧ n < 1152921504606846976) = decide (n < 1152921504606846976) by simp; omega]
    go_enter Try.func136, Try.ntmps136
    go_wp2_with fail
    go_ret
    exact ⟨rfl, rfl⟩
  · have d1 : decide (0 ≤ n) = false := by simp; omega
    rw [show decide (0 ≤ n ∧ n < 1152921504606846976) = false by simp; omega]
    go_enter Try.func136, Try.ntmps136
    go_wp2_with fail
    go_ret
    exact ⟨rfl, rfl⟩

/-- A tag's word for a number. -/
def tagWord (t n : Int) : Int := IntKind.u64.wrap (IntKind.u64.wrap (8 * IntKind.u64.wrap n) + t)

set_option maxRecDepth 100000 in
set_option maxHeartbeats 400000 in
theorem tagWord_any (t n : Int) (w : World) (h1 : 0 ≤ t) (h2 : t ≤ 4) :
    Calls Try.prog 95 #[.int .i64 t, .int .i64 n] w fun e w' => e = .returned (.int .u64 (tagWord t n)) ∧ w = w' := by
  go_enter Try.func95, Try.ntmps95
  go_wp2_with fail
  go_ret
  exact ⟨rfl, rfl⟩


theorem or_eight (x t : Nat) (h : t < 8) : 8 * x ||| t = 8 * x + t := by
  have := Nat.shiftLeft_add_eq_or_of_lt (a := x) (b := t) (i := 3) (by omega)
  rw [Nat.shiftLeft_eq, show x * 2 ^ 3 = 8 * x by omega] at this
  exact this.symm
theorem word_bits (t n : Int) (h1 : 0 ≤ t) (h2 : t ≤ 4) : bits BinOp.or IntKind.u64 (IntKind.u64.wrap (IntKind.u64.wrap n * 8)) t = tagWord t n := by
  unfold tagWord
  rw [Int.mul_comm 8]
  have hx : 0 ≤ IntKind.u64.wrap n := by rw [IntKind.wrap_u64]; omega
  generalize IntKind.u64.wrap n = x at *
  have e : ∃ y : Nat, IntKind.u64.wrap (x * 8) = ((8 * y : Nat) : Int) ∧ 8 * y + 8 ≤ 18446744073709551616 := by
    rw [IntKind.wrap_u64]
    exact ⟨(x * 8 % 18446744073709551616 / 8).toNat, by omega, by omega⟩
  obtain ⟨y, e1, e2⟩ := e
  obtain ⟨m, rfl⟩ := Int.eq_ofNat_of_zero_le h1
  rw [e1, u64_or_nat _ _ (by omega) (by omega), or_eight y m (by omega), IntKind.wrap_u64]
  omega

set_option maxRecDepth 100000 in
set_option maxHeartbeats 400000 in
theorem word_ok (t n : Int) (w : World) (h1 : 0 ≤ t) (h2 : t ≤ 4) (hv : validB t n = true) :
    Calls Try.prog 129 #[.int .i64 t, .int .i64 n] w fun e w' => e = .returned (.tuple #[.int .u64 (tagWord t n), .int .i64 0]) ∧ w = w' := by
  have d1 : decide (t < 0) = false := by simp; omega
  have d2 : decide (4 < t) = false := by simp; omega
  have HV := Lib.hid hv
  have HW := Lib.hid (word_bits t n h1 h2)
  clear hv
  go_enter Try.func129, Try.ntmps129
  go_wp2_with fail
  refine (valid_any t n w).mono ?_
  rintro e w' ⟨rfl, rfl⟩
  rw [HV.out]
  go_wp2_with fail
  go_ret2
  rw [← HW.out]
  exact ⟨rfl, rfl⟩
set_option maxRecDepth 100000 in
theorem word_large (t n : Int) (w : World) (h1 : 0 ≤ t) (h2 : t ≤ 4) (hv : validB t n = false) :
    Calls Try.prog 129 #[.int .i64 t, .int .i64 n] w fun e w' => e = .returned (.tuple #[.int .u64 0, .int .i64 2]) ∧ w = w' := by
  have d1 : decide (t < 0) = false := by simp; omega
  have d2 : decide (4 < t) = false := by simp; omega
  have HV := Lib.hid hv
  clear hv
  go_enter Try.func129, Try.ntmps129
  go_wp2_with fail
  refine (valid_any t n w).mono ?_
  rintro e w' ⟨rfl, rfl⟩
  rw [HV.out]
  go_wp2_with fail
  go_ret2
  exact ⟨rfl, rfl⟩
set_option maxRecDepth 100000 in
theorem word_arg (t n : Int) (w : World) (h : t < 0 ∨ 4 < t) :
    Calls Try.prog 129 #[.int .i64 t, .int .i64 n] w fun e w' => e = .returned (.tuple #[.int .u64 0, .int .i64 1]) ∧ w = w' := by
  by_cases h1 : t < 0
  · have d1 : decide (t < 0) = true := by simp; omega
    clear h
    go_enter Try.func129, Try.ntmps129
    go_wp2_with fail
    go_ret2
    exact ⟨rfl, rfl⟩
  · have d1 : decide (t < 0) = false := by simp; omega
    have d2 : decide (4 < t) = true := by simp; omega
    clear h
    go_enter Try.func129, Try.ntmps129
    go_wp2_with fail
    go_ret2
    exact ⟨rfl, rfl⟩

/-- Is it a tag, and the number one of it? -/
def fitsB (t n : Int) : Bool := decide (0 ≤ t ∧ t ≤ 4) && validB t n
theorem fitsB_of (t n : Int) (h1 : 0 ≤ t) (h2 : t ≤ 4) : fitsB t n = validB t n := by simp [fitsB, h1, h2]

set_option maxRecDepth 100000 in
set_option maxHeartbeats 800000 in
theorem tagFits_any (t n : Int) (w : World) : Calls Try.prog 101 #[.int .i64 t, .int .i64 n] w fun e w' => e = .returned (.bool (fitsB t n)) ∧ w = w' := by
  by_cases hr : 0 ≤ t ∧ t ≤ 4
  · rw [fitsB_of t n hr.1 hr.2]
    have hcase : t = 0 ∨ t = 1 ∨ t = 2 ∨ t = 3 ∨ t = 4 := by omega
    rcases hcase with rfl | rfl | rfl | rfl | rfl
    · rw [show validB 0 n = decide (0 ≤ n ∧ n ≤ 0) by rw [Bool.eq_iff_iff]; simp [validB]; omega]
      clear hr
      go_enter Try.func101, Try.ntmps101
      go_wp2_with fail
      refine (in_any _ _ _ _).mono ?_
      rintro e w' ⟨rfl, rfl⟩
      rw [show decide ((0 : Int) ≤ 0 ∧ (0 : Int) ≤ 4) = true by decide]
      go_wp2_with fail
      refine (in_any _ _ _ _).mono ?_
      rintro e w' ⟨rfl, rfl⟩
      generalize hb : decide (0 ≤ n ∧ n ≤ 0) = b
      have HB := Lib.hid hb
      clear hb
      go_wp2_with fail
      go_ret
      exact ⟨by rw [HB.out]; rfl, rfl⟩
    · rw [show validB 1 n = decide (-1152921504606846976 ≤ n ∧ n ≤ 1152921504606846975) by rw [Bool.eq_iff_iff]; simp [validB]; omega]
      clear hr
      go_enter Try.func101, Try.ntmps101
      go_wp2_with fail
      refine (in_any _ _ _ _).mono ?_
      rintro e w' ⟨rfl, rfl⟩
      rw [show decide ((0 : Int) ≤ 1 ∧ (1 : Int) ≤ 4) = true by decide]
      go_wp2_with fail
      refine (in_any _ _ _ _).mono ?_
      rintro e w' ⟨rfl, rfl⟩
      generalize hb : decide (-1152921504606846976 ≤ n ∧ n ≤ 1152921504606846975) = b
      have HB := Lib.hid hb
      clear hb
      go_wp2_with fail
      go_ret
      exact ⟨by rw [HB.out]; rfl, rfl⟩
    · rw [show validB 2 n = decide (0 ≤ n ∧ n ≤ 1) by rw [Bool.eq_iff_iff]; simp [validB]; omega]
      clear hr
      go_enter Try.func101, Try.ntmps101
      go_wp2_with fail
      refine (in_any _ _ _ _).mono ?_
      rintro e w' ⟨rfl, rfl⟩
      rw [show decide ((0 : Int) ≤ 2 ∧ (2 : Int) ≤ 4) = true by decide]
      go_wp2_with fail
      refine (in_any _ _ _ _).mono ?_
      rintro e w' ⟨rfl, rfl⟩
      generalize hb : decide (0 ≤ n ∧ n ≤ 1) = b
      have HB := Lib.hid hb
      clear hb
      go_wp2_with fail
      go_ret
      exact ⟨by rw [HB.out]; rfl, rfl⟩
    · rw [show validB 3 n = decide (0 ≤ n ∧ n ≤ 1152921504606846975) by rw [Bool.eq_iff_iff]; simp [validB]; omega]
      clear hr
      go_enter Try.func101, Try.ntmps101
      go_wp2_with fail
      refine (in_any _ _ _ _).mono ?_
      rintro e w' ⟨rfl, rfl⟩
      rw [show decide ((0 : Int) ≤ 3 ∧ (3 : Int) ≤ 4) = true by decide]
      go_wp2_with fail
      refine (in_any _ _ _ _).mono ?_
      rintro e w' ⟨rfl, rfl⟩
      generalize hb : decide (0 ≤ n ∧ n ≤ 1152921504606846975) = b
      have HB := Lib.hid hb
      clear hb
      go_wp2_with fail
      go_ret
      exact ⟨by rw [HB.out]; rfl, rfl⟩
    · rw [show validB 4 n = decide (0 ≤ n ∧ n ≤ 1152921504606846975) by rw [Bool.eq_iff_iff]; simp [validB]; omega]
      clear hr
      go_enter Try.func101, Try.ntmps101
      go_wp2_with fail
      refine (in_any _ _ _ _).mono ?_
      rintro e w' ⟨rfl, rfl⟩
      rw [show decide ((0 : Int) ≤ 4 ∧ (4 : Int) ≤ 4) = true by decide]
      go_wp2_with fail
      refine (in_any _ _ _ _).mono ?_
      rintro e w' ⟨rfl, rfl⟩
      generalize hb : decide (0 ≤ n ∧ n ≤ 1152921504606846975) = b
      have HB := Lib.hid hb
      clear hb
      go_wp2_with fail
      go_ret
      exact ⟨by rw [HB.out]; rfl, rfl⟩
  · have e : fitsB t n = false := by simp only [fitsB, hr, decide_false, Bool.false_and]
    rw [e]
    have hd : decide (0 ≤ t ∧ t ≤ 4) = false := by simpa using hr
    have HD := Lib.hid hd
    have b0 : (t == 0) = false := by simp; omega
    have b1 : (t == 1) = false := by simp; omega
    have b2 : (t == 2) = false := by simp; omega
    clear hd hr e
    go_enter Try.func101, Try.ntmps101
    go_wp2_with fail
    refine (in_any _ _ _ _).mono ?_
    rintro e w' ⟨rfl, rfl⟩
    rw [HD.out]
    go_wp2_with fail
    go_ret
    exact ⟨rfl, rfl⟩

theorem and_seven (u : Int) (h1 : 0 ≤ u) (h2 : u < 18446744073709551616) : bits BinOp.and IntKind.u64 u 7 = u % 8 := by
  obtain ⟨m, rfl⟩ := Int.eq_ofNat_of_zero_le h1
  have := u64_and_nat m 7 (by omega) (by omega)
  rw [show ((7 : Nat) : Int) = 7 from rfl] at this
  rw [this]
  have e : m &&& 7 = m % 8 := Nat.and_two_pow_sub_one_eq_mod m 3
  rw [e]
  omega
/-- The number in a word. -/
def readN (u : Int) : Int := wrap64 u / 8
def readB (u : Int) : Bool := decide (u % 8 ≤ 4) && validB (u % 8) (readN u)

set_option maxRecDepth 100000 in
set_option maxHeartbeats 400000 in
theorem read_any (u : Int) (w : World) (h1 : 0 ≤ u) (h2 : u < 18446744073709551616) :
    Calls Try.prog 99 #[.int .u64 u] w fun e w' => e = .returned (.tuple #[.int .i64 (if readB u then u % 8 else 0), .int .i64 (if readB u then readN u else 0), .int .i64 (if readB u then 0 else 3)]) ∧ w = w' := by
  have hb := and_seven u h1 h2
  have HR := Lib.hid (show readB u = (decide (u % 8 ≤ 4) && validB (u % 8) (readN u)) from rfl)
  have HN := Lib.hid (show readN u = wrap64 u / 8 from rfl)
  have hm1 : 0 ≤ u % 8 := by omega
  have hm2 : u % 8 ≤ 7 := by omega
  have hsp : -9223372036854775808 ≤ wrap64 u ∧ wrap64 u ≤ 9223372036854775807 := by unfold wrap64; omega
  obtain ⟨s, hs⟩ : ∃ s, wrap64 u = s := ⟨_, rfl⟩
  rw [hs] at HN hsp
  obtain ⟨m, hm⟩ : ∃ m, u % 8 = m := ⟨_, rfl⟩
  rw [hm] at HR hm1 hm2 hb ⊢
  clear hm h1 h2
  obtain ⟨hs1, hs2⟩ := hsp
  by_cases h4 : m ≤ 4
  · have d1 : decide (4 < m) = false := by simp; omega
    have HV := Lib.hid (show readB u = validB m (s / 8) by rw [HR.out, HN.out]; simp [h4])
    rw [HN.out]
    generalize readB u = R at *
    clear HR HN
    go_enter Try.func99, Try.ntmps99
    go_wp2_with fail
    refine (valid_any m (s / 8) w).mono ?_
    rintro e w' ⟨rfl, rfl⟩
    rw [← HV.out]
    cases R
    all_goals
      go_wp2_with fail
      go_ret3
      exact ⟨rfl, rfl⟩
  · have d1 : decide (4 < m) = true := by simp; omega
    rw [show readB u = false by rw [HR.out]; simp [h4]]
    clear HR HN
    go_enter Try.func99, Try.ntmps99
    go_wp2_with fail
    go_ret3
    exact ⟨rfl, rfl⟩

/-- The number that the reference reads. -/
def refN (u : Int) : Int := if u % 8 = 1 ∧ 1152921504606846976 ≤ u / 8 then u / 8 - 2305843009213693952 else u / 8
theorem ref_is (u : Int) (h1 : 0 ≤ u) (h2 : u < 18446744073709551616) : (fitsB (u % 8) (refN u) && (tagWord (u % 8) (refN u) == u)) = readB u := by
  have hw : wrap64 u = if u < 9223372036854775808 then u else u - 18446744073709551616 := by unfold wrap64; split <;> omega
  have hval : ∀ n, fitsB (u % 8) n = (decide (u % 8 ≤ 4) && validB (u % 8) n) := fun n => by
    simp only [fitsB]
    rw [show decide (0 ≤ u % 8 ∧ u % 8 ≤ 4) = decide (u % 8 ≤ 4) by simp; omega]
  have htw : ∀ n : Int, (n = u / 8 ∨ n = u / 8 - 2305843009213693952) → tagWord (u % 8) n = u := fun n hn => by
    unfold tagWord
    rw [IntKind.wrap_u64, IntKind.wrap_u64, IntKind.wrap_u64]
    omega
  have hr : refN u = u / 8 ∨ refN u = u / 8 - 2305843009213693952 := by unfold refN; split <;> simp
  rw [htw _ hr, hval]
  simp only [beq_self_eq_true, Bool.and_true, readB]
  by_cases hu : u < 9223372036854775808
  · have e1 : readN u = u / 8 := by unfold readN; rw [hw, if_pos hu]
    have e2 : refN u = u / 8 := by unfold refN; rw [if_neg (by omega)]
    rw [e1, e2]
  · have e1 : readN u = u / 8 - 2305843009213693952 := by unfold readN; rw [hw, if_neg hu]; omega
    by_cases h8 : u % 8 = 1
    · have e2 : refN u = u / 8 - 2305843009213693952 := by unfold refN; rw [if_pos (by omega)]
      rw [e1, e2]
    · have e2 : refN u = u / 8 := by unfold refN; rw [if_neg (by omega)]
      rw [e1, e2]
      congr 1
      rw [Bool.eq_iff_iff]
      simp only [validB, h8, if_false]
      split
      · simp; omega
      · split
        · simp; omega
        · simp; omega
theorem refN_is (u : Int) (h1 : 0 ≤ u) (h2 : u < 18446744073709551616) (h : readB u = true) : refN u = readN u := by
  have hw : wrap64 u = if u < 9223372036854775808 then u else u - 18446744073709551616 := by unfold wrap64; split <;> omega
  unfold readN refN
  rw [hw]
  by_cases hu : u < 9223372036854775808
  · rw [if_neg (by omega), if_pos hu]
  · rw [if_neg hu]
    by_cases h8 : u % 8 = 1
    · rw [if_pos (by omega)]; omega
    · exfalso
      have e1 : readN u = u / 8 - 2305843009213693952 := by unfold readN; rw [hw, if_neg hu]; omega
      simp only [readB, e1, Bool.and_eq_true, decide_eq_true_eq] at h
      obtain ⟨_, h⟩ := h
      simp only [validB, h8, if_false] at h
      split at h
      · simp at h; omega
      · split at h
        · simp at h; omega
        · simp at h; omega

/-- The reference's answer for one way to read the number. -/
theorem tagRead_way (u m q n : Int) (w : World) (hm : u % 8 = m) (hn : refN u = n) (h1 : 0 ≤ u) (h2 : u < 18446744073709551616)
    (hway : ∀ R : Bool, R = readB u → (fitsB m n = false → R = false) → (fitsB m n = true → ((0 ≤ m ∧ m ≤ 4) ∧ (tagWord m n != u) = !R)) → (R = true → n = readN u) →
      Calls Try.prog 53 #[.int .u64 u] w fun e w' => e = .returned (.tuple #[.int .i64 (if R then m else 0), .int .i64 (if R then n else 0), .bool R]) ∧ w = w') (_hq : q = u / 8) :
    Calls Try.prog 53 #[.int .u64 u] w fun e w' => e = .returned (.tuple #[.int .i64 (if readB u then u % 8 else 0), .int .i64 (if readB u then readN u else 0), .bool (readB u)]) ∧ w = w' := by
  have href := ref_is u h1 h2
  rw [hm, hn] at href
  have hreq : readB u = true → n = readN u := fun h => by rw [← hn]; exact refN_is u h1 h2 h
  have := hway (readB u) rfl (fun h => by rw [← href, h]; rfl) (fun h => by
    rw [h, Bool.true_and] at href
    refine ⟨?_, by rw [← href]; rfl⟩
    simp only [fitsB, Bool.and_eq_true, decide_eq_true_eq] at h
    exact h.1) hreq
  rw [hm]
  by_cases hr : readB u = true
  · rw [hr] at this ⊢
    simp only [if_true] at this ⊢
    rw [← hreq hr]
    exact this
  · have hr' : readB u = false := by simpa using hr
    rw [hr'] at this ⊢
    exact this

set_option maxRecDepth 100000 in
set_option maxHeartbeats 800000 in
theorem tagRead_any (u : Int) (w : World) (h1 : 0 ≤ u) (h2 : u < 18446744073709551616) :
    Calls Try.prog 53 #[.int .u64 u] w fun e w' => e = .returned (.tuple #[.int .i64 (if readB u then u % 8 else 0), .int .i64 (if readB u then readN u else 0), .bool (readB u)]) ∧ w = w' := by
  have hub : u ≤ 18446744073709551615 := by omega
  by_cases ha : u % 8 = 1 ∧ 1152921504606846976 ≤ u / 8
  · refine tagRead_way u 1 (u / 8) (u / 8 - 2305843009213693952) w ha.1 (by unfold refN; rw [if_pos ha]) h1 h2 ?_ rfl
    intro R hR hno hyes hRn
    clear hR hRn
    obtain ⟨ha1, ha2⟩ := ha
    have HNO := Lib.hid hno
    have HYES := Lib.hid hyes
    clear hno hyes h2
    cases R
    · simp only [Bool.false_eq_true, if_false]
      go_enter Try.func53, Try.ntmps53
      go_wp2_with fail
      refine (tagFits_any _ _ _).mono ?_
      rintro e w' ⟨rfl, rfl⟩
      generalize hF : fitsB (1) (u / 8 - 2305843009213693952) = F at *
      have HF := Lib.hid hF
      clear hF
      cases F
      · go_wp2_with fail
        go_ret3
        exact ⟨rfl, rfl⟩
      · obtain ⟨hfr, hne⟩ := HYES.out rfl
        have HNE := Lib.hid hne
        clear hne
        go_wp2_with fail
        refine (tagWord_any _ _ _ (by omega) (by omega)).mono ?_
        rintro e w' ⟨rfl, rfl⟩
        have hne := HNE.out
        generalize tagWord (1) (u / 8 - 2305843009213693952) = T at *
        first | rw [Bool.not_false] at hne | rw [Bool.not_true] at hne
        go_wp2_with fail
        go_ret3
        exact ⟨rfl, rfl⟩
    · simp only [if_true]
      go_enter Try.func53, Try.ntmps53
      go_wp2_with fail
      refine (tagFits_any _ _ _).mono ?_
      rintro e w' ⟨rfl, rfl⟩
      generalize hF : fitsB (1) (u / 8 - 2305843009213693952) = F at *
      have HF := Lib.hid hF
      clear hF
      cases F
      · cases HNO.out rfl
      · obtain ⟨hfr, hne⟩ := HYES.out rfl
        have HNE := Lib.hid hne
        clear hne
        go_wp2_with fail
        refine (tagWord_any _ _ _ (by omega) (by omega)).mono ?_
        rintro e w' ⟨rfl, rfl⟩
        have hne := HNE.out
        generalize tagWord (1) (u / 8 - 2305843009213693952) = T at *
        first | rw [Bool.not_false] at hne | rw [Bool.not_true] at hne
        go_wp2_with fail
        go_ret3
        exact ⟨rfl, rfl⟩
  · by_cases hb : u % 8 = 1
    · have hlt : u / 8 < 1152921504606846976 := by omega
      refine tagRead_way u 1 (u / 8) (u / 8) w hb (by unfold refN; rw [if_neg ha]) h1 h2 ?_ rfl
      intro R hR hno hyes hRn
      clear hR hRn
      have HNO := Lib.hid hno
      have HYES := Lib.hid hyes
      clear hno hyes h2 ha
      cases R
      · simp only [Bool.false_eq_true, if_false]
        go_enter Try.func53, Try.ntmps53
        go_wp2_with fail
        refine (tagFits_any _ _ _).mono ?_
        rintro e w' ⟨rfl, rfl⟩
        generalize hF : fitsB (1) (u / 8) = F at *
        have HF := Lib.hid hF
        clear hF
        cases F
        · go_wp2_with fail
          go_ret3
          exact ⟨rfl, rfl⟩
        · obtain ⟨hfr, hne⟩ := HYES.out rfl
          have HNE := Lib.hid hne
          clear hne
          go_wp2_with fail
          refine (tagWord_any _ _ _ (by omega) (by omega)).mono ?_
          rintro e w' ⟨rfl, rfl⟩
          have hne := HNE.out
          generalize tagWord (1) (u / 8) = T at *
          first | rw [Bool.not_false] at hne | rw [Bool.not_true] at hne
          go_wp2_with fail
          go_ret3
          exact ⟨rfl, rfl⟩
      · simp only [if_true]
        go_enter Try.func53, Try.ntmps53
        go_wp2_with fail
        refine (tagFits_any _ _ _).mono ?_
        rintro e w' ⟨rfl, rfl⟩
        generalize hF : fitsB (1) (u / 8) = F at *
        have HF := Lib.hid hF
        clear hF
        cases F
        · cases HNO.out rfl
        · obtain ⟨hfr, hne⟩ := HYES.out rfl
          have HNE := Lib.hid hne
          clear hne
          go_wp2_with fail
          refine (tagWord_any _ _ _ (by omega) (by omega)).mono ?_
          rintro e w' ⟨rfl, rfl⟩
          have hne := HNE.out
          generalize tagWord (1) (u / 8) = T at *
          first | rw [Bool.not_false] at hne | rw [Bool.not_true] at hne
          go_wp2_with fail
          go_ret3
          exact ⟨rfl, rfl⟩
    · refine tagRead_way u (u % 8) (u / 8) (u / 8) w rfl (by unfold refN; rw [if_neg ha]) h1 h2 ?_ rfl
      intro R hR hno hyes hRn
      clear hR hRn
      have HNO := Lib.hid hno
      have HYES := Lib.hid hyes
      have b1 : (u % 8 == 1) = false := by simp [hb]
      clear hno hyes h2 ha hb
      cases R
      · simp only [Bool.false_eq_true, if_false]
        go_enter Try.func53, Try.ntmps53
        go_wp2_with fail
        refine (tagFits_any _ _ _).mono ?_
        rintro e w' ⟨rfl, rfl⟩
        generalize hF : fitsB (u % 8) (u / 8) = F at *
        have HF := Lib.hid hF
        clear hF
        cases F
        · go_wp2_with fail
          go_ret3
          exact ⟨rfl, rfl⟩
        · obtain ⟨hfr, hne⟩ := HYES.out rfl
          have HNE := Lib.hid hne
          clear hne
          go_wp2_with fail
          refine (tagWord_any _ _ _ (by omega) (by omega)).mono ?_
          rintro e w' ⟨rfl, rfl⟩
          have hne := HNE.out
          generalize tagWord (u % 8) (u / 8) = T at *
          first | rw [Bool.not_false] at hne | rw [Bool.not_true] at hne
          go_wp2_with fail
          go_ret3
          exact ⟨rfl, rfl⟩
      · simp only [if_true]
        go_enter Try.func53, Try.ntmps53
        go_wp2_with fail
        refine (tagFits_any _ _ _).mono ?_
        rintro e w' ⟨rfl, rfl⟩
        generalize hF : fitsB (u % 8) (u / 8) = F at *
        have HF := Lib.hid hF
        clear hF
        cases F
        · cases HNO.out rfl
        · obtain ⟨hfr, hne⟩ := HYES.out rfl
          have HNE := Lib.hid hne
          clear hne
          go_wp2_with fail
          refine (tagWord_any _ _ _ (by omega) (by omega)).mono ?_
          rintro e w' ⟨rfl, rfl⟩
          have hne := HNE.out
          generalize tagWord (u % 8) (u / 8) = T at *
          first | rw [Bool.not_false] at hne | rw [Bool.not_true] at hne
          go_wp2_with fail
          go_ret3
          exact ⟨rfl, rfl⟩
end Go.Proofs.Ytdjahlkjfpbifaa
