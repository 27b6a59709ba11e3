/-
  Histories: clocks compared; clock.Ahead.
-/
import Derived.Test.YtcmkkfpcdebfkaaEv10
import Derived.Test.YtcmkkfpcdebfkaaEv3
namespace Go.Proofs.Ytcmkkfpcdebfkaa
open Go.RowKit Go.Maps

open Classical in
theorem less_vec {l : List Ev} {i k : Nat} (hi : i < l.length) (hk : k < l.length) (hpl : ∀ j, j < l.length → 0 ≤ (evAt l j).1 ∧ (evAt l j).1 < 8) : lessB (vec l (Upto l i) l.length) (vec l (Upto l k) l.length) = befB l k i := by
  have e : max (vec l (Upto l i) l.length).length (vec l (Upto l k) l.length).length = 8 := by rw [vec_len, vec_len]; rfl
  unfold lessB
  rw [e]
  have hle : ∀ q : Nat, q < 8 → ((vec l (Upto l i) l.length).getD q 0 ≤ (vec l (Upto l k) l.length).getD q 0 ↔ cnt l (Upto l i) (q : Int) l.length ≤ cnt l (Upto l k) (q : Int) l.length) := fun q hq => by
    rw [vec_getD hq, vec_getD hq]; omega
  have hlt : ∀ q : Nat, q < 8 → ((vec l (Upto l i) l.length).getD q 0 < (vec l (Upto l k) l.length).getD q 0 ↔ cnt l (Upto l i) (q : Int) l.length < cnt l (Upto l k) (q : Int) l.length) := fun q hq => by
    rw [vec_getD hq, vec_getD hq]; omega
  rw [Bool.eq_iff_iff, Bool.and_eq_true]
  unfold befB leTo ltTo
  rw [decide_eq_true_eq, List.all_eq_true, List.any_eq_true]
  constructor
  · rintro ⟨h1, q, hq, h2⟩
    have hp := hpl i hi
    obtain ⟨p, hpp⟩ : ∃ p : Nat, (evAt l i).1 = (p : Int) := ⟨(evAt l i).1.toNat, by omega⟩
    have h3 := h1 p (by simp; omega)
    rw [decide_eq_true_eq, hle p (by omega)] at h3
    have h4 := less_upto hi hpp h3
    rcases h4 with rfl | h4
    · rw [decide_eq_true_eq, hlt q (by simpa using hq)] at h2
      omega
    · exact h4
  · intro h
    have hsub := upto_sub (l := l) (i := i) (k := k) (.inr h)
    refine ⟨fun q hq => ?_, ?_⟩
    · rw [decide_eq_true_eq, hle q (by simpa using hq)]
      exact cnt_mono fun j _ _ hj => hsub j hj
    · have hp := hpl k hk
      obtain ⟨p, hpp⟩ : ∃ p : Nat, (evAt l k).1 = (p : Int) := ⟨(evAt l k).1.toNat, by omega⟩
      refine ⟨p, by simp; omega, ?_⟩
      rw [decide_eq_true_eq, hlt p (by omega)]
      exact cnt_lt (fun j _ _ hj => hsub j hj) hk hpp (.inl rfl) (fun hc => by have := hc.le; have := h.lt; omega)

/-- The clocks of a history, as they read. -/
def ClkIn (w : World) (B : Nat) (A : Option Addr) (l : List Ev) : Prop :=
  ∀ i, i < l.length → ∃ b o A' c', A = some ⟨b, o, none⟩ ∧ b < B ∧ w.cell? ⟨b, o + i, none⟩ = some (.slice A' 8 c') ∧ Row w B A' (ints (vec l (Upto l i) l.length))
theorem ClkIn.below {w w' : World} {B : Nat} {A : Option Addr} {l : List Ev} (h : ClkIn w B A l) (hb : Below B w w') : ClkIn w' B A l := fun i hi => by
  obtain ⟨b, o, A', c', h1, h2, h3, h4⟩ := h i hi
  exact ⟨b, o, A', c', h1, h2, (hb.cell (p := ⟨b, o + i, none⟩) h2).trans h3, h4.below hb⟩
theorem ClkIn.more {w : World} {B B' : Nat} {A : Option Addr} {l : List Ev} (h : ClkIn w B A l) (hB : B ≤ B') : ClkIn w B' A l := fun i hi => by
  obtain ⟨b, o, A', c', h1, h2, h3, h4⟩ := h i hi
  exact ⟨b, o, A', c', h1, by omega, h3, h4.more hB⟩
theorem clocks_in (A : Option Addr) (c : Nat) (l : List Ev) (W : World) (h : EvIn W A c l) (h0 : history l = 0) :
    Calls Try.prog 71 #[.slice A l.length c] W fun e w' => ∃ A' c', e = .returned (.tuple #[.slice A' l.length c', .int .i64 0]) ∧ ClkIn w' w'.heap.size A' l ∧ Below W.heap.size W w' := by
  refine (clocks_ok A c l W h h0).mono ?_
  rintro e w' ⟨v, os, rfl, hl, ho, hr, hb⟩
  obtain ⟨A', c', rfl, hrow, _⟩ := row_of_own_any ho
  refine ⟨A', c', rfl, fun i hi => ?_, hb⟩
  obtain ⟨b, o, rfl, hb1, hc⟩ := hrow (by omega)
  have hi' : i < os.length := by omega
  obtain ⟨A2, c2, hu, hr2⟩ := (hr i os[i] (List.getElem?_eq_getElem hi')).parts
  rw [vec_len] at hu
  exact ⟨b, o, A2, c2, rfl, hb1, (hc i _ (List.getElem?_eq_getElem hi')).trans (by rw [hu]), hr2⟩

theorem lessU {l : List Ev} {i k : Nat} (hi : i < l.length) (hk : k < l.length) (hpl : ∀ j, j < l.length → 0 ≤ (evAt l j).1 ∧ (evAt l j).1 < 8) {A A' : Option Addr} {c c' B B' : Nat} {w : World} (ra : Row w B A (ints (vec l (Upto l i) l.length))) (rb : Row w B' A' (ints (vec l (Upto l k) l.length))) :
    Calls Try.prog 153 #[.slice A 8 c, .slice A' 8 c'] w fun e w' => e = .returned (.bool (befB l k i)) ∧ w' = w := by
  have h := less_any A A' c c' _ _ B B' w ra rb (by rw [vec_len]; decide) (by rw [vec_len]; decide)
  rw [less_vec hi hk hpl, vec_len, vec_len] at h
  exact h.mono fun e w' ⟨h1, h2⟩ => ⟨h1, h2.symm⟩

set_option maxHeartbeats 400000 in
theorem ahead_bad (A : Option Addr) (c : Nat) (l : List Ev) (i k : Int) (W : World) (h : EvIn W A c l) (hbad : history l ≠ 0) :
    Calls Try.prog 70 #[.slice A l.length c, .int .i64 i, .int .i64 k] W fun e w' => e = .returned (.tuple #[.bool false, .int .i64 (history l)]) ∧ Below W.heap.size W w' := by
  have HC := Lib.hid (clocks_bad A c l W h hbad)
  have q1 : (history l != 0) = true := by rw [bne_iff_ne]; exact hbad
  generalize history l = e0 at *
  clear h hbad
  go_enter Try.func70, Try.ntmps70
  go_wp2_with fail
  refine HC.out.mono ?_
  rintro e w1 ⟨rfl, hb⟩
  have HB := Lib.hid hb
  clear hb
  go_wp2_with fail
  go_ret2
  exact ⟨rfl, HB.out⟩

set_option maxHeartbeats 1000000 in
theorem ahead_out (A : Option Addr) (c : Nat) (l : List Ev) (i k : Int) (W : World) (h : EvIn W A c l) (h0 : history l = 0) (hout : (i < 0 ∨ k < 0) ∨ ((l.length : Int) ≤ i ∨ (l.length : Int) ≤ k)) :
    Calls Try.prog 70 #[.slice A l.length c, .int .i64 i, .int .i64 k] W fun e w' => e = .returned (.tuple #[.bool false, .int .i64 1]) ∧ Below W.heap.size W w' := by
  have HC := Lib.hid (clocks_in A c l W h h0)
  have hl200 := (hist_good h0).1
  clear h h0
  rcases Int.lt_trichotomy k i with hki | hki | hki
  · have hik : ¬ i < k := by omega
    have e1 : decide (k < i) = true := decide_eq_true hki
    have e2 : decide (i < k) = false := decide_eq_false (by omega)
    by_cases hneg : k < 0
    · have e3 : decide (k < 0) = true := decide_eq_true hneg
      clear hneg hout
      go_enter Try.func70, Try.ntmps70
      go_wp2_with fail
      refine HC.out.mono ?_
      rintro e w1 ⟨A', c', rfl, hck, hb⟩
      have HB := Lib.hid hb
      clear hb hck
      go_wp2_with fail
      go_ret2
      exact ⟨rfl, HB.out⟩
    · have e3 : decide (k < 0) = false := decide_eq_false hneg
      have e4 : decide ((l.length : Int) ≤ i) = true := decide_eq_true (by omega)
      clear hneg hout
      go_enter Try.func70, Try.ntmps70
      go_wp2_with fail
      refine HC.out.mono ?_
      rintro e w1 ⟨A', c', rfl, hck, hb⟩
      have HB := Lib.hid hb
      clear hb hck
      go_wp2_with fail
      go_ret2
      exact ⟨rfl, HB.out⟩
  · subst hki
    have e1 : decide (k < k) = false := decide_eq_false (by omega)
    by_cases hneg : k < 0
    · have e3 : decide (k < 0) = true := decide_eq_true hneg
      clear hneg hout
      go_enter Try.func70, Try.ntmps70
      go_wp2_with fail
      refine HC.out.mono ?_
      rintro e w1 ⟨A', c', rfl, hck, hb⟩
      have HB := Lib.hid hb
      clear hb hck
      go_wp2_with fail
      go_ret2
      exact ⟨rfl, HB.out⟩
    · have e3 : decide (k < 0) = false := decide_eq_false hneg
      have e4 : decide ((l.length : Int) ≤ k) = true := decide_eq_true (by omega)
      clear hneg hout
      go_enter Try.func70, Try.ntmps70
      go_wp2_with fail
      refine HC.out.mono ?_
      rintro e w1 ⟨A', c', rfl, hck, hb⟩
      have HB := Lib.hid hb
      clear hb hck
      go_wp2_with fail
      go_ret2
      exact ⟨rfl, HB.out⟩
  · have hik : ¬ k < i := by omega
    have e1 : decide (k < i) = false := decide_eq_false (by omega)
    have e2 : decide (i < k) = true := decide_eq_true hki
    by_cases hneg : i < 0
    · have e3 : decide (i < 0) = true := decide_eq_true hneg
      clear hneg hout
      go_enter Try.func70, Try.ntmps70
      go_wp2_with fail
      refine HC.out.mono ?_
      rintro e w1 ⟨A', c', rfl, hck, hb⟩
      have HB := Lib.hid hb
      clear hb hck
      go_wp2_with fail
      go_ret2
      exact ⟨rfl, HB.out⟩
    · have e3 : decide (i < 0) = false := decide_eq_false hneg
      have e4 : decide ((l.length : Int) ≤ k) = true := decide_eq_true (by omega)
      clear hneg hout
      go_enter Try.func70, Try.ntmps70
      go_wp2_with fail
      refine HC.out.mono ?_
      rintro e w1 ⟨A', c', rfl, hck, hb⟩
      have HB := Lib.hid hb
      clear hb hck
      go_wp2_with fail
      go_ret2
      exact ⟨rfl, HB.out⟩

set_option maxHeartbeats 1000000 in
theorem ahead_ok (A : Option Addr) (c : Nat) (l : List Ev) (i k : Nat) (W : World) (h : EvIn W A c l) (h0 : history l = 0) (hi : i < l.length) (hk : k < l.length) :
    Calls Try.prog 70 #[.slice A l.length c, .int .i64 (i : Int), .int .i64 (k : Int)] W fun e w' => e = .returned (.tuple #[.bool (befB l k i), .int .i64 0]) ∧ Below W.heap.size W w' := by
  have HC := Lib.hid (clocks_in A c l W h h0)
  have hl200 := (hist_good h0).1
  have HPL := Lib.hid (fun j hj => ((hist_good h0).2 j hj).place)
  clear h h0
  have e3 : decide ((l.length : Int) ≤ (i : Int)) = false := decide_eq_false (by omega)
  have e4 : decide ((l.length : Int) ≤ (k : Int)) = false := decide_eq_false (by omega)
  have e5 : decide (l.length ≤ i) = false := decide_eq_false (by omega)
  have e6 : decide (l.length ≤ k) = false := decide_eq_false (by omega)
  rcases Nat.lt_trichotomy k i with hki | hki | hki
  · have e1 : decide ((k : Int) < (i : Int)) = true := decide_eq_true (by omega)
    have e2 : decide ((i : Int) < (k : Int)) = false := decide_eq_false (by omega)
    have e7 : decide (k < i) = true := decide_eq_true hki
    have e8 : decide (i < k) = false := decide_eq_false (by omega)
    have p1 : (k : Int) < (i : Int) := by omega
    have p2 : ¬ (i : Int) < (k : Int) := by omega
    have p3 : ¬ i < k := by omega
    go_enter Try.func70, Try.ntmps70
    go_wp2_with fail
    refine HC.out.mono ?_
    rintro e w1 ⟨A', c', rfl, hck, hb⟩
    have HB := Lib.hid hb
    obtain ⟨b, o, A1, c1, rfl, hbl, hc1, hr1⟩ := hck i hi
    obtain ⟨b2, o2, A2, c2, hbb, _, hc2, hr2⟩ := hck k hk
    obtain ⟨rfl, rfl⟩ : b2 = b ∧ o2 = o := by simp at hbb; exact ⟨hbb.1.symm, hbb.2.symm⟩
    have HL := Lib.hid (fun n => lessU hi hk HPL.out (A := A1) (A' := A2) (c := c1) (c' := c2) (B := w1.heap.size) (B' := w1.heap.size) (w := w1.drewN n) hr1 hr2)
    clear hb hck hbb hr1 hr2
    go_wp2_with fail
    go_quiet ((go_at_call 153; exact Calls.quiet_of_same (HL.out _)))
    go_wp2_with fail
    go_ret2
    exact ⟨rfl, below_drewN HB.out _⟩
  · subst hki
    have e1 : decide ((k : Int) < (k : Int)) = false := decide_eq_false (by omega)
    have p2 : ¬ (k : Int) < (k : Int) := by omega
    have p3 : ¬ k < k := by omega
    go_enter Try.func70, Try.ntmps70
    go_wp2_with fail
    refine HC.out.mono ?_
    rintro e w1 ⟨A', c', rfl, hck, hb⟩
    have HB := Lib.hid hb
    obtain ⟨b, o, A1, c1, rfl, hbl, hc1, hr1⟩ := hck k hi
    have HL := Lib.hid (fun n => lessU hi hk HPL.out (A := A1) (A' := A1) (c := c1) (c' := c1) (B := w1.heap.size) (B' := w1.heap.size) (w := w1.drewN n) hr1 hr1)
    clear hb hck hr1
    go_wp2_with fail
    go_quiet ((go_at_call 153; exact Calls.quiet_of_same (HL.out _)))
    go_wp2_with fail
    go_ret2
    exact ⟨rfl, below_drewN HB.out _⟩
  · have e1 : decide ((k : Int) < (i : Int)) = false := decide_eq_false (by omega)
    have e2 : decide ((i : Int) < (k : Int)) = true := decide_eq_true (by omega)
    have e7 : decide (k < i) = false := decide_eq_false (by omega)
    have e8 : decide (i < k) = true := decide_eq_true hki
    have p1 : (i : Int) < (k : Int) := by omega
    have p2 : ¬ (k : Int) < (i : Int) := by omega
    have p3 : ¬ k < i := by omega
    go_enter Try.func70, Try.ntmps70
    go_wp2_with fail
    refine HC.out.mono ?_
    rintro e w1 ⟨A', c', rfl, hck, hb⟩
    have HB := Lib.hid hb
    obtain ⟨b, o, A1, c1, rfl, hbl, hc1, hr1⟩ := hck i hi
    obtain ⟨b2, o2, A2, c2, hbb, _, hc2, hr2⟩ := hck k hk
    obtain ⟨rfl, rfl⟩ : b2 = b ∧ o2 = o := by simp at hbb; exact ⟨hbb.1.symm, hbb.2.symm⟩
    have HL := Lib.hid (fun n => lessU hi hk HPL.out (A := A1) (A' := A2) (c := c1) (c' := c2) (B := w1.heap.size) (B' := w1.heap.size) (w := w1.drewN n) hr1 hr2)
    clear hb hck hbb hr1 hr2
    go_wp2_with fail
    go_quiet ((go_at_call 153; exact Calls.quiet_of_same (HL.out _)))
    go_wp2_with fail
    go_ret2
    exact ⟨rfl, below_drewN HB.out _⟩
end Go.Proofs.Ytcmkkfpcdebfkaa
