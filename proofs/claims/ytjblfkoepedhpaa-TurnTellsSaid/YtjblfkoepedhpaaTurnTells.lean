/-
  TurnTells: for every input turn.Check, Next and Round return what the reference returns. No condition.
-/
import Derived.Test.YtjblfkoepedhpaaTurn
namespace Go.Proofs.Ytjblfkoepedhpaa
open Go.ChangeShapes Go.WideShapes Go.ChangeAt Go.RowKit

set_option maxRecDepth 100000 in
set_option maxHeartbeats 400000 in
theorem turnTells_pos (A : Option Addr) (c : Nat) (xs : List Int) (last turns : Int) (W : World) (ra : Row W W.heap.size A (ints xs)) (hm : xs.length ≤ maxLen) (ht : I64 turns) (h0 : rf xs = 0) (h1 : xs.length ≤ 100) (hp : 0 < xs.length) :
    Calls Try.prog 7 #[.slice A xs.length c, .int .i64 last, .int .i64 turns] W fun e w' => e = .returned (.bool true) ∧ Below W.heap.size W w' := by
  have hn := next_any A c xs last _ W ra hm
  have HM := Lib.hid hm
  unfold maxLen at hm
  unfold I64 at ht
  have w0b := Below.refl W.heap.size W
  have HF := Lib.hid h0
  rw [if_pos ⟨h0, hp⟩, if_neg (show ¬ (rf xs = 0 ∧ xs.length = 0) from fun h => by omega), h0] at hn
  have HNX := Lib.hid hn
  clear hn h0
  have b1 : ((xs.length : Int) == 0) = false := beq_eq_false_iff_ne.2 (by omega)
  have b2 : (xs.length == 0) = false := beq_eq_false_iff_ne.2 (by omega)
  go_enter Try.func7, Try.ntmps7
  go_wp2_with fail
  refine HNX.out.mono ?_
  rintro e w' ⟨rfl, nq, rfl⟩
  have w1b := below_drewN w0b nq
  generalize W.drewN nq = w1 at *
  clear w0b HNX
  go_wp2_with fail
  refine (readyFault_any A c xs _ _ (ra.below w1b) HM.out).mono ?_
  rintro e w' ⟨rfl, nq, rfl⟩
  rw [HF.out]
  have w2b := below_drewN w1b nq
  generalize w1.drewN nq = w2 at *
  clear w1b
  go_wp2_with fail
  refine (check_any A c xs _ _ (ra.below w2b) HM.out).mono ?_
  rintro e w' ⟨rfl, nq, rfl⟩
  rw [HF.out]
  have w3b := below_drewN w2b nq
  generalize w2.drewN nq = w3 at *
  clear w2b
  go_wp2_with fail
  refine (nextOf_any A c xs last _ _ (ra.below w3b) HM.out hp).mono ?_
  rintro e w' ⟨rfl, rfl⟩
  by_cases t1 : 300 < turns
  · have d1 : decide (300 < turns) = true := by simp; omega
    by_cases t2 : turns ≤ 10000
    · have d2 : decide (turns ≤ 10000) = true := by simp; omega
      go_wp2_with fail
      go_ret
      exact ⟨rfl, w3b⟩
    · have d2 : decide (turns ≤ 10000) = false := by simp; omega
      go_wp2_with fail
      refine (round_arg A c xs last turns _ _ (ra.below w3b) HM.out HF.out (.inr (by omega))).mono ?_
      rintro e w' ⟨rfl, nq, rfl⟩
      have w4b := below_drewN w3b nq
      generalize w3.drewN nq = w4 at *
      clear w3b
      go_wp2_with fail
      refine (in_any _ _ _ _).mono ?_
      rintro e w' ⟨rfl, rfl⟩
      rw [show decide (0 ≤ turns ∧ turns ≤ 10000) = false by simp; omega]
      go_wp2_with fail
      go_ret
      exact ⟨rfl, w4b⟩
  · have d1 : decide (300 < turns) = false := by simp; omega
    by_cases t2 : turns < 0
    · go_wp2_with fail
      refine (round_arg A c xs last turns _ _ (ra.below w3b) HM.out HF.out (.inl (by omega))).mono ?_
      rintro e w' ⟨rfl, nq, rfl⟩
      have w4b := below_drewN w3b nq
      generalize w3.drewN nq = w4 at *
      clear w3b
      go_wp2_with fail
      refine (in_any _ _ _ _).mono ?_
      rintro e w' ⟨rfl, rfl⟩
      rw [show decide (0 ≤ turns ∧ turns ≤ 10000) = false by simp; omega]
      go_wp2_with fail
      go_ret
      exact ⟨rfl, w4b⟩
    · obtain ⟨T, rfl⟩ := Int.eq_ofNat_of_zero_le (show 0 ≤ turns by omega)
      go_wp2_with fail
      refine (round_ok A c xs last T w3 ((ra.below w3b).more w3b.size) HM.out HF.out (by omega)).mono ?_
      rintro e w4 ⟨v, rfl, hown, hb4⟩
      rw [if_pos hp] at hown
      have w4b : Below W.heap.size W w4 := w3b.trans (hb4.mono w3b.size)
      obtain ⟨A1, c1, rfl, hr1, hc1, hm1, _⟩ := row_of_own_int hown
      have HT := Lib.hid (turnsOf_len xs last T)
      clear hown hb4 w3b
      go_wp2_with fail
      refine (in_any _ _ _ _).mono ?_
      rintro e w' ⟨rfl, rfl⟩
      rw [show decide (0 ≤ (T : Int) ∧ (T : Int) ≤ 10000) = true by simp; omega]
      have d3 : decide ((0 : Int) < (xs.length : Int)) = true := by simp; omega
      have d3' : decide (0 < xs.length) = true := by simp; omega
      go_wp2_with fail
      go_loopw [1, 12, 86] (fun l v i wr => ∃ t : Nat, t ≤ T ∧ i = .int .i64 t ∧ l = .int .i64 (lastOf xs last t) ∧ wr.ownsRow w4.heap.size 3 1 v (turnsOf xs last t).length (ints (turnsOf xs last t)) ∧ Below w4.heap.size w4 wr) (fun _ _ i _ => T - (intOf i).toNat)
      case atStart => exact ⟨0, by omega, rfl, rfl, World.ownsRow_nil _ _ _ _, Below.refl _ _⟩
      case round =>
        obtain ⟨t, htt, rfl, rfl, hown, hb⟩ := hrel
        by_cases hlt : t < T
        · have HS := Lib.hid (turnsOf_succ xs last t)
          have HL := Lib.hid (lastOf_succ xs last t)
          have HTt := Lib.hid (turnsOf_len xs last t)
          generalize lastOf xs last t = q at *
          go_wp2_with fail
          refine (nextOf_any A c xs q _ wr ((ra.below w4b).more w4b.size |>.below hb) HM.out hp).mono ?_
          rintro e w' ⟨rfl, rfl⟩
          generalize nextOf xs q = r at *
          go_wp2_with (at_builtin; refine wpList_push rfl (.tmp 94) (.tmp 96) rfl w4.heap.size _ (turnsOf xs last t) rfl (hown.alloc _) wr.heap.size r rfl ((Box.new _ _ _).cell 0) (by rw [HTt.out]; omega) (Nat.le_trans hb.size (by simp)) ?_; intro v' w5 hown' hg')
          have hb' := (hb.alloc hb.size _).grown hg' (Nat.le_trans hb.size (by simp)) (fun g hg => (hown.lt g hg).1)
          go_roundw
          case rel => exact ⟨t + 1, by omega, by go_num, by rw [HL.out], by rw [HS.out]; exact hown', hb'⟩
          case measure => simp [intOf]; omega
        · obtain rfl : t = T := by omega
          obtain ⟨A2, c2, rfl, hr2, hc2, hm2, _⟩ := row_of_own_int hown
          go_wp2_with fail
          refine (equal_any _ _ _ _ _ _ _ _ _ (hr1.below hb) hr2 (by omega) (by omega)).mono ?_
          rintro e w' ⟨rfl, nq, rfl⟩
          rw [show decide (turnsOf xs last t = turnsOf xs last t) = true by simp]
          go_wp2_with fail
          go_ret
          exact ⟨rfl, below_drewN (w4b.trans (hb.mono w4b.size)) nq⟩

set_option maxRecDepth 100000 in
set_option maxHeartbeats 400000 in
theorem turnTells_nil (A : Option Addr) (c : Nat) (xs : List Int) (last turns : Int) (W : World) (ra : Row W W.heap.size A (ints xs)) (hm : xs.length ≤ maxLen) (ht : I64 turns) (h0 : rf xs = 0) (hp : ¬ 0 < xs.length) :
    Calls Try.prog 7 #[.slice A xs.length c, .int .i64 last, .int .i64 turns] W fun e w' => e = .returned (.bool true) ∧ Below W.heap.size W w' := by
  have hn := next_any A c xs last _ W ra hm
  have HM := Lib.hid hm
  unfold maxLen at hm
  unfold I64 at ht
  have w0b := Below.refl W.heap.size W
  have HF := Lib.hid h0
  have hz : xs = [] := List.eq_nil_of_length_eq_zero (by omega)
  subst hz
  rw [if_neg (by simp), if_pos ⟨h0, rfl⟩] at hn
  have HNX := Lib.hid hn
  clear hn h0 hp
  go_enter Try.func7, Try.ntmps7
  go_wp2_with fail
  refine HNX.out.mono ?_
  rintro e w' ⟨rfl, nq, rfl⟩
  have w1b := below_drewN w0b nq
  generalize W.drewN nq = w1 at *
  clear w0b HNX
  go_wp2_with fail
  refine (readyFault_any A c [] 0 _ Row.nil HM.out).mono ?_
  rintro e w' ⟨rfl, nq, rfl⟩
  rw [HF.out]
  have w2b := below_drewN w1b nq
  generalize w1.drewN nq = w2 at *
  clear w1b
  go_wp2_with fail
  refine (check_any A c [] 0 _ Row.nil HM.out).mono ?_
  rintro e w' ⟨rfl, nq, rfl⟩
  rw [HF.out]
  have w3b := below_drewN w2b nq
  generalize w2.drewN nq = w3 at *
  clear w2b
  by_cases t1 : 300 < turns
  · have d1 : decide (300 < turns) = true := by simp; omega
    by_cases t2 : turns ≤ 10000
    · have d2 : decide (turns ≤ 10000) = true := by simp; omega
      go_wp2_with fail
      go_ret
      exact ⟨rfl, w3b⟩
    · have d2 : decide (turns ≤ 10000) = false := by simp; omega
      go_wp2_with fail
      refine (round_arg A c [] last turns 0 _ Row.nil HM.out HF.out (.inr (by omega))).mono ?_
      rintro e w' ⟨rfl, nq, rfl⟩
      have w4b := below_drewN w3b nq
      generalize w3.drewN nq = w4 at *
      clear w3b
      go_wp2_with fail
      refine (in_any _ _ _ _).mono ?_
      rintro e w' ⟨rfl, rfl⟩
      rw [show decide (0 ≤ turns ∧ turns ≤ 10000) = false by simp; omega]
      go_wp2_with fail
      go_ret
      exact ⟨rfl, w4b⟩
  · have d1 : decide (300 < turns) = false := by simp; omega
    by_cases t2 : turns < 0
    · go_wp2_with fail
      refine (round_arg A c [] last turns 0 _ Row.nil HM.out HF.out (.inl (by omega))).mono ?_
      rintro e w' ⟨rfl, nq, rfl⟩
      have w4b := below_drewN w3b nq
      generalize w3.drewN nq = w4 at *
      clear w3b
      go_wp2_with fail
      refine (in_any _ _ _ _).mono ?_
      rintro e w' ⟨rfl, rfl⟩
      rw [show decide (0 ≤ turns ∧ turns ≤ 10000) = false by simp; omega]
      go_wp2_with fail
      go_ret
      exact ⟨rfl, w4b⟩
    · obtain ⟨T, rfl⟩ := Int.eq_ofNat_of_zero_le (show 0 ≤ turns by omega)
      go_wp2_with fail
      refine (round_ok A c [] last T w3 Row.nil HM.out HF.out (by omega)).mono ?_
      rintro e w4 ⟨v, rfl, hown, hb4⟩
      rw [if_neg (by simp)] at hown
      have w4b : Below W.heap.size W w4 := w3b.trans (hb4.mono w3b.size)
      obtain ⟨A1, c1, rfl, hr1, hc1, hm1, _⟩ := row_of_own_int hown
      clear hown hb4 w3b
      go_wp2_with fail
      refine (in_any _ _ _ _).mono ?_
      rintro e w' ⟨rfl, rfl⟩
      rw [show decide (0 ≤ (T : Int) ∧ (T : Int) ≤ 10000) = true by simp; omega]
      go_wp2_with fail
      go_loop [12, 86] (fun v i => ∃ t : Nat, t ≤ T ∧ v = .slice none 0 0 ∧ i = .int .i64 t) (fun _ i => T - (intOf i).toNat)
      case atStart => exact ⟨0, by omega, rfl, rfl⟩
      case round =>
        obtain ⟨t, htt, rfl, rfl⟩ := hrel
        by_cases hlt : t < T
        · go_wp2_with fail
          go_round
          case rel => exact ⟨t + 1, by omega, rfl, by go_num⟩
          case measure => simp [intOf]; omega
        · go_wp2_with fail
          refine (equal_any A1 none c1 0 [] [] 0 0 w4 Row.nil Row.nil (Nat.zero_le _) (Nat.zero_le _)).mono ?_
          rintro e w' ⟨rfl, nq, rfl⟩
          rw [show decide (([] : List Int) = []) = true by simp]
          go_wp2_with fail
          go_ret
          exact ⟨rfl, below_drewN w4b nq⟩

set_option maxRecDepth 100000 in
set_option maxHeartbeats 400000 in
theorem turnTells_bad (A : Option Addr) (c : Nat) (xs : List Int) (last turns : Int) (W : World) (ra : Row W W.heap.size A (ints xs)) (hm : xs.length ≤ maxLen) (ht : I64 turns) (h0 : rf xs = 2 ∨ rf xs = 21) :
    Calls Try.prog 7 #[.slice A xs.length c, .int .i64 last, .int .i64 turns] W fun e w' => e = .returned (.bool true) ∧ Below W.heap.size W w' := by
  have hn := next_any A c xs last _ W ra hm
  have HM := Lib.hid hm
  unfold maxLen at hm
  unfold I64 at ht
  have w0b := Below.refl W.heap.size W
  have hne : rf xs ≠ 0 := by omega
  rw [if_neg (fun h => hne h.1), if_neg (fun h => hne h.1)] at hn
  have HNX := Lib.hid hn
  have HRF := Lib.hid (fun w1 (h : Below W.heap.size W w1) => readyFault_any A c xs _ w1 (ra.below h) HM.out)
  have HCK := Lib.hid (fun w1 (h : Below W.heap.size W w1) => check_any A c xs _ w1 (ra.below h) HM.out)
  have HRD := Lib.hid (fun w1 (h : Below W.heap.size W w1) => round_bad A c xs last turns _ w1 (ra.below h) HM.out hne)
  generalize rf xs = r at *
  have b0 : (r != 0) = true := by simp; exact hne
  have b1 : (r == 0) = false := by simp; exact hne
  clear hn h0 hne
  go_enter Try.func7, Try.ntmps7
  go_wp2_with fail
  refine HNX.out.mono ?_
  rintro e w' ⟨rfl, nq, rfl⟩
  have w1b := below_drewN w0b nq
  generalize W.drewN nq = w1 at *
  clear w0b HNX
  go_wp2_with fail
  refine (HRF.out _ w1b).mono ?_
  rintro e w' ⟨rfl, nq, rfl⟩
  have w2b := below_drewN w1b nq
  generalize w1.drewN nq = w2 at *
  clear w1b
  go_wp2_with fail
  refine (HCK.out _ w2b).mono ?_
  rintro e w' ⟨rfl, nq, rfl⟩
  have w3b := below_drewN w2b nq
  generalize w2.drewN nq = w3 at *
  clear w2b
  have fin : ∀ nq, Below W.heap.size W (w3.drewN nq) := fun nq => below_drewN w3b nq
  have FIN := Lib.hid fin
  clear fin
  by_cases t1 : 300 < turns
  · have d1 : decide (300 < turns) = true := by simp; omega
    by_cases t2 : turns ≤ 10000
    · have d2 : decide (turns ≤ 10000) = true := by simp; omega
      go_wp2_with fail
      go_ret
      exact ⟨rfl, w3b⟩
    · have d2 : decide (turns ≤ 10000) = false := by simp; omega
      go_wp2_with fail
      refine (HRD.out _ w3b).mono ?_
      rintro e w' ⟨rfl, nq, rfl⟩
      go_wp2_with fail
      go_ret
      exact ⟨rfl, FIN.out nq⟩
  · have d1 : decide (300 < turns) = false := by simp; omega
    go_wp2_with fail
    refine (HRD.out _ w3b).mono ?_
    rintro e w' ⟨rfl, nq, rfl⟩
    go_wp2_with fail
    go_ret
    exact ⟨rfl, FIN.out nq⟩

theorem turnTells_walk (A : Option Addr) (c : Nat) (xs : List Int) (last turns : Int) (W : World) (ra : Row W W.heap.size A (ints xs)) (hm : xs.length ≤ maxLen) (ht : I64 turns) :
    Calls Try.prog 7 #[.slice A xs.length c, .int .i64 last, .int .i64 turns] W fun e w' => e = .returned (.bool true) ∧ Below W.heap.size W w' := by
  rcases rf_cases xs with ⟨h0, h1⟩ | h0
  · by_cases hp : 0 < xs.length
    · exact turnTells_pos A c xs last turns W ra hm ht h0 h1 hp
    · exact turnTells_nil A c xs last turns W ra hm ht h0 hp
  · exact turnTells_bad A c xs last turns W ra hm ht h0

set_option maxRecDepth 100000 in
theorem turnTells_called : Called 7 Try.f7 := by
  intro H enc W base args ds p hval hA hsz
  rw [Try.params7] at hA hval
  obtain ⟨v0, v1, v2, d0, d1, d2, p0, p1, p2, rfl, rfl, rfl, h0, h1, h2⟩ := trodAll_three hA
  obtain ⟨A, c, xs, rfl, hr, hl, hm, _, _⟩ := open_intRow Try.underlying27 Try.underlying3 (by kernel_rfl) (hval 0 27 v0 rfl rfl) h0
  obtain ⟨b, rfl, rfl, rfl, w1⟩ := open_int Try.underlying3 (hval 1 3 v1 rfl rfl) h1
  obtain ⟨t, rfl, rfl, rfl, w2⟩ := open_int Try.underlying3 (hval 2 3 v2 rfl rfl) h2
  exact turnTells_walk A c xs b t W hr (by omega) (I64.of_wf w2)

set_option maxRecDepth 100000 in
theorem turnTells_lifted (os : Os) (started : os.Started) (H : Type) (enc : TypeId × Value → H) :
    ReturnsInHanded {} Try.checked os 7 .any (Rows.turnTellsSpec.pre6 enc Try.prog Try.f7 Rows.turnTellsRow.domain false) (Rows.turnTellsSpec.post enc Try.prog Try.f7 false true false false) :=
  law_lift started (by kernel_rfl) Try.func7
    (ChangeSpec.witness6 (enc := enc) (C := Try.checked) false ⟨#[], #[.slice none 0 0, .int .i64 0, .int .i64 0], []⟩ 8 (by kernel_rfl) (by kernel_rfl) (by kernel_rfl) (by kernel_rfl))
    rfl rfl (by kernel_rfl) (by kernel_rfl) (fun l hl => by
      rw [Try.params7] at hl
      match l, hl with
      | [d0, d1, d2], _ => rfl) turnTells_called

theorem turnTells_over : Rows.turnTellsRow.holds Try.pinned (OpenSpec.ofChange Rows.turnTellsSpec) :=
  OpenClaim.holds_of_wide 7 Try.f7 rfl rfl rfl rfl rfl rfl rfl ⟨rfl, rfl, rfl, rfl, rfl⟩ rfl rfl rfl rfl rfl (by kernel_rfl) Try.func7 (by kernel_rfl)
    (of_decide_eq_true (by kernel_rfl)) (by unfold Func.isWrapper; first | (rw [if_pos (by decide +kernel)]; kernel_rfl) | (rw [if_neg (by decide +kernel)]; exact ⟨rfl, rfl⟩))
    (fun os started H enc _ => turnTells_lifted os started H enc)

theorem turnTells_holds : Rows.TurnTellsSaid := turnTells_over
end Go.Proofs.Ytjblfkoepedhpaa
