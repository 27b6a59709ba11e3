/-
  Package trace: At, Same.
-/
import Derived.Test.YtcmkkfpcdebfkaaTr3
namespace Go.Proofs.Ytcmkkfpcdebfkaa
open Go.RowKit

set_option maxHeartbeats 400000 in
theorem atX_bad (A : Option Addr) (c : Nat) (l : List Ev) (p : Int) (W : World) (h : EvIn W A c l) (hbad : history l ≠ 0) :
    Calls Try.prog 101 #[.slice A l.length c, .int .i64 p] W fun e w' => e = .returned (.tuple #[.slice none 0 0, .int .i64 (history l)]) ∧ Below W.heap.size W w' := by
  have HC := Lib.hid h.check
  have q1 : (history l != 0) = true := by rw [bne_iff_ne]; exact hbad
  generalize history l = e0 at *
  clear h hbad
  go_enter Try.func101, Try.ntmps101
  go_wp2_with fail
  refine HC.out.mono ?_
  rintro e w1 ⟨rfl, hb⟩
  have HB := Lib.hid hb
  clear hb
  go_wp2_with fail
  go_ret2
  exact ⟨rfl, HB.out⟩
set_option maxHeartbeats 400000 in
theorem atX_out (A : Option Addr) (c : Nat) (l : List Ev) (p : Int) (W : World) (h : EvIn W A c l) (h0 : history l = 0) (hout : p < 0 ∨ 8 ≤ p) :
    Calls Try.prog 101 #[.slice A l.length c, .int .i64 p] W fun e w' => e = .returned (.tuple #[.slice none 0 0, .int .i64 1]) ∧ Below W.heap.size W w' := by
  have hck := h.check
  rw [h0] at hck
  have HC := Lib.hid hck
  clear h h0 hck
  by_cases p1 : p < 0
  · have d1 : decide (p < 0) = true := decide_eq_true p1
    clear hout p1
    go_enter Try.func101, Try.ntmps101
    go_wp2_with fail
    refine HC.out.mono ?_
    rintro e w1 ⟨rfl, hb⟩
    have HB := Lib.hid hb
    clear hb
    go_wp2_with fail
    go_ret2
    exact ⟨rfl, HB.out⟩
  · have d1 : decide (p < 0) = false := decide_eq_false p1
    have d2 : decide (8 ≤ p) = true := decide_eq_true (by omega)
    clear hout p1
    go_enter Try.func101, Try.ntmps101
    go_wp2_with fail
    refine HC.out.mono ?_
    rintro e w1 ⟨rfl, hb⟩
    have HB := Lib.hid hb
    clear hb
    go_wp2_with fail
    go_ret2
    exact ⟨rfl, HB.out⟩
set_option maxHeartbeats 400000 in
theorem atX_ok (A : Option Addr) (c : Nat) (l : List Ev) (p : Int) (W : World) (h : EvIn W A c l) (h0 : history l = 0) (hin : 0 ≤ p ∧ p < 8) :
    Calls Try.prog 101 #[.slice A l.length c, .int .i64 p] W fun e w' => ∃ v, e = .returned (.tuple #[v, .int .i64 0]) ∧ EvOwn w' W.heap.size v (ofPl l p) ∧ Below W.heap.size W w' := by
  have hck := h.check
  rw [h0] at hck
  have HC := Lib.hid hck
  have HEV := Lib.hid h
  have hl200 := (hist_good h0).1
  have d1 : decide (p < 0) = false := decide_eq_false (by omega)
  have d2 : decide (8 ≤ p) = false := decide_eq_false (by omega)
  clear h h0 hck hin
  go_enter Try.func101, Try.ntmps101
  go_wp2_with fail
  refine HC.out.mono ?_
  rintro e w1 ⟨rfl, hb⟩
  have HB := Lib.hid hb
  have HA := Lib.hid (atT_any A c l p w1 (HEV.out.below hb).row hl200)
  clear hb
  go_wp2_with fail
  refine HA.out.mono ?_
  rintro e w2 ⟨v, rfl, ho, hb2⟩
  have HO := Lib.hid (own_lower ho HB.out.size)
  have HB2 := Lib.hid (HB.out.trans (hb2.mono HB.out.size))
  clear ho hb2
  go_wp2_with fail
  go_ret2
  exact ⟨_, rfl, HO.out, HB2.out⟩

/-- Whether each place ahead of p has the same events in both. -/
def sameAll (a b : List Ev) : Nat → Bool
  | 0 => true
  | p + 1 => sameAll a b p && eqF sameP (ofPl a (p : Int)) (ofPl b (p : Int))
theorem sameAll_false {a b : List Ev} {p : Nat} : ∀ q, p < q → eqF sameP (ofPl a (p : Int)) (ofPl b (p : Int)) = false → sameAll a b q = false
  | q + 1, h, hf => by
    unfold sameAll
    by_cases e : p = q
    · subst e; rw [hf, Bool.and_false]
    · rw [sameAll_false q (by omega) hf, Bool.false_and]

set_option maxRecDepth 100000 in
set_option maxHeartbeats 1000000 in
theorem same_bad1 (A B : Option Addr) (c d : Nat) (a b : List Ev) (W : World) (ha : EvIn W A c a) (hbad : history a ≠ 0) :
    Calls Try.prog 102 #[.slice A a.length c, .slice B b.length d] W fun e w' => e = .returned (.tuple #[.bool false, .int .i64 (history a)]) ∧ Below W.heap.size W w' := by
  have HA := Lib.hid (fun w (hw : Below W.heap.size W w) => (ha.below hw).check)
  have q1 : (history a != 0) = true := by rw [bne_iff_ne]; exact hbad
  generalize history a = e0 at *
  have HBX := Lib.hid (Box.new W 22 #[.slice A a.length c, .slice B b.length d])
  have HAL := Lib.hid (show Below W.heap.size W (W.alloc (.cells #[.slice A a.length c, .slice B b.length d] 22)) from (Below.refl _ _).alloc (Nat.le_refl _) _)
  clear ha hbad
  go_enter Try.func102, Try.ntmps102
  go_wp2_with fail
  generalize W.alloc (.cells #[.slice A a.length c, .slice B b.length d] 22) = w1 at *
  go_loopg [15] 1 (fun _ i wr => i = .int .i64 0 ∧ wr = w1)
  case atStart => exact ⟨rfl, rfl⟩
  case round =>
    obtain ⟨rfl, rfl⟩ := hrel
    have c0 := HBX.out.cell 0
    simp only [List.getElem?_toArray, List.getElem?_cons_zero] at c0
    go_wp2_with fail
    refine (HA.out _ HAL.out).mono ?_
    rintro e w2 ⟨rfl, hb2⟩
    have HB2 := Lib.hid (HAL.out.trans (hb2.mono HAL.out.size))
    clear hb2 c0
    go_wp2_with fail
    go_ret2
    exact ⟨rfl, HB2.out⟩

set_option maxRecDepth 100000 in
set_option maxHeartbeats 1000000 in
theorem same_bad2 (A B : Option Addr) (c d : Nat) (a b : List Ev) (W : World) (ha : EvIn W A c a) (h0 : history a = 0) (hb : EvIn W B d b) (hbad : history b ≠ 0) :
    Calls Try.prog 102 #[.slice A a.length c, .slice B b.length d] W fun e w' => e = .returned (.tuple #[.bool false, .int .i64 (history b)]) ∧ Below W.heap.size W w' := by
  have hA := fun w (hw : Below W.heap.size W w) => (ha.below hw).check
  rw [h0] at hA
  have HA := Lib.hid hA
  have HB := Lib.hid (fun w (hw : Below W.heap.size W w) => (hb.below hw).check)
  have q1 : (history b != 0) = true := by rw [bne_iff_ne]; exact hbad
  generalize history b = e0 at *
  have HBX := Lib.hid (Box.new W 22 #[.slice A a.length c, .slice B b.length d])
  have HAL := Lib.hid (show Below W.heap.size W (W.alloc (.cells #[.slice A a.length c, .slice B b.length d] 22)) from (Below.refl _ _).alloc (Nat.le_refl _) _)
  clear ha hb hbad hA h0
  go_enter Try.func102, Try.ntmps102
  go_wp2_with fail
  generalize W.alloc (.cells #[.slice A a.length c, .slice B b.length d] 22) = w1 at *
  go_loopg [15] 2 (fun gk i wr => ∃ k : Nat, gk = 2 - k ∧ k ≤ 1 ∧ i = .int .i64 k ∧ Below w1.heap.size w1 wr)
  case atStart => exact ⟨0, rfl, by omega, rfl, Below.refl _ _⟩
  case round =>
    obtain ⟨k, hgk, hk, rfl, hbr⟩ := hrel
    have HK := Lib.hid hgk
    have HBR := Lib.hid (HAL.out.trans (hbr.mono HAL.out.size))
    have hbx := HBX.out.below hbr HBX.out.lt
    have c0 := hbx.cell 0
    have c1 := hbx.cell 1
    simp only [List.getElem?_toArray, List.getElem?_cons_zero, List.getElem?_cons_succ] at c0 c1
    have HBR1 := Lib.hid hbr
    clear hgk hbr hbx
    by_cases hk0 : k = 0
    · subst hk0
      go_wp2_with fail
      refine (HA.out _ HBR.out).mono ?_
      rintro e w2 ⟨rfl, hb2⟩
      have HB2 := Lib.hid (HBR1.out.trans (hb2.mono HBR1.out.size))
      clear hb2 c0 c1
      go_wp2_with fail
      go_roundg 1
      case measure => have := HK.out; omega
      case rel => exact ⟨1, rfl, by omega, rfl, HB2.out⟩
    · obtain rfl : k = 1 := by omega
      go_wp2_with fail
      refine (HB.out _ HBR.out).mono ?_
      rintro e w2 ⟨rfl, hb2⟩
      have HB2 := Lib.hid (HBR.out.trans (hb2.mono HBR.out.size))
      clear hb2 c0 c1
      go_wp2_with fail
      go_ret2
      exact ⟨rfl, HB2.out⟩

set_option maxRecDepth 100000 in
set_option maxHeartbeats 2000000 in
theorem same_ok (A B : Option Addr) (c d : Nat) (a b : List Ev) (W : World) (ha : EvIn W A c a) (h0 : history a = 0) (hb : EvIn W B d b) (h1 : history b = 0) :
    Calls Try.prog 102 #[.slice A a.length c, .slice B b.length d] W fun e w' => e = .returned (.tuple #[.bool (sameAll a b 8), .int .i64 0]) ∧ Below W.heap.size W w' := by
  have hA := fun w (hw : Below W.heap.size W w) => (ha.below hw).check
  rw [h0] at hA
  have HA := Lib.hid hA
  have hB := fun w (hw : Below W.heap.size W w) => (hb.below hw).check
  rw [h1] at hB
  have HB := Lib.hid hB
  have HTA := Lib.hid (fun p w (hw : Below W.heap.size W w) => atT_any A c a p w (ha.below hw).row (hist_good h0).1)
  have HTB := Lib.hid (fun p w (hw : Below W.heap.size W w) => atT_any B d b p w (hb.below hw).row (hist_good h1).1)
  have HBX := Lib.hid (Box.new W 22 #[.slice A a.length c, .slice B b.length d])
  have HAL := Lib.hid (show Below W.heap.size W (W.alloc (.cells #[.slice A a.length c, .slice B b.length d] 22)) from (Below.refl _ _).alloc (Nat.le_refl _) _)
  generalize hres : sameAll a b 8 = res
  have HRES := Lib.hid hres
  clear ha hb hA hB h0 h1 hres
  go_enter Try.func102, Try.ntmps102
  go_wp2_with fail
  generalize W.alloc (.cells #[.slice A a.length c, .slice B b.length d] 22) = w1 at *
  go_loopg [15] 2 (fun gk i wr => ∃ k : Nat, gk = 2 - k ∧ k ≤ 2 ∧ i = .int .i64 k ∧ Below w1.heap.size w1 wr)
  case atStart => exact ⟨0, rfl, by omega, rfl, Below.refl _ _⟩
  case round =>
    obtain ⟨k, hgk, hk, rfl, hbr⟩ := hrel
    have HK := Lib.hid hgk
    have HBR := Lib.hid (HAL.out.trans (hbr.mono HAL.out.size))
    have hbx := HBX.out.below hbr HBX.out.lt
    have c0 := hbx.cell 0
    have c1 := hbx.cell 1
    simp only [List.getElem?_toArray, List.getElem?_cons_zero, List.getElem?_cons_succ] at c0 c1
    have HBR1 := Lib.hid hbr
    clear hgk hbr hbx
    by_cases hk0 : k = 0
    · subst hk0
      go_wp2_with fail
      refine (HA.out _ HBR.out).mono ?_
      rintro e w2 ⟨rfl, hb2⟩
      have HB2 := Lib.hid (HBR1.out.trans (hb2.mono HBR1.out.size))
      clear hb2 c0 c1
      go_wp2_with fail
      go_roundg 1
      case measure => have := HK.out; omega
      case rel => exact ⟨1, rfl, by omega, rfl, HB2.out⟩
    by_cases hk1 : k = 1
    · subst hk1
      go_wp2_with fail
      refine (HB.out _ HBR.out).mono ?_
      rintro e w2 ⟨rfl, hb2⟩
      have HB2 := Lib.hid (HBR1.out.trans (hb2.mono HBR1.out.size))
      clear hb2 c0 c1
      go_wp2_with fail
      go_roundg 0
      case measure => have := HK.out; omega
      case rel => exact ⟨2, rfl, by omega, rfl, HB2.out⟩
    · obtain rfl : k = 2 := by omega
      clear c0 c1 hk0 hk1 HBX HK
      go_wp2_with fail
      clear HA HB HBR1
      obtain ⟨wo, hwo⟩ : ∃ wo, wo = wr := ⟨_, rfl⟩
      subst hwo
      go_loopg [25] 8 (fun gk i wr => ∃ p : Nat, gk = 8 - p ∧ p ≤ 8 ∧ i = .int .i64 p ∧ sameAll a b p = true ∧ Below W.heap.size W wr)
      case atStart => exact ⟨0, rfl, by omega, rfl, rfl, HBR.out⟩
      case round =>
        obtain ⟨p, hgk, hp, rfl, hsame, hbr⟩ := hrel
        have HK := Lib.hid hgk
        have HSM := Lib.hid hsame
        have HB := Lib.hid hbr
        clear hgk hsame hbr HBR
        by_cases hlt : p < 8
        · go_wp2_with fail
          refine (HTA.out _ _ HB.out).mono ?_
          rintro e w3 ⟨v1, rfl, ho1, hb3⟩
          obtain ⟨A1, c1, rfl, hr1, hm1⟩ := ho1.parts
          have HB3 := Lib.hid (HB.out.trans (hb3.mono HB.out.size))
          have HR1 := Lib.hid hr1
          have HM1 := Lib.hid hm1
          clear ho1 hb3 hr1 hm1
          go_wp2_with fail
          refine (HTB.out _ _ HB3.out).mono ?_
          rintro e w4 ⟨v2, rfl, ho2, hb4⟩
          obtain ⟨A2, c2, rfl, hr2, hm2⟩ := ho2.parts
          have HB4 := Lib.hid (HB3.out.trans (hb4.mono HB3.out.size))
          have HEQ := Lib.hid (equalFunc_ev A1 A2 c1 c2 _ _ 172 sameP w4 enters_same1 ((HR1.out.below hb4).more hb4.size) hr2 HM1.out same1_any)
          clear ho2 hb4 hr2 hm2
          go_wp2_with fail
          refine HEQ.out.mono ?_
          rintro e w5 ⟨rfl, hb5⟩
          have HB5 := Lib.hid (HB4.out.trans (hb5.mono HB4.out.size))
          clear hb5
          cases hq : eqF sameP (ofPl a (p : Int)) (ofPl b (p : Int)) with
          | false =>
            have HE := Lib.hid (show res = false by rw [← HRES.out]; exact sameAll_false 8 hlt hq)
            clear hq
            go_wp2_with fail
            go_ret2
            exact ⟨by rw [HE.out]; rfl, HB5.out⟩
          | true =>
            have HE := Lib.hid (show sameAll a b (p + 1) = true by unfold sameAll; rw [HSM.out, hq]; rfl)
            clear hq
            go_wp2_with fail
            go_roundg (8 - (p + 1))
            case measure => have := HK.out; omega
            case rel => exact ⟨p + 1, rfl, by omega, by go_num, HE.out, HB5.out⟩
        · obtain rfl : p = 8 := by omega
          have HE := Lib.hid (show res = true by rw [← HRES.out]; exact HSM.out)
          go_wp2_with fail
          go_ret2
          exact ⟨by rw [HE.out]; rfl, HB.out⟩
end Go.Proofs.Ytcmkkfpcdebfkaa
