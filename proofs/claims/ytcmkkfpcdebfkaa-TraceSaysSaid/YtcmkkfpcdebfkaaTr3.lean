/-
  Package trace: Led, At.
-/
import Derived.Test.YtcmkkfpcdebfkaaTr2
namespace Go.Proofs.Ytcmkkfpcdebfkaa
open Go.RowKit

noncomputable def ledE (l : List Ev) (i : Nat) : Nat → List Ev
  | 0 => []
  | k + 1 => if (k == i || befB l i k) = true then ledE l i k ++ [evAt l k] else ledE l i k
theorem ledE_le (l : List Ev) (i : Nat) : ∀ k, (ledE l i k).length ≤ k
  | 0 => Nat.le_refl _
  | k + 1 => by
    have := ledE_le l i k
    unfold ledE
    split
    · rw [List.length_append, List.length_singleton]; omega
    · omega
theorem ev_new1 (w : World) (x : Ev) : ∀ j u, (evC x)[j]? = some u → (w.alloc (.cells #[.int .i64 x.1, .int .i64 x.2.1, .int .i64 x.2.2] 146)).cell? ⟨w.heap.size, j, none⟩ = some u := by
  intro j u hu
  rw [(Box.new w 146 #[.int .i64 x.1, .int .i64 x.2.1, .int .i64 x.2.2]).cell j, ← hu]
  simp [evC]

set_option maxHeartbeats 400000 in
theorem led_bad (A : Option Addr) (c : Nat) (l : List Ev) (i : Int) (W : World) (h : EvIn W A c l) (hbad : history l ≠ 0) :
    Calls Try.prog 100 #[.slice A l.length c, .int .i64 i] W fun e w' => e = .returned (.tuple #[.slice none 0 0, .int .i64 (history l)]) ∧ Below W.heap.size W w' := by
  have HC := Lib.hid (clocks_bad A c l W h hbad)
  have q1 : (history l != 0) = true := by rw [bne_iff_ne]; exact hbad
  generalize history l = e0 at *
  clear h hbad
  go_enter Try.func100, Try.ntmps100
  go_wp2_with fail
  refine HC.out.mono ?_
  rintro e w1 ⟨rfl, hb⟩
  have HB := Lib.hid hb
  clear hb
  go_wp2_with fail
  go_ret2
  exact ⟨rfl, HB.out⟩
set_option maxHeartbeats 400000 in
theorem led_out (A : Option Addr) (c : Nat) (l : List Ev) (i : Int) (W : World) (h : EvIn W A c l) (h0 : history l = 0) (hout : i < 0 ∨ (l.length : Int) ≤ i) :
    Calls Try.prog 100 #[.slice A l.length c, .int .i64 i] W fun e w' => e = .returned (.tuple #[.slice none 0 0, .int .i64 1]) ∧ Below W.heap.size W w' := by
  have HC := Lib.hid (clocks_in A c l W h h0)
  have hl200 := (hist_good h0).1
  clear h h0
  by_cases p1 : i < 0
  · have d1 : decide (i < 0) = true := decide_eq_true p1
    clear hout p1
    go_enter Try.func100, Try.ntmps100
    go_wp2_with fail
    refine HC.out.mono ?_
    rintro e w1 ⟨A', c', rfl, hck, hb⟩
    have HB := Lib.hid hb
    clear hb hck
    go_wp2_with fail
    go_ret2
    exact ⟨rfl, HB.out⟩
  · have d1 : decide (i < 0) = false := decide_eq_false p1
    have d2 : decide ((l.length : Int) ≤ i) = true := decide_eq_true (by omega)
    clear hout p1
    go_enter Try.func100, Try.ntmps100
    go_wp2_with fail
    refine HC.out.mono ?_
    rintro e w1 ⟨A', c', rfl, hck, hb⟩
    have HB := Lib.hid hb
    clear hb hck
    go_wp2_with fail
    go_ret2
    exact ⟨rfl, HB.out⟩

set_option maxRecDepth 100000 in
set_option maxHeartbeats 4000000 in
theorem led_ok (A : Option Addr) (c : Nat) (l : List Ev) (i : Nat) (W : World) (h : EvIn W A c l) (h0 : history l = 0) (hi : i < l.length) :
    Calls Try.prog 100 #[.slice A l.length c, .int .i64 (i : Int)] W fun e w' => ∃ v, e = .returned (.tuple #[v, .int .i64 0]) ∧ EvOwn w' W.heap.size v (ledE l i l.length) ∧ Below W.heap.size W w' := by
  have HC := Lib.hid (clocks_in A c l W h h0)
  have hl200 := (hist_good h0).1
  have HPL := Lib.hid (fun j hj => ((hist_good h0).2 j hj).place)
  have HR := Lib.hid h.row
  have d2 : decide ((l.length : Int) ≤ (i : Int)) = false := decide_eq_false (by omega)
  have d3 : decide (l.length ≤ i) = false := decide_eq_false (by omega)
  clear h h0
  go_enter Try.func100, Try.ntmps100
  go_wp2_with fail
  refine HC.out.mono ?_
  rintro e w1 ⟨A', c', rfl, hck, hb⟩
  have HB1 := Lib.hid hb
  have HCK := Lib.hid hck
  have hb1s := hb.size
  clear hb hck HC
  go_wp2_with fail
  clear d2 d3
  go_loopg [8, 31] l.length (fun gk v p wr => ∃ k : Nat, gk = l.length - k ∧ k ≤ l.length ∧ p = .int .i64 k ∧ EvOwn wr w1.heap.size v (ledE l i k) ∧ Below w1.heap.size w1 wr)
  case atStart => exact ⟨0, by omega, by omega, rfl, World.ownsRow_nil _ _ _ _, Below.refl _ _⟩
  case round =>
    obtain ⟨k, hgk, hk, rfl, hown, hb⟩ := hrel
    have HK := Lib.hid hgk
    clear hgk
    by_cases hlt : k < l.length
    · obtain ⟨b, o, rfl, hbl, hc0, hc1, hc2⟩ := (HR.out.below (HB1.out.trans (hb.mono HB1.out.size))).ev hlt (0, 0, 0)
      have HE := Lib.hid (show evAt l k = l.getD k (0, 0, 0) from rfl)
      have HLE := Lib.hid (show (ledE l i k).length ≤ 200 by have := ledE_le l i k; omega)
      have HN := Lib.hid (show ledE l i (k + 1) = if (k == i || befB l i k) = true then ledE l i k ++ [evAt l k] else ledE l i k from rfl)
      generalize l.getD k (0, 0, 0) = x at *
      obtain ⟨x1, x2, x3⟩ := x
      dsimp only at hc0 hc1 hc2
      have hbs := hb.size
      go_upto_region 10 with fail
      have hbw := Box.new wr 146 #[.int .i64 x1, .int .i64 x2, .int .i64 x3]
      have hb3 := hb.alloc hbs (.cells #[.int .i64 x1, .int .i64 x2, .int .i64 x3] 146)
      have hown3 := hown.alloc (.cells #[.int .i64 x1, .int .i64 x2, .int .i64 x3] 146)
      clear hc0 hc1 hc2 hb hown
      generalize wr.heap.size = ge at *
      generalize wr.alloc (.cells #[.int .i64 x1, .int .i64 x2, .int .i64 x3] 146) = w3 at *
      clear wr
      have HB3 := Lib.hid hb3
      have HO3 := Lib.hid hown3
      have HBW := Lib.hid hbw
      obtain ⟨b1, o1, A1, c1, rfl, hbl1, hd1, hr1⟩ := (HCK.out.below hb3) k hlt
      have hs3 := hb3.size
      clear hb3 hown3 hbw
      by_cases hki : k = i
      · have e1 : ((k : Int) == (i : Int)) = true := by rw [beq_iff_eq]; omega
        have e2 : (k == i) = true := by rw [beq_iff_eq]; exact hki
        have HN2 := Lib.hid (show ledE l i (k + 1) = ledE l i k ++ [(x1, x2, x3)] by rw [HN.out, if_pos (by rw [e2]; rfl), HE.out])
        clear hki hd1 hr1
        go_quiet (fail)
        have c0 := HBW.out.cell 0
        have c1 := HBW.out.cell 1
        have c2 := HBW.out.cell 2
        simp only [List.getElem?_toArray, List.getElem?_cons_zero, List.getElem?_cons_succ] at c0 c1 c2
        have hown := HO3.out
        unfold EvOwn at hown
        go_wp2_with (at_builtin; refine wpList_push_ev rfl (.tmp 50) (.tmp 52) rfl w1.heap.size _ (ledE l i k) rfl (World.ownsRow.alloc (show World.ownsRow (w3.drewN _) _ _ _ _ _ _ from hown) _) w3.heap.size (x1, x2, x3) rfl (ev_new1 (w3.drewN _) (x1, x2, x3)) (by have := HLE.out; omega) (Nat.le_trans hs3 (by simp)) ?_; intro v' w6 hown' hg')
        have HNEXT := Lib.hid (((below_drewN HB3.out _).alloc hs3 _).grown hg' (Nat.le_trans hs3 (by simp)) (fun g hq => (hown.lt g hq).1))
        have HO' := Lib.hid hown'
        clear hown hown' hg'
        go_roundg (l.length - (k + 1))
        case measure => have := HK.out; omega
        case rel => exact ⟨k + 1, rfl, by omega, by go_num, by rw [HN2.out]; exact HO'.out, HNEXT.out⟩
      · have e1 : ((k : Int) == (i : Int)) = false := by rw [beq_eq_false_iff_ne]; omega
        have e2 : (k == i) = false := by rw [beq_eq_false_iff_ne]; exact hki
        obtain ⟨b2, o2, A2, c2, hbb, _, hd2, hr2⟩ := (HCK.out.below HB3.out) i hi
        obtain ⟨rfl, rfl⟩ : b2 = b1 ∧ o2 = o1 := by simp at hbb; exact ⟨hbb.1.symm, hbb.2.symm⟩
        have HL := Lib.hid (fun n => lessU hlt hi HPL.out (A := A1) (A' := A2) (c := c1) (c' := c2) (B := w1.heap.size) (B' := w1.heap.size) (w := w3.drewN n) hr1 hr2)
        clear hbb hr1 hr2
        cases hbf : befB l i k with
        | false =>
          have HN2 := Lib.hid (show ledE l i (k + 1) = ledE l i k by rw [HN.out, if_neg (by rw [e2, hbf]; decide)])
          rw [hbf] at HL
          clear hki hbf
          go_quiet ((go_at_call 153; exact Calls.quiet_of_same (HL.out _)))
          go_wp2_with fail
          go_roundg (l.length - (k + 1))
          case measure => have := HK.out; omega
          case rel => exact ⟨k + 1, rfl, by omega, by go_num, by rw [HN2.out]; exact HO3.out, below_drewN HB3.out _⟩
        | true =>
          have HN2 := Lib.hid (show ledE l i (k + 1) = ledE l i k ++ [(x1, x2, x3)] by rw [HN.out, if_pos (by rw [hbf, Bool.or_true]), HE.out])
          rw [hbf] at HL
          clear hki hbf
          go_quiet ((go_at_call 153; exact Calls.quiet_of_same (HL.out _)))
          have c0 := HBW.out.cell 0
          have c1 := HBW.out.cell 1
          have c2 := HBW.out.cell 2
          simp only [List.getElem?_toArray, List.getElem?_cons_zero, List.getElem?_cons_succ] at c0 c1 c2
          have hown := HO3.out
          unfold EvOwn at hown
          go_wp2_with (at_builtin; refine wpList_push_ev rfl (.tmp 50) (.tmp 52) rfl w1.heap.size _ (ledE l i k) rfl (World.ownsRow.alloc (show World.ownsRow (w3.drewN _) _ _ _ _ _ _ from hown) _) w3.heap.size (x1, x2, x3) rfl (ev_new1 (w3.drewN _) (x1, x2, x3)) (by have := HLE.out; omega) (Nat.le_trans hs3 (by simp)) ?_; intro v' w6 hown' hg')
          have HNEXT := Lib.hid (((below_drewN HB3.out _).alloc hs3 _).grown hg' (Nat.le_trans hs3 (by simp)) (fun g hq => (hown.lt g hq).1))
          have HO' := Lib.hid hown'
          clear hown hown' hg'
          go_roundg (l.length - (k + 1))
          case measure => have := HK.out; omega
          case rel => exact ⟨k + 1, rfl, by omega, by go_num, by rw [HN2.out]; exact HO'.out, HNEXT.out⟩
    · obtain rfl : k = l.length := by omega
      have HO := Lib.hid (show EvOwn wr W.heap.size u8 (ledE l i l.length) from own_lower hown hb1s)
      have HB := Lib.hid (HB1.out.trans (hb.mono hb1s))
      clear hown hb
      go_wp2_with fail
      go_ret2
      exact ⟨_, rfl, HO.out, HB.out⟩
end Go.Proofs.Ytcmkkfpcdebfkaa
