/-
  TraceTells: the walk.
-/
import Derived.Test.YtcmkkfpcdebfkaaTr4
import Derived.Test.YtcmkkfpcdebfkaaEv13
namespace Go.Proofs.Ytcmkkfpcdebfkaa
open Go.RowKit

theorem ledX (A : Option Addr) (c : Nat) (l : List Ev) (i : Int) (h0 : history l = 0) : ∃ (L : List Ev) (er : Int), (∀ x : Nat, i = x → x < l.length → L = ledE l x l.length ∧ er = 0) ∧ ((i < 0 ∨ (l.length : Int) ≤ i) → L = [] ∧ er = 1) ∧ ∀ W, EvIn W A c l →
    Calls Try.prog 100 #[.slice A l.length c, .int .i64 i] W fun e w' => ∃ v, e = .returned (.tuple #[v, .int .i64 er]) ∧ EvOwn w' W.heap.size v L ∧ Below W.heap.size W w' := by
  by_cases hout : i < 0 ∨ (l.length : Int) ≤ i
  · exact ⟨[], 1, fun x hx hl => by omega, fun _ => ⟨rfl, rfl⟩, fun W h => (led_out A c l i W h h0 hout).mono fun e w' ⟨h1, h2⟩ => ⟨_, h1, World.ownsRow_nil _ _ _ _, h2⟩⟩
  · obtain ⟨x, rfl⟩ : ∃ x : Nat, i = x := ⟨i.toNat, by omega⟩
    refine ⟨ledE l x l.length, 0, fun x' hx _ => ?_, fun h => absurd h hout, fun W h => led_ok A c l x W h h0 (by omega)⟩
    obtain rfl : x' = x := by omega
    exact ⟨rfl, rfl⟩
theorem atX (A : Option Addr) (c : Nat) (l : List Ev) (p : Int) (h0 : history l = 0) : ∃ (L : List Ev) (er : Int), ((0 ≤ p ∧ p < 8) → L = ofPl l p ∧ er = 0) ∧ ((p < 0 ∨ 8 ≤ p) → L = [] ∧ er = 1) ∧ ∀ W, EvIn W A c l →
    Calls Try.prog 101 #[.slice A l.length c, .int .i64 p] W fun e w' => ∃ v, e = .returned (.tuple #[v, .int .i64 er]) ∧ EvOwn w' W.heap.size v L ∧ Below W.heap.size W w' := by
  by_cases hout : p < 0 ∨ 8 ≤ p
  · exact ⟨[], 1, fun h => by omega, fun _ => ⟨rfl, rfl⟩, fun W h => (atX_out A c l p W h h0 hout).mono fun e w' ⟨h1, h2⟩ => ⟨_, h1, World.ownsRow_nil _ _ _ _, h2⟩⟩
  · exact ⟨ofPl l p, 0, fun _ => ⟨rfl, rfl⟩, fun h => absurd h hout, fun W h => atX_ok A c l p W h h0 (by omega)⟩
theorem sameX (A B : Option Addr) (c d : Nat) (a b : List Ev) (h0 : history a = 0) : ∃ sm : Bool, (history b = 0 → sm = sameAll a b 8) ∧ (history b ≠ 0 → sm = false) ∧ ∀ W, EvIn W A c a → EvIn W B d b →
    Calls Try.prog 102 #[.slice A a.length c, .slice B b.length d] W fun e w' => e = .returned (.tuple #[.bool sm, .int .i64 (history b)]) ∧ Below W.heap.size W w' := by
  by_cases h1 : history b = 0
  · rw [h1]
    exact ⟨_, fun _ => rfl, fun h => absurd rfl h, fun W ha hb => same_ok A B c d a b W ha h0 hb h1⟩
  · exact ⟨false, fun h => absurd h h1, fun _ => rfl, fun W ha hb => same_bad2 A B c d a b W ha h0 hb h1⟩
theorem led_two : ledE two2 1 2 = two2 := by
  have e : ledE two2 1 2 = if ((1 : Nat) == 1 || befB two2 1 1) = true then (if ((0 : Nat) == 1 || befB two2 1 0) = true then ([] : List Ev) ++ [evAt two2 0] else []) ++ [evAt two2 1] else (if ((0 : Nat) == 1 || befB two2 1 0) = true then ([] : List Ev) ++ [evAt two2 0] else []) := rfl
  rw [e, two2_bef]
  rfl

set_option maxRecDepth 100000 in
set_option maxHeartbeats 1000000 in
theorem traceTells_bad (A B : Option Addr) (c d : Nat) (a b : List Ev) (i p : Int) (W : World) (ha : EvIn W A c a) (hbad : history a ≠ 0) :
    Calls Try.prog 11 #[.slice A a.length c, .slice B b.length d, .int .i64 i, .int .i64 p] W fun e w' => e = .returned (.bool true) ∧ Below W.heap.size W w' := by
  have HEV := Lib.hid ha
  have q1 : (history a != 0) = true := by rw [bne_iff_ne]; exact hbad
  have q2 : (history a == history a) = true := by simp
  have HC1 := Lib.hid (fun w (hw : Below W.heap.size W w) => led_bad A c a i w ((HEV.out).below hw) hbad)
  have HC2 := Lib.hid (fun w (hw : Below W.heap.size W w) => atX_bad A c a p w ((HEV.out).below hw) hbad)
  have HC3 := Lib.hid (fun w (hw : Below W.heap.size W w) => same_bad1 A B c d a b w ((HEV.out).below hw) hbad)
  have HC5 := Lib.hid (fun w (hw : Below W.heap.size W w) => historyE_any A c a w ((HEV.out).below hw).row HEV.out.le HEV.out.cap)
  generalize history a = e0 at *
  clear ha hbad
  go_enter Try.func11, Try.ntmps11
  go_wp2_with fail
  refine (two_any _).mono ?_
  rintro e w1 ⟨g1, rfl, hev1, hb1⟩
  have HT := Lib.hid (led_ok _ _ two2 1 w1 hev1 two2_hist (by decide))
  have HB1 := Lib.hid hb1
  clear hev1 hb1
  go_wp2_with fail
  refine HT.out.mono ?_
  rintro e w2 ⟨v, rfl, ho, hb2⟩
  obtain ⟨A1, c1, rfl, _⟩ := ho.parts
  rw [show (ledE two2 1 two2.length).length = 2 by rw [show two2.length = 2 from rfl, led_two]; rfl]
  have HB2 := Lib.hid (HB1.out.trans (hb2.mono HB1.out.size))
  clear hb2 HT HB1 ho
  go_wp2_with fail
  refine (HC1.out _ HB2.out).mono ?_
  rintro e w3 ⟨rfl, hb3⟩
  have HB3 := Lib.hid (HB2.out.trans (hb3.mono HB2.out.size))
  clear hb3
  go_wp2_with fail
  refine (HC2.out _ HB3.out).mono ?_
  rintro e w4 ⟨rfl, hb4⟩
  have HB4 := Lib.hid (HB3.out.trans (hb4.mono HB3.out.size))
  clear hb4
  go_wp2_with fail
  refine (HC3.out _ HB4.out).mono ?_
  rintro e w5 ⟨rfl, hb5⟩
  have HB5 := Lib.hid (HB4.out.trans (hb5.mono HB4.out.size))
  clear hb5
  go_wp2_with fail
  refine (HC5.out _ HB5.out).mono ?_
  rintro e w7 ⟨rfl, hb7⟩
  have HB7 := Lib.hid (HB5.out.trans (hb7.mono HB5.out.size))
  clear hb7
  go_wp2_with fail
  go_ret
  exact ⟨rfl, HB7.out⟩

set_option maxRecDepth 100000 in
set_option maxHeartbeats 4000000 in
theorem traceTells_good (A B : Option Addr) (c d : Nat) (a b : List Ev) (i p : Int) (W : World) (ha : EvIn W A c a) (hb : EvIn W B d b) (h0 : history a = 0) :
    Calls Try.prog 11 #[.slice A a.length c, .slice B b.length d, .int .i64 i, .int .i64 p] W fun e w' => e = .returned (.bool true) ∧ Below W.heap.size W w' := by
  have HEV := Lib.hid ha
  have HEW := Lib.hid hb
  have hl200 := (hist_good h0).1
  obtain ⟨L1, e1, hL1, hL1', hc1⟩ := ledX A c a i h0
  obtain ⟨L2, e2, hL2, hL2', hc2⟩ := atX A c a p h0
  obtain ⟨sm, hsm, hsm', hc3⟩ := sameX A B c d a b h0
  have HL1 := Lib.hid hL1
  have HL1' := Lib.hid hL1'
  have HL2 := Lib.hid hL2
  have HL2' := Lib.hid hL2'
  have HSM := Lib.hid hsm
  have HSM' := Lib.hid hsm'
  have HC1 := Lib.hid (fun w (hw : Below W.heap.size W w) => hc1 w ((HEV.out).below hw))
  have HC2 := Lib.hid (fun w (hw : Below W.heap.size W w) => hc2 w ((HEV.out).below hw))
  have HC3 := Lib.hid (fun w (hw : Below W.heap.size W w) => hc3 w ((HEV.out).below hw) ((HEW.out).below hw))
  have hc5 := fun w (hw : Below W.heap.size W w) => historyE_any A c a w ((HEV.out).below hw).row HEV.out.le HEV.out.cap
  rw [h0] at hc5
  have HC5 := Lib.hid hc5
  have HC6 := Lib.hid (fun w (hw : Below W.heap.size W w) => historyE_any B d b w ((HEW.out).below hw).row HEW.out.le HEW.out.cap)
  have HC7 := Lib.hid (fun w (hw : Below W.heap.size W w) => past_any A c a w ((HEV.out).below hw).row hl200)
  have HOA := Lib.hid (fun q w (hw : Below W.heap.size W w) => ofT_any A c a q w ((HEV.out).below hw).row hl200)
  have HOB := Lib.hid (fun q w (hw : Below W.heap.size W w) (h : history b = 0) => ofT_any B d b q w ((HEW.out).below hw).row (hist_good h).1)
  clear ha hb hL1 hL1' hL2 hL2' hsm hsm' hc1 hc2 hc3 hc5 h0
  generalize history b = hbE at *
  go_enter Try.func11, Try.ntmps11
  go_wp2_with fail
  refine (two_any _).mono ?_
  rintro e w1 ⟨g1, rfl, hev1, hb1⟩
  have HT := Lib.hid (led_ok _ _ two2 1 w1 hev1 two2_hist (by decide))
  have HB1 := Lib.hid hb1
  clear hev1 hb1
  go_wp2_with fail
  refine HT.out.mono ?_
  rintro e w2 ⟨v, rfl, ho, hb2⟩
  obtain ⟨A1, c1, rfl, _⟩ := ho.parts
  rw [show (ledE two2 1 two2.length).length = 2 by rw [show two2.length = 2 from rfl, led_two]; rfl]
  have HB2 := Lib.hid (HB1.out.trans (hb2.mono HB1.out.size))
  clear hb2 HT HB1 ho
  go_wp2_with fail
  refine (HC1.out _ HB2.out).mono ?_
  rintro e w3 ⟨v, rfl, ho1, hb3⟩
  obtain ⟨A3, c3, rfl, hr3, hm3⟩ := ho1.parts
  have HB3 := Lib.hid (HB2.out.trans (hb3.mono HB2.out.size))
  have HR3 := Lib.hid hr3
  have HM3 := Lib.hid hm3
  clear hb3 ho1 hr3 hm3
  go_wp2_with fail
  refine (HC2.out _ HB3.out).mono ?_
  rintro e w4 ⟨v, rfl, ho2, hb4⟩
  obtain ⟨A4, c4, rfl, hr4, hm4⟩ := ho2.parts
  have HB4 := Lib.hid (HB3.out.trans (hb4.mono HB3.out.size))
  have HR3' := Lib.hid ((HR3.out.below hb4).more hb4.size)
  have HR4 := Lib.hid hr4
  have HM4 := Lib.hid hm4
  clear hb4 ho2 hr4 hm4 HR3
  go_wp2_with fail
  refine (HC3.out _ HB4.out).mono ?_
  rintro e w5 ⟨rfl, hb5⟩
  have HB5 := Lib.hid (HB4.out.trans (hb5.mono HB4.out.size))
  have HR3 := Lib.hid ((HR3'.out.below hb5).more hb5.size)
  have HR4' := Lib.hid ((HR4.out.below hb5).more hb5.size)
  clear hb5 HR4 HR3'
  go_wp2_with fail
  refine (HC5.out _ HB5.out).mono ?_
  rintro e w6 ⟨rfl, hb6⟩
  have HB6 := Lib.hid (HB5.out.trans (hb6.mono HB5.out.size))
  have HR3' := Lib.hid ((HR3.out.below hb6).more hb6.size)
  have HR4 := Lib.hid ((HR4'.out.below hb6).more hb6.size)
  clear hb6 HR4' HR3 HC1 HC2 HC3 HC5 HB2 HB3 HB4 HB5
  go_upto_region 10 with fail
  go_cut [93] (fun s wx => s = .bool (decide (i < 0) || decide ((a.length : Int) ≤ i)) ∧ w6 = wx)
  case first =>
    cases q1 : decide (i < 0)
    all_goals
      go_wp2_with fail
      go_meet
      exact ⟨by rw [q1]; rfl, rfl⟩
  case rest =>
    obtain ⟨rfl, rfl⟩ := hcut
    generalize hob : (decide (i < 0) || decide ((a.length : Int) ≤ i)) = ob at *
    have HOB1 := Lib.hid hob
    clear hob
    go_upto_if 93 with fail
    go_cut [8] (fun v wx => v = .bool false ∧ Below w6.heap.size w6 wx)
    case first =>
      cases ob with
      | true =>
        obtain ⟨rfl, rfl⟩ := HL1'.out (by have := HOB1.out; rw [Bool.or_eq_true, decide_eq_true_eq, decide_eq_true_eq] at this; exact this)
        go_wp2_with fail
        go_meet
        exact ⟨rfl, Below.refl _ _⟩
      | false =>
        have hio : ¬ (i < 0) ∧ ¬ ((a.length : Int) ≤ i) := by have := HOB1.out; rw [Bool.or_eq_false_iff, decide_eq_false_iff_not, decide_eq_false_iff_not] at this; exact this
        obtain ⟨x, rfl⟩ : ∃ x : Nat, i = x := ⟨i.toNat, by omega⟩
        have hx : x < a.length := by omega
        obtain ⟨rfl, rfl⟩ := HL1.out x rfl hx
        clear hio
        go_wp2_with fail
        refine (HC7.out _ HB6.out).mono ?_
        rintro e w7 ⟨gp, rfl, hpm, hb7⟩
        have HPM := Lib.hid hpm
        have HB7 := Lib.hid hb7
        have HR7 := Lib.hid ((HR3'.out.below hb7).more hb7.size)
        have hs7 := hb7.size
        clear hpm hb7
        go_wp2_with fail
        go_loopg [19, 105] a.length (fun gk v q wr => ∃ k : Nat, gk = a.length - k ∧ k ≤ a.length ∧ q = .int .i64 k ∧ EvOwn wr w7.heap.size v (ledE a x k) ∧ Below w7.heap.size w7 wr)
        case atStart => exact ⟨0, by omega, by omega, rfl, World.ownsRow_nil _ _ _ _, Below.refl _ _⟩
        case round =>
          obtain ⟨k, hgk, hk, rfl, hown, hb⟩ := hrel
          have HK := Lib.hid hgk
          clear hgk
          by_cases hlt : k < a.length
          · obtain ⟨b1, o1, rfl, hbl, hc0, hc1, hc2⟩ := (HEV.out.row.below (HB6.out.trans ((HB7.out.trans (hb.mono hs7)).mono HB6.out.size))).ev hlt (0, 0, 0)
            have HE := Lib.hid (show evAt a k = a.getD k (0, 0, 0) from rfl)
            have HLE := Lib.hid (show (ledE a x k).length ≤ 200 by have := ledE_le a x k; omega)
            have HN := Lib.hid (show ledE a x (k + 1) = if (k == x || befB a x k) = true then ledE a x k ++ [evAt a k] else ledE a x k from rfl)
            generalize a.getD k (0, 0, 0) = y at *
            obtain ⟨y1, y2, y3⟩ := y
            dsimp only at hc0 hc1 hc2
            obtain ⟨gp', hgp', hgpl, hrow⟩ := HPM.out.below hb
            obtain rfl : gp' = gp := by simp at hgp'; exact hgp'.symm
            obtain ⟨gr, hgrl, hd2, hcr⟩ := hrow x hx
            have hd3 := hcr k hlt
            have hbs := hb.size
            have hb1w : b1 < wr.heap.size := by have := HB6.out.size; omega
            have hgpw : gp' < wr.heap.size := by omega
            have hgrw : gr < wr.heap.size := by omega
            have HB := Lib.hid hb
            have HO := Lib.hid hown
            clear hb hown hgp' hrow hcr
            by_cases hki : k = x
            · have f1 : ((k : Int) == (x : Int)) = true := by rw [beq_iff_eq]; omega
              have f2 : (k == x) = true := by rw [beq_iff_eq]; exact hki
              have HN2 := Lib.hid (show ledE a x (k + 1) = ledE a x k ++ [(y1, y2, y3)] by rw [HN.out, if_pos (by rw [f2]; rfl), HE.out])
              clear hki hd3
              have hown := HO.out
              unfold EvOwn at hown
              go_wp2_with (at_builtin; refine wpList_push_ev rfl (.tmp 122) (.tmp 124) rfl w7.heap.size _ (ledE a x k) rfl ((hown.alloc _).alloc _) (wr.heap.size + 1) (y1, y2, y3) rfl (ev_new wr _ (y1, y2, y3)) (by have := HLE.out; omega) (by simp; omega) ?_; intro v' w8 hown' hg')
              have HNEXT := Lib.hid (((HB.out.alloc hbs _).alloc (by simp; omega) _).grown hg' (by simp; omega) (fun g hq => (hown.lt g hq).1))
              have HO' := Lib.hid hown'
              clear hown hown' hg'
              go_roundg (a.length - (k + 1))
              case measure => have := HK.out; omega
              case rel => exact ⟨k + 1, rfl, by omega, by go_num, by rw [HN2.out]; exact HO'.out, HNEXT.out⟩
            · have f1 : ((k : Int) == (x : Int)) = false := by rw [beq_eq_false_iff_ne]; omega
              have f2 : (k == x) = false := by rw [beq_eq_false_iff_ne]; exact hki
              cases hbf : befB a x k with
              | false =>
                have HN2 := Lib.hid (show ledE a x (k + 1) = ledE a x k by rw [HN.out, if_neg (by rw [f2, hbf]; decide)])
                rw [hbf] at hd3
                clear hki hbf
                go_wp2_with fail
                go_roundg (a.length - (k + 1))
                case measure => have := HK.out; omega
                case rel => exact ⟨k + 1, rfl, by omega, by go_num, by rw [HN2.out]; exact HO.out.alloc _, HB.out.alloc hbs _⟩
              | true =>
                have HN2 := Lib.hid (show ledE a x (k + 1) = ledE a x k ++ [(y1, y2, y3)] by rw [HN.out, if_pos (by rw [hbf, Bool.or_true]), HE.out])
                rw [hbf] at hd3
                clear hki hbf
                have hown := HO.out
                unfold EvOwn at hown
                go_wp2_with (at_builtin; refine wpList_push_ev rfl (.tmp 122) (.tmp 124) rfl w7.heap.size _ (ledE a x k) rfl ((hown.alloc _).alloc _) (wr.heap.size + 1) (y1, y2, y3) rfl (ev_new wr _ (y1, y2, y3)) (by have := HLE.out; omega) (by simp; omega) ?_; intro v' w8 hown' hg')
                have HNEXT := Lib.hid (((HB.out.alloc hbs _).alloc (by simp; omega) _).grown hg' (by simp; omega) (fun g hq => (hown.lt g hq).1))
                have HO' := Lib.hid hown'
                clear hown hown' hg'
                go_roundg (a.length - (k + 1))
                case measure => have := HK.out; omega
                case rel => exact ⟨k + 1, rfl, by omega, by go_num, by rw [HN2.out]; exact HO'.out, HNEXT.out⟩
          · obtain rfl : k = a.length := by omega
            obtain ⟨A9, c9, hv9, hr9, hm9⟩ := hown.parts
            subst hv9
            have hq := equal_ev A3 A9 c3 c9 _ _ _ _ wr (HR7.out.below hb) hr9 HM3.out hm9
            rw [decide_eq_true rfl] at hq
            have HQ := Lib.hid hq
            have HB := Lib.hid ((HB7.out.trans (hb.mono hs7)))
            clear hown hr9 hm9 hq hb
            go_wp2_with fail
            refine HQ.out.mono ?_
            rintro e w9 ⟨rfl, nq, rfl⟩
            go_wp2_with fail
            go_meet
            exact ⟨rfl, below_drewN HB.out _⟩
    case rest =>
      obtain ⟨rfl, hb7⟩ := hcut
      obtain ⟨wa, hwa⟩ : ∃ wa, wa = wc := ⟨_, rfl⟩
      subst hwa
      have HB7 := Lib.hid (HB6.out.trans (hb7.mono HB6.out.size))
      have HR7 := Lib.hid ((HR4.out.below hb7).more hb7.size)
      clear hb7 HR4 HR3' HB6 HC7 HOB1
      go_upto_region 23 with fail
      go_cut [140] (fun s wx => s = .bool (decide (p < 0) || decide (7 < p)) ∧ wa = wx)
      case first =>
        cases q1 : decide (p < 0)
        all_goals
          go_wp2_with fail
          go_meet
          exact ⟨by rw [q1]; rfl, rfl⟩
      case rest =>
        obtain ⟨rfl, rfl⟩ := hcut
        generalize hob : (decide (p < 0) || decide (7 < p)) = ob at *
        have HOB2 := Lib.hid hob
        clear hob
        go_upto_if 140 with fail
        go_cut [8] (fun v wx => v = .bool false ∧ Below wa.heap.size wa wx)
        case first =>
          cases ob with
          | true =>
            obtain ⟨rfl, rfl⟩ := HL2'.out (by have := HOB2.out; rw [Bool.or_eq_true, decide_eq_true_eq, decide_eq_true_eq] at this; omega)
            go_wp2_with fail
            go_meet
            exact ⟨rfl, Below.refl _ _⟩
          | false =>
            have hio : ¬ (p < 0) ∧ ¬ (7 < p) := by have := HOB2.out; rw [Bool.or_eq_false_iff, decide_eq_false_iff_not, decide_eq_false_iff_not] at this; exact this
            obtain ⟨rfl, rfl⟩ := HL2.out (by omega)
            clear hio
            go_wp2_with fail
            refine (HOA.out p _ HB7.out).mono ?_
            rintro e w8 ⟨v, rfl, ho, hb8⟩
            obtain ⟨A9, c9, rfl, hr9, hm9⟩ := ho.parts
            have hq := equal_ev A4 A9 c4 c9 _ _ _ _ w8 (HR7.out.below hb8) hr9 HM4.out hm9
            rw [decide_eq_true rfl] at hq
            have HQ := Lib.hid hq
            have HB8 := Lib.hid hb8
            clear ho hr9 hm9 hq hb8
            go_wp2_with fail
            refine HQ.out.mono ?_
            rintro e w9 ⟨rfl, nq, rfl⟩
            go_wp2_with fail
            go_meet
            exact ⟨rfl, below_drewN HB8.out _⟩
        case rest =>
          obtain ⟨rfl, hb8⟩ := hcut
          have HB8 := Lib.hid (HB7.out.trans (hb8.mono HB7.out.size))
          clear hb8 HR7 HB7 HOB2
          go_wp2_with fail
          refine (HC6.out _ HB8.out).mono ?_
          rintro e w9 ⟨rfl, hb9⟩
          have HB9 := Lib.hid (HB8.out.trans (hb9.mono HB8.out.size))
          clear hb9
          by_cases hz : hbE = 0
          case neg =>
            have q1 : (hbE != 0) = true := by rw [bne_iff_ne]; exact hz
            have q2 : (hbE == hbE) = true := by simp
            obtain rfl := HSM'.out hz
            clear hz
            go_wp2_with fail
            go_ret
            exact ⟨rfl, HB9.out⟩
          subst hz
          obtain rfl := HSM.out rfl
          have HOB1 := Lib.hid (fun q w (hw : Below W.heap.size W w) => HOB.out q w hw rfl)
          clear HOB
          go_wp2_with fail
          go_loopg [23, 169] 8 (fun gk v q wr => ∃ k : Nat, gk = 8 - k ∧ k ≤ 8 ∧ q = .int .i64 k ∧ v = .bool (sameAll a b k) ∧ Below W.heap.size W wr)
          case atStart => exact ⟨0, rfl, by omega, rfl, rfl, HB9.out⟩
          case round =>
            obtain ⟨k, hgk, hk, rfl, rfl, hb⟩ := hrel
            have HK := Lib.hid hgk
            have HB := Lib.hid hb
            have HS := Lib.hid (show sameAll a b (k + 1) = (sameAll a b k && eqF sameP (ofPl a (k : Int)) (ofPl b (k : Int))) from rfl)
            clear hgk hb
            by_cases hlt : k < 8
            · generalize hsk : sameAll a b k = sk at *
              clear hsk
              cases sk with
              | false =>
                have HE := Lib.hid (show sameAll a b (k + 1) = false by rw [HS.out]; rfl)
                go_wp2_with fail
                go_roundg (8 - (k + 1))
                case measure => have := HK.out; omega
                case rel => exact ⟨k + 1, rfl, by omega, by go_num, by rw [HE.out], HB.out⟩
              | true =>
                have HE := Lib.hid (show sameAll a b (k + 1) = eqF sameP (ofPl a (k : Int)) (ofPl b (k : Int)) by rw [HS.out]; rfl)
                go_wp2_with fail
                refine (HOA.out _ _ HB.out).mono ?_
                rintro e w3 ⟨v1, rfl, ho1, hb3⟩
                obtain ⟨A1, c1, rfl, hr1, hm1⟩ := ho1.parts
                have HB3 := Lib.hid (HB.out.trans (hb3.mono HB.out.size))
                have HR1 := Lib.hid hr1
                have HM1 := Lib.hid hm1
                clear ho1 hb3 hr1 hm1
                go_wp2_with fail
                refine (HOB1.out _ _ HB3.out).mono ?_
                rintro e w4 ⟨v2, rfl, ho2, hb4⟩
                obtain ⟨A2, c2, rfl, hr2, hm2⟩ := ho2.parts
                have HB4 := Lib.hid (HB3.out.trans (hb4.mono HB3.out.size))
                have HEQ := Lib.hid (equalFunc_ev A1 A2 c1 c2 _ _ 105 sameP w4 enters_tells1 ((HR1.out.below hb4).more hb4.size) hr2 HM1.out tells1_any)
                clear ho2 hb4 hr2 hm2
                go_wp2_with fail
                refine HEQ.out.mono ?_
                rintro e w5 ⟨rfl, hb5⟩
                have HB5 := Lib.hid (HB4.out.trans (hb5.mono HB4.out.size))
                clear hb5
                go_wp2_with fail
                go_roundg (8 - (k + 1))
                case measure => have := HK.out; omega
                case rel => exact ⟨k + 1, rfl, by omega, by go_num, by rw [HE.out], HB5.out⟩
            · obtain rfl : k = 8 := by omega
              have q1 : (sameAll a b 8 == sameAll a b 8) = true := by simp
              generalize sameAll a b 8 = s8 at *
              go_wp2_with fail
              go_ret
              exact ⟨rfl, HB.out⟩
end Go.Proofs.Ytcmkkfpcdebfkaa
