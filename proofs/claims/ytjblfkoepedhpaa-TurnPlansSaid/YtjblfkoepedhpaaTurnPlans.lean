/-
  The law TurnPlans: for whatever jobs and fuel Plan answers what the reference answers.
-/
import Derived.Test.YtjblfkoepedhpaaPlanned
import Derived.Test.YtjblfkoepedhpaaTurn
namespace Go.Proofs.Ytjblfkoepedhpaa
open Go.ChangeShapes Go.WideShapes Go.ChangeAt Go.RowKit Go.Deep

/-- What Plan hands back. -/
def PlanPost (l : List (Int × Int)) (f : Int) (w : World) (e : Ending) (w' : World) : Prop :=
  ∃ Ao n co, e = .returned (.tuple #[.slice Ao n co, .int .i64 (planF l f)]) ∧ Below w.heap.size w w' ∧
    ((planF l f ≠ 0 ∧ n = 0) ∨ (planF l f = 0 ∧ n = (plan f l 0).length ∧ Row w' w'.heap.size Ao (flat jobC (plan f l 0)) ∧ (plan f l 0).length ≤ 100))

theorem planF_ok {l : List (Int × Int)} {f : Int} (h : planF l f = 0) : l.length ≤ 100 ∧ 1 ≤ f ∧ f ≤ 10000 ∧ ∀ x ∈ l, 1 ≤ x.2 ∧ x.2 ≤ 10000 := by
  unfold planF at h
  split at h
  · cases h
  · split at h
    · cases h
    · exact ⟨by omega, by omega, by omega, jobsF_ok l [] h⟩

set_option maxRecDepth 100000 in
set_option maxHeartbeats 1000000 in
theorem plan_any (A : Option Addr) (c : Nat) (l : List (Int × Int)) (f : Int) (w : World) (hr : Row w w.heap.size A (flat jobC l)) (hlc : l.length ≤ c) (hm : c ≤ maxLen) (hA : A = none → c = 0) :
    Calls Try.prog 59 #[.slice A l.length c, .int .i64 f] w (PlanPost l f w) := by
  by_cases h0 : planF l f = 0
  · obtain ⟨h1, h2, h3, h4⟩ := planF_ok h0
    refine (plan_ok A c l f w hr hlc hm hA h0 h1 h2 h3 h4).mono ?_
    rintro e w' ⟨Ao, co, rfl, hr', hl', hb⟩
    exact ⟨Ao, _, co, by rw [h0], hb, .inr ⟨h0, rfl, hr', hl'⟩⟩
  · have HC := Lib.hid (checkJobs_any A c l f w hr hlc hm)
    have HP := Lib.hid (fun (p : Int) (hp : planF l f = p) (w' : World) (hb : Below w.heap.size w w') => show PlanPost l f w (.returned (.tuple #[.slice none 0 0, .int .i64 p])) w' from ⟨none, 0, 0, by rw [hp], hb, .inl ⟨h0, rfl⟩⟩)
    have HE := Lib.hid (Eq.refl (planF l f))
    generalize hp : planF l f = p at *
    have b1 : (p != 0) = true := by simp; exact h0
    have HQ := Lib.hid hp
    clear hp h0 HE
    go_enter Try.func59, Try.ntmps59
    go_wp2_with fail
    refine HC.out.mono ?_
    rintro e w1 ⟨rfl, hb1⟩
    go_wp2_with fail
    go_ret2
    exact HP.out p rfl w1 hb1

theorem planF_start (l : List (Int × Int)) (f : Int) (h1 : l.length ≤ 100) (h2 : 1 ≤ f) (h3 : f ≤ 10000) : planF l f = jobsF [] l := by
  unfold planF
  rw [if_neg (by omega), if_neg (by omega)]

set_option maxRecDepth 100000 in
set_option maxHeartbeats 2000000 in
theorem turnPlans_walk (A : Option Addr) (c : Nat) (l : List (Int × Int)) (f : Int) (W : World) (hr : Row W W.heap.size A (flat jobC l)) (hlc : l.length ≤ c) (hm : c ≤ maxLen) (hA : A = none → c = 0) :
    Calls Try.prog 10 #[.slice A l.length c, .int .i64 f] W fun e w' => e = .returned (.bool true) ∧ Below W.heap.size W w' := by
  have HM := Lib.hid (show l.length ≤ maxLen by omega)
  have HMC := Lib.hid hm
  have HA := Lib.hid hA
  have HC := Lib.hid (containsFunc_job A c l 58 #[] (fun x => decide (200 < x.2 ∧ x.2 ≤ 10000)) W.heap.size (fun w => Below W.heap.size W w) W enters_tp1 HM.out (fun w hw => hr.below hw)
    (fun x _ w hw => (tp1_any x w).mono fun e w' ⟨h1, h2⟩ => ⟨h1, hw.trans (h2.mono hw.size)⟩) (Below.refl _ _))
  have HP := Lib.hid (fun w1 (h : Below W.heap.size W w1) => plan_any A c l f w1 ((hr.below h).more h.size) hlc HMC.out HA.out)
  unfold maxLen at hm
  clear hA
  generalize (l.any fun x => decide (200 < x.2 ∧ x.2 ≤ 10000)) = bq at *
  cases bq
  · by_cases hl : 100 < l.length
    · have dl : decide (100 < l.length) = true := by simp; omega
      have dl' : decide ((100 : Int) < (l.length : Int)) = true := by simp; omega
      have HB0 : Hid ((2 : Int) = 0 ∧ planF l f = jobsF (l.take 0) (l.drop 0) ∨ (2 : Int) ≠ 0 ∧ planF l f = 2) := .inr ⟨by omega, by unfold planF; rw [if_pos hl]⟩
      go_enter Try.func10, Try.ntmps10
      go_wp2_with fail
      refine HC.out.mono ?_
      rintro e w1 ⟨rfl, hb1⟩
      go_wp2_with fail
      refine (HP.out w1 hb1).mono ?_
      rintro e w2 ⟨Ao, n, co, rfl, hb2, hpp⟩
      have w2b : Below W.heap.size W w2 := hb1.trans (hb2.mono hb1.size)
      have HPP := Lib.hid hpp
      have hr2 := (hr.below w2b).more w2b.size
      clear hpp hb2 hb1 HC HP
      have HPF := Lib.hid (Eq.refl (planF l f))
      go_wp2_with fail

      go_loopw [7, 28] (fun v7 v28 wr => ∃ (k : Nat) (bd : Int), k ≤ l.length ∧ v28 = .int .i64 k ∧ v7 = .int .i64 bd ∧ Hid (bd = 0 ∧ planF l f = jobsF (l.take k) (l.drop k) ∨ bd ≠ 0 ∧ planF l f = bd) ∧ Below w2.heap.size w2 wr) (fun _ v28 _ => l.length - (intOf v28).toNat)
      case atStart => exact ⟨0, _, by omega, rfl, rfl, HB0, Below.refl _ _⟩
      case round =>
        obtain ⟨k, bd, hk, rfl, rfl, HK, hb⟩ := hrel
        by_cases hlt : k < l.length
        · have hr1 := (hr2.below hb)
          obtain ⟨b, o, rfl, hbl, hc0, hc1⟩ := hr1.job hlt (0, 0)
          have HS := Lib.hid (jobsF_step l k hlt)
          generalize l.getD k (0, 0) = x at *
          have hkc : (k : Int) ≤ (c : Int) := by omega
          have hw1 : Below w2.heap.size w2 (wr.alloc (.cells #[.int .i64 x.1, .int .i64 x.2] 83)) := hb.alloc hb.size _
          by_cases hbd : bd = 0
          · subst hbd
            have HK' := Lib.hid (show planF l f = jobsF (l.take k) (l.drop k) by
              rcases HK.out with ⟨_, h⟩ | ⟨h, _⟩
              · exact h
              · exact absurd rfl h)
            clear HK
            by_cases h1 : x.2 < 1 ∨ 10000 < x.2
            · have HX := Lib.hid h1
              have e1 : decide (1 ≤ x.2 ∧ x.2 ≤ 10000) = false := by simp; omega
              clear h1
              go_wp2_with fail
              refine (in_any _ _ _ _).mono ?_
              rintro e w' ⟨rfl, rfl⟩
              rw [e1]
              go_wp2_with fail
              go_roundw
              case rel =>
                refine ⟨k + 1, 1, by omega, by go_num, rfl, ?_, hw1⟩
                exact .inr ⟨by omega, by rw [HK'.out, HS.out, if_pos HX.out]⟩
              case measure => simp [intOf]; omega
            · have HX := Lib.hid h1
              have e1 : decide (1 ≤ x.2 ∧ x.2 ≤ 10000) = true := by simp; omega
              clear h1
              have HT := Lib.hid (seen_any 60 enters_tp2 tp2_any (some ⟨b, o, none⟩) c k l wr.heap.size x.1 (wr.alloc (.cells #[.int .i64 x.1, .int .i64 x.2] 83)) ((hr2.below hw1).more hw1.size) hk HM.out ((Box.new _ _ _).cell 0))
              go_wp2_with fail
              refine (in_any _ _ _ _).mono ?_
              rintro e w' ⟨rfl, rfl⟩
              rw [e1]
              go_wp2_with fail
              refine HT.out.mono ?_
              rintro e w3 ⟨rfl, hb3⟩
              have hw3 := hw1.trans (hb3.mono hw1.size)
              generalize hbq : ((l.take k).any fun y => y.1 == x.1) = bq at *
              have HQ := Lib.hid hbq
              clear hbq HT
              cases bq
              · go_wp2_with fail
                go_roundw
                case rel =>
                  refine ⟨k + 1, 0, by omega, by go_num, rfl, ?_, hw3⟩
                  exact .inl ⟨rfl, by rw [HK'.out, HS.out, if_neg HX.out]; simp⟩
                case measure => simp [intOf]; omega
              · go_wp2_with fail
                go_roundw
                case rel =>
                  refine ⟨k + 1, 5, by omega, by go_num, rfl, ?_, hw3⟩
                  exact .inr ⟨by omega, by rw [HK'.out, HS.out, if_neg HX.out]; simp⟩
                case measure => simp [intOf]; omega
          · have HK' := Lib.hid (show planF l f = bd by
              rcases HK.out with ⟨h, _⟩ | ⟨_, h⟩
              · exact absurd h hbd
              · exact h)
            have b1 : (bd == 0) = false := by simp; exact hbd
            have HBD := Lib.hid hbd
            clear HK hbd
            go_wp2_with fail
            go_roundw
            case rel => exact ⟨k + 1, bd, by omega, by go_num, rfl, .inr ⟨HBD.out, HK'.out⟩, hw1⟩
            case measure => simp [intOf]; omega
        · have HK' := Lib.hid (show planF l f = bd by
            rcases HK.out with ⟨h, h'⟩ | ⟨_, h⟩
            · rw [h', h, List.drop_eq_nil_of_le (by omega)]; rfl
            · exact h)
          have hbw : Below W.heap.size W wr := w2b.trans (hb.mono w2b.size)
          clear HK
          by_cases hbd : bd = 0
          · subst hbd
            rcases HPP.out with ⟨h, _⟩ | ⟨h0, rfl, hro, hlo⟩
            · exact absurd HK'.out h
            obtain ⟨g1, g2, g3, g4⟩ := planF_ok h0
            have HPL := Lib.hid (planned_from A c l f wr ((hr2.below hb).more hb.size) hlc HMC.out HA.out g1 g2 g3 g4)
            rw [h0]
            have HR := Lib.hid (hro.below hb)
            clear h0 HPP g4 hro
            go_wp2_with fail
            refine HPL.out.mono ?_
            rintro e w4 ⟨A4, c4, rfl, hr4, hb4⟩
            have hw4 : Below W.heap.size W w4 := hbw.trans (hb4.mono hbw.size)
            go_wp2_with fail
            refine (equal_job _ _ _ _ (plan f l 0) (plan f l 0) _ _ _ (HR.out.more hb.size |>.below hb4) hr4 (by unfold maxLen; omega) (by unfold maxLen; omega)).mono ?_
            rintro e w5 ⟨rfl, nq, rfl⟩
            rw [show decide (plan f l 0 = plan f l 0) = true by simp]
            go_wp2_with fail
            go_ret
            exact ⟨rfl, below_drewN hw4 nq⟩
          · have b1 : (bd != 0) = true := by simp; exact hbd
            rcases HPP.out with ⟨_, rfl⟩ | ⟨h, _⟩
            · rw [HK'.out]
              clear hbd
              go_wp2_with fail
              go_ret
              exact ⟨rfl, hbw⟩
            · exact absurd (HK'.out.symm.trans h) hbd

    · by_cases hf : f < 1 ∨ 10000 < f
      · have dl : decide (100 < l.length) = false := by simp; omega
        have dl' : decide ((100 : Int) < (l.length : Int)) = false := by simp; omega
        have HB0 : Hid ((1 : Int) = 0 ∧ planF l f = jobsF (l.take 0) (l.drop 0) ∨ (1 : Int) ≠ 0 ∧ planF l f = 1) := .inr ⟨by omega, by unfold planF; rw [if_neg hl, if_pos hf]⟩
        have e0 : decide (1 ≤ f ∧ f ≤ 10000) = false := by simp; omega
        clear hf
        go_enter Try.func10, Try.ntmps10
        go_wp2_with fail
        refine HC.out.mono ?_
        rintro e w1 ⟨rfl, hb1⟩
        go_wp2_with fail
        refine (HP.out w1 hb1).mono ?_
        rintro e w2 ⟨Ao, n, co, rfl, hb2, hpp⟩
        have w2b : Below W.heap.size W w2 := hb1.trans (hb2.mono hb1.size)
        have HPP := Lib.hid hpp
        have hr2 := (hr.below w2b).more w2b.size
        clear hpp hb2 hb1 HC HP
        go_wp2_with fail
        refine (in_any _ _ _ _).mono ?_
        rintro e w' ⟨rfl, rfl⟩
        rw [e0]
        go_wp2_with fail

        go_loopw [7, 28] (fun v7 v28 wr => ∃ (k : Nat) (bd : Int), k ≤ l.length ∧ v28 = .int .i64 k ∧ v7 = .int .i64 bd ∧ Hid (bd = 0 ∧ planF l f = jobsF (l.take k) (l.drop k) ∨ bd ≠ 0 ∧ planF l f = bd) ∧ Below w2.heap.size w2 wr) (fun _ v28 _ => l.length - (intOf v28).toNat)
        case atStart => exact ⟨0, _, by omega, rfl, rfl, HB0, Below.refl _ _⟩
        case round =>
          obtain ⟨k, bd, hk, rfl, rfl, HK, hb⟩ := hrel
          by_cases hlt : k < l.length
          · have hr1 := (hr2.below hb)
            obtain ⟨b, o, rfl, hbl, hc0, hc1⟩ := hr1.job hlt (0, 0)
            have HS := Lib.hid (jobsF_step l k hlt)
            generalize l.getD k (0, 0) = x at *
            have hkc : (k : Int) ≤ (c : Int) := by omega
            have hw1 : Below w2.heap.size w2 (wr.alloc (.cells #[.int .i64 x.1, .int .i64 x.2] 83)) := hb.alloc hb.size _
            by_cases hbd : bd = 0
            · subst hbd
              have HK' := Lib.hid (show planF l f = jobsF (l.take k) (l.drop k) by
                rcases HK.out with ⟨_, h⟩ | ⟨h, _⟩
                · exact h
                · exact absurd rfl h)
              clear HK
              by_cases h1 : x.2 < 1 ∨ 10000 < x.2
              · have HX := Lib.hid h1
                have e1 : decide (1 ≤ x.2 ∧ x.2 ≤ 10000) = false := by simp; omega
                clear h1
                go_wp2_with fail
                refine (in_any _ _ _ _).mono ?_
                rintro e w' ⟨rfl, rfl⟩
                rw [e1]
                go_wp2_with fail
                go_roundw
                case rel =>
                  refine ⟨k + 1, 1, by omega, by go_num, rfl, ?_, hw1⟩
                  exact .inr ⟨by omega, by rw [HK'.out, HS.out, if_pos HX.out]⟩
                case measure => simp [intOf]; omega
              · have HX := Lib.hid h1
                have e1 : decide (1 ≤ x.2 ∧ x.2 ≤ 10000) = true := by simp; omega
                clear h1
                have HT := Lib.hid (seen_any 60 enters_tp2 tp2_any (some ⟨b, o, none⟩) c k l wr.heap.size x.1 (wr.alloc (.cells #[.int .i64 x.1, .int .i64 x.2] 83)) ((hr2.below hw1).more hw1.size) hk HM.out ((Box.new _ _ _).cell 0))
                go_wp2_with fail
                refine (in_any _ _ _ _).mono ?_
                rintro e w' ⟨rfl, rfl⟩
                rw [e1]
                go_wp2_with fail
                refine HT.out.mono ?_
                rintro e w3 ⟨rfl, hb3⟩
                have hw3 := hw1.trans (hb3.mono hw1.size)
                generalize hbq : ((l.take k).any fun y => y.1 == x.1) = bq at *
                have HQ := Lib.hid hbq
                clear hbq HT
                cases bq
                · go_wp2_with fail
                  go_roundw
                  case rel =>
                    refine ⟨k + 1, 0, by omega, by go_num, rfl, ?_, hw3⟩
                    exact .inl ⟨rfl, by rw [HK'.out, HS.out, if_neg HX.out]; simp⟩
                  case measure => simp [intOf]; omega
                · go_wp2_with fail
                  go_roundw
                  case rel =>
                    refine ⟨k + 1, 5, by omega, by go_num, rfl, ?_, hw3⟩
                    exact .inr ⟨by omega, by rw [HK'.out, HS.out, if_neg HX.out]; simp⟩
                  case measure => simp [intOf]; omega
            · have HK' := Lib.hid (show planF l f = bd by
                rcases HK.out with ⟨h, _⟩ | ⟨_, h⟩
                · exact absurd h hbd
                · exact h)
              have b1 : (bd == 0) = false := by simp; exact hbd
              have HBD := Lib.hid hbd
              clear HK hbd
              go_wp2_with fail
              go_roundw
              case rel => exact ⟨k + 1, bd, by omega, by go_num, rfl, .inr ⟨HBD.out, HK'.out⟩, hw1⟩
              case measure => simp [intOf]; omega
          · have HK' := Lib.hid (show planF l f = bd by
              rcases HK.out with ⟨h, h'⟩ | ⟨_, h⟩
              · rw [h', h, List.drop_eq_nil_of_le (by omega)]; rfl
              · exact h)
            have hbw : Below W.heap.size W wr := w2b.trans (hb.mono w2b.size)
            clear HK
            by_cases hbd : bd = 0
            · subst hbd
              rcases HPP.out with ⟨h, _⟩ | ⟨h0, rfl, hro, hlo⟩
              · exact absurd HK'.out h
              obtain ⟨g1, g2, g3, g4⟩ := planF_ok h0
              have HPL := Lib.hid (planned_from A c l f wr ((hr2.below hb).more hb.size) hlc HMC.out HA.out g1 g2 g3 g4)
              rw [h0]
              have HR := Lib.hid (hro.below hb)
              clear h0 HPP g4 hro
              go_wp2_with fail
              refine HPL.out.mono ?_
              rintro e w4 ⟨A4, c4, rfl, hr4, hb4⟩
              have hw4 : Below W.heap.size W w4 := hbw.trans (hb4.mono hbw.size)
              go_wp2_with fail
              refine (equal_job _ _ _ _ (plan f l 0) (plan f l 0) _ _ _ (HR.out.more hb.size |>.below hb4) hr4 (by unfold maxLen; omega) (by unfold maxLen; omega)).mono ?_
              rintro e w5 ⟨rfl, nq, rfl⟩
              rw [show decide (plan f l 0 = plan f l 0) = true by simp]
              go_wp2_with fail
              go_ret
              exact ⟨rfl, below_drewN hw4 nq⟩
            · have b1 : (bd != 0) = true := by simp; exact hbd
              rcases HPP.out with ⟨_, rfl⟩ | ⟨h, _⟩
              · rw [HK'.out]
                clear hbd
                go_wp2_with fail
                go_ret
                exact ⟨rfl, hbw⟩
              · exact absurd (HK'.out.symm.trans h) hbd

      · have dl : decide (100 < l.length) = false := by simp; omega
        have dl' : decide ((100 : Int) < (l.length : Int)) = false := by simp; omega
        have HST := Lib.hid (planF_start l f (by omega) (by omega) (by omega))
        have e0 : decide (1 ≤ f ∧ f ≤ 10000) = true := by simp; omega
        clear hf
        go_enter Try.func10, Try.ntmps10
        go_wp2_with fail
        refine HC.out.mono ?_
        rintro e w1 ⟨rfl, hb1⟩
        go_wp2_with fail
        refine (HP.out w1 hb1).mono ?_
        rintro e w2 ⟨Ao, n, co, rfl, hb2, hpp⟩
        have w2b : Below W.heap.size W w2 := hb1.trans (hb2.mono hb1.size)
        have HPP := Lib.hid hpp
        have hr2 := (hr.below w2b).more w2b.size
        clear hpp hb2 hb1 HC HP
        go_wp2_with fail
        refine (in_any _ _ _ _).mono ?_
        rintro e w' ⟨rfl, rfl⟩
        rw [e0]
        go_wp2_with fail

        go_loopw [7, 28] (fun v7 v28 wr => ∃ (k : Nat) (bd : Int), k ≤ l.length ∧ v28 = .int .i64 k ∧ v7 = .int .i64 bd ∧ Hid (bd = 0 ∧ planF l f = jobsF (l.take k) (l.drop k) ∨ bd ≠ 0 ∧ planF l f = bd) ∧ Below w2.heap.size w2 wr) (fun _ v28 _ => l.length - (intOf v28).toNat)
        case atStart => exact ⟨0, _, by omega, rfl, rfl, .inl ⟨rfl, HST.out⟩, Below.refl _ _⟩
        case round =>
          obtain ⟨k, bd, hk, rfl, rfl, HK, hb⟩ := hrel
          by_cases hlt : k < l.length
          · have hr1 := (hr2.below hb)
            obtain ⟨b, o, rfl, hbl, hc0, hc1⟩ := hr1.job hlt (0, 0)
            have HS := Lib.hid (jobsF_step l k hlt)
            generalize l.getD k (0, 0) = x at *
            have hkc : (k : Int) ≤ (c : Int) := by omega
            have hw1 : Below w2.heap.size w2 (wr.alloc (.cells #[.int .i64 x.1, .int .i64 x.2] 83)) := hb.alloc hb.size _
            by_cases hbd : bd = 0
            · subst hbd
              have HK' := Lib.hid (show planF l f = jobsF (l.take k) (l.drop k) by
                rcases HK.out with ⟨_, h⟩ | ⟨h, _⟩
                · exact h
                · exact absurd rfl h)
              clear HK
              by_cases h1 : x.2 < 1 ∨ 10000 < x.2
              · have HX := Lib.hid h1
                have e1 : decide (1 ≤ x.2 ∧ x.2 ≤ 10000) = false := by simp; omega
                clear h1
                go_wp2_with fail
                refine (in_any _ _ _ _).mono ?_
                rintro e w' ⟨rfl, rfl⟩
                rw [e1]
                go_wp2_with fail
                go_roundw
                case rel =>
                  refine ⟨k + 1, 1, by omega, by go_num, rfl, ?_, hw1⟩
                  exact .inr ⟨by omega, by rw [HK'.out, HS.out, if_pos HX.out]⟩
                case measure => simp [intOf]; omega
              · have HX := Lib.hid h1
                have e1 : decide (1 ≤ x.2 ∧ x.2 ≤ 10000) = true := by simp; omega
                clear h1
                have HT := Lib.hid (seen_any 60 enters_tp2 tp2_any (some ⟨b, o, none⟩) c k l wr.heap.size x.1 (wr.alloc (.cells #[.int .i64 x.1, .int .i64 x.2] 83)) ((hr2.below hw1).more hw1.size) hk HM.out ((Box.new _ _ _).cell 0))
                go_wp2_with fail
                refine (in_any _ _ _ _).mono ?_
                rintro e w' ⟨rfl, rfl⟩
                rw [e1]
                go_wp2_with fail
                refine HT.out.mono ?_
                rintro e w3 ⟨rfl, hb3⟩
                have hw3 := hw1.trans (hb3.mono hw1.size)
                generalize hbq : ((l.take k).any fun y => y.1 == x.1) = bq at *
                have HQ := Lib.hid hbq
                clear hbq HT
                cases bq
                · go_wp2_with fail
                  go_roundw
                  case rel =>
                    refine ⟨k + 1, 0, by omega, by go_num, rfl, ?_, hw3⟩
                    exact .inl ⟨rfl, by rw [HK'.out, HS.out, if_neg HX.out]; simp⟩
                  case measure => simp [intOf]; omega
                · go_wp2_with fail
                  go_roundw
                  case rel =>
                    refine ⟨k + 1, 5, by omega, by go_num, rfl, ?_, hw3⟩
                    exact .inr ⟨by omega, by rw [HK'.out, HS.out, if_neg HX.out]; simp⟩
                  case measure => simp [intOf]; omega
            · have HK' := Lib.hid (show planF l f = bd by
                rcases HK.out with ⟨h, _⟩ | ⟨_, h⟩
                · exact absurd h hbd
                · exact h)
              have b1 : (bd == 0) = false := by simp; exact hbd
              have HBD := Lib.hid hbd
              clear HK hbd
              go_wp2_with fail
              go_roundw
              case rel => exact ⟨k + 1, bd, by omega, by go_num, rfl, .inr ⟨HBD.out, HK'.out⟩, hw1⟩
              case measure => simp [intOf]; omega
          · have HK' := Lib.hid (show planF l f = bd by
              rcases HK.out with ⟨h, h'⟩ | ⟨_, h⟩
              · rw [h', h, List.drop_eq_nil_of_le (by omega)]; rfl
              · exact h)
            have hbw : Below W.heap.size W wr := w2b.trans (hb.mono w2b.size)
            clear HK
            by_cases hbd : bd = 0
            · subst hbd
              rcases HPP.out with ⟨h, _⟩ | ⟨h0, rfl, hro, hlo⟩
              · exact absurd HK'.out h
              obtain ⟨g1, g2, g3, g4⟩ := planF_ok h0
              have HPL := Lib.hid (planned_from A c l f wr ((hr2.below hb).more hb.size) hlc HMC.out HA.out g1 g2 g3 g4)
              rw [h0]
              have HR := Lib.hid (hro.below hb)
              clear h0 HPP g4 hro
              go_wp2_with fail
              refine HPL.out.mono ?_
              rintro e w4 ⟨A4, c4, rfl, hr4, hb4⟩
              have hw4 : Below W.heap.size W w4 := hbw.trans (hb4.mono hbw.size)
              go_wp2_with fail
              refine (equal_job _ _ _ _ (plan f l 0) (plan f l 0) _ _ _ (HR.out.more hb.size |>.below hb4) hr4 (by unfold maxLen; omega) (by unfold maxLen; omega)).mono ?_
              rintro e w5 ⟨rfl, nq, rfl⟩
              rw [show decide (plan f l 0 = plan f l 0) = true by simp]
              go_wp2_with fail
              go_ret
              exact ⟨rfl, below_drewN hw4 nq⟩
            · have b1 : (bd != 0) = true := by simp; exact hbd
              rcases HPP.out with ⟨_, rfl⟩ | ⟨h, _⟩
              · rw [HK'.out]
                clear hbd
                go_wp2_with fail
                go_ret
                exact ⟨rfl, hbw⟩
              · exact absurd (HK'.out.symm.trans h) hbd

  · go_enter Try.func10, Try.ntmps10
    go_wp2_with fail
    refine HC.out.mono ?_
    rintro e w1 ⟨rfl, hb1⟩
    go_wp2_with fail
    go_ret
    exact ⟨rfl, hb1⟩

set_option maxRecDepth 100000 in
theorem turnPlans_called : Called 10 Try.f10 := by
  intro H enc W base args ds p hval hA hsz
  rw [Try.params10] at hA hval
  obtain ⟨v0, v1, d0, d1, p0, p1, rfl, rfl, rfl, h0, h1⟩ := trodAll_two hA
  obtain ⟨f, rfl, rfl, rfl, w1⟩ := open_int Try.underlying3 (hval 1 3 v1 rfl rfl) h1
  obtain ⟨A, n, c, rfl⟩ := okWide_slice Try.underlying80 (hval 0 80 v0 rfl rfl)
  obtain ⟨fuel, hf⟩ := h0
  obtain ⟨A', c', l, hcs, hr, hlc, hm, hA, _, _⟩ := open_rowOf jobC (fun _ => True) (size := 2) Try.underlying80 (by kernel_rfl) jobC_len (by decide) (fun n cs y hy => by
    obtain ⟨hl, hfs⟩ := open_fields Try.underlying83 (by kernel_rfl) (by kernel_rfl) hy
    obtain ⟨u0, y0, k0, hu0, ht0⟩ := hfs 0 _ rfl
    obtain ⟨u1, y1, k1, hu1, ht1⟩ := hfs 1 _ rfl
    obtain ⟨n0, e0, _⟩ := DataW.trod_int Try.underlying3 ht0
    obtain ⟨n1, e1, _⟩ := DataW.trod_int Try.underlying3 ht1
    injection e0 with e0
    injection e1 with e1
    subst e0 e1
    refine ⟨(n0, n1), ?_, trivial⟩
    match cs, hl with
    | [a, b], _ =>
      simp at hu0 hu1
      subst hu0 hu1
      rfl) hf
  simp [Value.cells] at hcs
  obtain ⟨rfl, rfl, rfl⟩ := hcs
  exact turnPlans_walk A c l f W hr hlc hm hA

set_option maxRecDepth 100000 in
theorem turnPlans_lifted (os : Os) (started : os.Started) (H : Type) (enc : TypeId × Value → H) :
    ReturnsInHanded {} Try.checked os 10 .any (Rows.turnPlansSpec.pre6 enc Try.prog Try.f10 Rows.turnPlansRow.domain false) (Rows.turnPlansSpec.post enc Try.prog Try.f10 false true false false) :=
  law_lift started (by kernel_rfl) Try.func10
    (ChangeSpec.witness6 (enc := enc) (C := Try.checked) false ⟨#[], #[.slice none 0 0, .int .i64 0], []⟩ 8 (by kernel_rfl) (by kernel_rfl) (by kernel_rfl) (by kernel_rfl))
    rfl rfl (by kernel_rfl) (by kernel_rfl) (fun l hl => by
      rw [Try.params10] at hl
      match l, hl with
      | [d0, d1], _ => rfl) turnPlans_called

theorem turnPlans_over : Rows.turnPlansRow.holds Try.pinned (OpenSpec.ofChange Rows.turnPlansSpec) :=
  OpenClaim.holds_of_wide 10 Try.f10 rfl rfl rfl rfl rfl rfl rfl ⟨rfl, rfl, rfl, rfl, rfl⟩ rfl rfl rfl rfl rfl (by kernel_rfl) Try.func10 (by kernel_rfl)
    (of_decide_eq_true (by kernel_rfl)) (by unfold Func.isWrapper; first | (rw [if_pos (by decide +kernel)]; kernel_rfl) | (rw [if_neg (by decide +kernel)]; exact ⟨rfl, rfl⟩))
    (fun os started H enc _ => turnPlans_lifted os started H enc)

theorem turnPlans_holds : Rows.TurnPlansSaid := turnPlans_over
end Go.Proofs.Ytjblfkoepedhpaa
