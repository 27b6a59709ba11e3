/-
  What is wrong with a supervisor (ward.Check).
-/
import Derived.Test.YtcmkkfpcdebfkaaWd1
import Derived.IntWalk
import Derived.Deep.RegionHeld3
import Derived.Deep.CutBlock
import Derived.Deep.DeepCutAuto
namespace Go.Proofs.Ytcmkkfpcdebfkaa
open Go.RowKit

theorem chF_drop (pre l : List Ch) {k : Nat} (hk : k < l.length) : chF pre (l.drop k) =
    if (l.getD k (0, 0, false)).2.1 < 1 ∨ 3 < (l.getD k (0, 0, false)).2.1 then 1 else if pre.any (isId (l.getD k (0, 0, false)).1) = true then 5 else chF (pre ++ [l.getD k (0, 0, false)]) (l.drop (k + 1)) := by
  rw [drop_getD l (0, 0, false) hk]
  rfl
theorem tmF_drop (a : Int) (l : List Int) {k : Nat} (hk : k < l.length) : tmF a (l.drop k) = if l.getD k 0 < a ∨ 1099511627776 < l.getD k 0 then 21 else tmF (l.getD k 0) (l.drop (k + 1)) := by
  rw [drop_getD l 0 hk]
  rfl

set_option maxRecDepth 100000 in
set_option maxHeartbeats 4000000 in
theorem checkW (x : WA) (v : Wd) (W : World) (h : WIn W x v) :
    Calls Try.prog 121 #[wardV x v] W fun e w' => e = .returned (.int .i64 (wardF v)) ∧ Below W.heap.size W w' := by
  have HIN := Lib.hid h
  obtain ⟨r, hr⟩ : ∃ r, wardF v = r := ⟨_, rfl⟩
  rw [hr]
  have HR := Lib.hid hr
  have hc1 := h.c1
  have hc2 := h.c2
  have hd1 := h.d1
  have hd2 := h.d2
  clear h hr
  obtain ⟨A, c, B, d⟩ := x
  obtain ⟨how, most, win, ch, tm⟩ := v
  dsimp only at hc1 hc2 hd1 hd2
  unfold maxLen at hc2 hd2
  have HB0 := Lib.hid ((Below.refl W.heap.size W).alloc (Nat.le_refl _) (.cells #[.int .i64 how, .int .i64 most, .int .i64 win, .slice A ch.length c, .slice B tm.length d] 215))
  have HBX := Lib.hid (Box.new W 215 #[.int .i64 how, .int .i64 most, .int .i64 win, .slice A ch.length c, .slice B tm.length d])
  unfold wardV
  dsimp only
  by_cases t0 : how < 1
  · have q0 : decide (how < 1) = true := decide_eq_true t0
    have HE := Lib.hid (show r = 1 by rw [← HR.out]; unfold wardF; dsimp only; rw [if_pos (by omega)])
    clear t0
    go_enter Try.func121, Try.ntmps121
    go_wp2_with fail
    go_ret
    exact ⟨by rw [HE.out]; rfl, HB0.out⟩
  have q0 : decide (how < 1) = false := decide_eq_false t0
  by_cases t1 : 3 < how
  · have q1 : decide (3 < how) = true := decide_eq_true t1
    have HE := Lib.hid (show r = 1 by rw [← HR.out]; unfold wardF; dsimp only; rw [if_pos (by omega)])
    clear t0 t1
    go_enter Try.func121, Try.ntmps121
    go_wp2_with fail
    go_ret
    exact ⟨by rw [HE.out]; rfl, HB0.out⟩
  have q1 : decide (3 < how) = false := decide_eq_false t1
  by_cases t2 : most < 0
  · have q2 : decide (most < 0) = true := decide_eq_true t2
    have HE := Lib.hid (show r = 1 by rw [← HR.out]; unfold wardF; dsimp only; rw [if_pos (by omega)])
    clear t0 t1 t2
    go_enter Try.func121, Try.ntmps121
    go_wp2_with fail
    go_ret
    exact ⟨by rw [HE.out]; rfl, HB0.out⟩
  have q2 : decide (most < 0) = false := decide_eq_false t2
  by_cases t3 : 50 < most
  · have q3 : decide (50 < most) = true := decide_eq_true t3
    have HE := Lib.hid (show r = 1 by rw [← HR.out]; unfold wardF; dsimp only; rw [if_pos (by omega)])
    clear t0 t1 t2 t3
    go_enter Try.func121, Try.ntmps121
    go_wp2_with fail
    go_ret
    exact ⟨by rw [HE.out]; rfl, HB0.out⟩
  have q3 : decide (50 < most) = false := decide_eq_false t3
  by_cases t4 : win < 1
  · have q4 : decide (win < 1) = true := decide_eq_true t4
    have HE := Lib.hid (show r = 1 by rw [← HR.out]; unfold wardF; dsimp only; rw [if_pos (by omega)])
    clear t0 t1 t2 t3 t4
    go_enter Try.func121, Try.ntmps121
    go_wp2_with fail
    go_ret
    exact ⟨by rw [HE.out]; rfl, HB0.out⟩
  have q4 : decide (win < 1) = false := decide_eq_false t4
  by_cases t5 : 1099511627776 < win
  · have q5 : decide (1099511627776 < win) = true := decide_eq_true t5
    have HE := Lib.hid (show r = 1 by rw [← HR.out]; unfold wardF; dsimp only; rw [if_pos (by omega)])
    clear t0 t1 t2 t3 t4 t5
    go_enter Try.func121, Try.ntmps121
    go_wp2_with fail
    go_ret
    exact ⟨by rw [HE.out]; rfl, HB0.out⟩
  have q5 : decide (1099511627776 < win) = false := decide_eq_false t5
  have HARG := Lib.hid (show ¬ ((how < 1 ∨ 3 < how) ∨ (most < 0 ∨ 50 < most) ∨ (win < 1 ∨ 1099511627776 < win)) by omega)
  clear t0 t1 t2 t3 t4 t5
  by_cases l1 : 20 < ch.length
  · have m1 : decide ((20 : Int) < (ch.length : Int)) = true := decide_eq_true (by omega)
    have m2 : decide (20 < ch.length) = true := decide_eq_true l1
    have HE := Lib.hid (show r = 2 by rw [← HR.out]; unfold wardF; dsimp only; rw [if_neg HARG.out, if_pos (.inl l1)])
    clear l1
    go_enter Try.func121, Try.ntmps121
    go_wp2_with fail
    go_ret
    exact ⟨by rw [HE.out]; rfl, HB0.out⟩
  have m1 : decide ((20 : Int) < (ch.length : Int)) = false := decide_eq_false (by omega)
  have m2 : decide (20 < ch.length) = false := decide_eq_false l1
  by_cases l2 : 50 < tm.length
  · have m3 : decide ((50 : Int) < (tm.length : Int)) = true := decide_eq_true (by omega)
    have m4 : decide (50 < tm.length) = true := decide_eq_true l2
    have HE := Lib.hid (show r = 2 by rw [← HR.out]; unfold wardF; dsimp only; rw [if_neg HARG.out, if_pos (.inr l2)])
    clear l1 l2
    go_enter Try.func121, Try.ntmps121
    go_wp2_with fail
    go_ret
    exact ⟨by rw [HE.out]; rfl, HB0.out⟩
  have m3 : decide ((50 : Int) < (tm.length : Int)) = false := decide_eq_false (by omega)
  have m4 : decide (50 < tm.length) = false := decide_eq_false l2
  have HRR := Lib.hid (show r = if chF [] ch = 0 then tmF 0 tm else chF [] ch by rw [← HR.out]; unfold wardF; dsimp only; rw [if_neg HARG.out, if_neg (by omega)])
  have hl20 : ch.length ≤ 20 := by omega
  have hl50 : tm.length ≤ 50 := by omega
  clear l1 l2 HR HARG
  go_enter Try.func121, Try.ntmps121
  go_wp2_with fail
  have HIN1 := Lib.hid (HIN.out.below ((Below.refl W.heap.size W).alloc (Nat.le_refl _) (.cells #[.int .i64 how, .int .i64 most, .int .i64 win, .slice A ch.length c, .slice B tm.length d] 215)))
  generalize hw1 : W.alloc (.cells #[.int .i64 how, .int .i64 most, .int .i64 win, .slice A ch.length c, .slice B tm.length d] 215) = w1 at *
  have hg1 : W.heap.size < w1.heap.size := HBX.out.lt
  clear hw1 q0 q1 q2 q3 q4 q5 m1 m2 m3 m4
  go_loopg [51] ch.length (fun gk i wr => ∃ k : Nat, gk = ch.length - k ∧ k ≤ ch.length ∧ i = .int .i64 k ∧ chF [] ch = chF (ch.take k) (ch.drop k) ∧ Below w1.heap.size w1 wr)
  case atStart => exact ⟨0, by omega, by omega, rfl, rfl, Below.refl _ _⟩
  case round =>
    obtain ⟨k, hgk, hk, rfl, hF, hb⟩ := hrel
    have HK := Lib.hid hgk
    have HF := Lib.hid hF
    have HB := Lib.hid hb
    have HBW := Lib.hid (HB0.out.trans (hb.mono HB0.out.size))
    have HI := Lib.hid (HIN1.out.below hb)
    have hbx := HBX.out.below hb hg1
    have c3 := hbx.cell 3
    simp only [List.getElem?_toArray, List.getElem?_cons_zero, List.getElem?_cons_succ] at c3
    have hws := hb.size
    have hgw : W.heap.size < wr.heap.size := by omega
    clear hgk hF hb
    by_cases hlt : k < ch.length
    · obtain ⟨b, o, hA, hbl, k0, k1, k2⟩ := (Row.wc HI.out.ch hlt (0, 0, false))
      dsimp only at hA
      subst hA
      have HD := Lib.hid (chF_drop (ch.take k) ch hlt)
      have HT := Lib.hid (take_getD ch (0, 0, false) hlt)
      generalize ch.getD k (0, 0, false) = y at *
      obtain ⟨y0, y1, y2⟩ := y
      dsimp only at k0 k1 k2
      by_cases u1 : y1 < 1
      · have p1 : decide (y1 < 1) = true := decide_eq_true u1
        have HE := Lib.hid (show chF [] ch = 1 by rw [HF.out, HD.out, if_pos (.inl u1)])
        have HE2 := Lib.hid (show r = 1 by rw [HRR.out, HE.out]; rfl)
        clear u1
        go_wp2_with fail
        go_ret
        exact ⟨by rw [HE2.out]; rfl, HBW.out.alloc HBW.out.size _⟩
      have p1 : decide (y1 < 1) = false := decide_eq_false u1
      by_cases u2 : 3 < y1
      · have p2 : decide (3 < y1) = true := decide_eq_true u2
        have HE := Lib.hid (show chF [] ch = 1 by rw [HF.out, HD.out, if_pos (.inr u2)])
        have HE2 := Lib.hid (show r = 1 by rw [HRR.out, HE.out]; rfl)
        clear u1 u2
        go_wp2_with fail
        go_ret
        exact ⟨by rw [HE2.out]; rfl, HBW.out.alloc HBW.out.size _⟩
      have p2 : decide (3 < y1) = false := decide_eq_false u2
      have HD2 := Lib.hid (show chF [] ch = if (ch.take k).any (isId y0) = true then 5 else chF (ch.take k ++ [(y0, y1, y2)]) (ch.drop (k + 1)) by rw [HF.out, HD.out, if_neg (by dsimp only; omega)])
      clear u1 u2 HD
      have hkc : k ≤ c := by omega
      have htl : (ch.take k).length = k := by rw [List.length_take]; omega
      have HIA := Lib.hid (idxAt_any (isId y0) (ch.take k) 0 (by omega))
      have HFN := Lib.hid (show ∀ w, Below wr.heap.size wr w → Calls Try.prog 180 #[.slice (some ⟨b, o, none⟩) k c, .int .i64 y0] w fun e w' => e = .returned (.int .i64 (idxAt (isId y0) (ch.take k) 0)) ∧ Below w.heap.size w w' from fun w hw => by
        have h1 := find_any y0 (some ⟨b, o, none⟩) c (ch.take k) w ((((HI.out.ch).below hw).more hw.size).takeF wcC_len k) (by rw [htl]; unfold maxLen; omega)
        rw [htl] at h1
        exact h1)
      clear htl
      generalize idxAt (isId y0) (ch.take k) 0 = fi at *
      have hz1 := HI.out
      have HB2 := Lib.hid (HBW.out.alloc HBW.out.size (.cells #[.int .i64 y0, .int .i64 y1, .bool y2] 230))
      have HB3 := Lib.hid (HB.out.alloc hws (.cells #[.int .i64 y0, .int .i64 y1, .bool y2] 230))
      have hbd := Box.new wr 230 #[.int .i64 y0, .int .i64 y1, .bool y2]
      have hbx2 := hbx.alloc (.cells #[.int .i64 y0, .int .i64 y1, .bool y2] 230)
      have HWN := Lib.hid (show Below wr.heap.size wr (wr.alloc (.cells #[.int .i64 y0, .int .i64 y1, .bool y2] 230)) from (Below.refl _ _).alloc (Nat.le_refl _) _)
      go_upto_region 10 with fail
      clear c3 k0 k1 k2 hz1 hbx
      generalize hgd : wr.heap.size = gd at *
      have HGD := Lib.hid hgd
      generalize wr.alloc (.cells #[.int .i64 y0, .int .i64 y1, .bool y2] 230) = w2 at *
      have e0 := hbd.cell 0
      have x3 := hbx2.cell 3
      simp only [List.getElem?_toArray, List.getElem?_cons_zero, List.getElem?_cons_succ] at e0 x3
      have HKP := Lib.hid (show ∀ w', Below w2.heap.size w2 w' → w'.cell? ⟨W.heap.size, 3, none⟩ = some (.slice (some ⟨b, o, none⟩) ch.length c) ∧ w'.cell? ⟨gd, 0, none⟩ = some (.int .i64 y0) from fun w' hw => ⟨(hw.cell (p := ⟨W.heap.size, 3, none⟩) hbx2.lt).trans x3, (hw.cell (p := ⟨gd, 0, none⟩) hbd.lt).trans e0⟩)
      clear hgd hbd hbx2
      by_cases hany : (ch.take k).any (isId y0) = true
      · have hge : decide (0 ≤ fi) = true := by rw [HIA.out]; exact hany
        have HE := Lib.hid (show chF [] ch = 5 by rw [HD2.out, if_pos hany])
        have HE2 := Lib.hid (show r = 5 by rw [HRR.out, HE.out]; rfl)
        clear hany
        go_region_held3 (fun w' => w'.cell? ⟨W.heap.size, 3, none⟩ = some (.slice (some ⟨b, o, none⟩) ch.length c) ∧ w'.cell? ⟨gd, 0, none⟩ = some (.int .i64 y0))
          ((first | exact HKP.out _ hk4 | exact HKP.out _ (below_drewN (Below.refl _ _) 1) | go_keep))
          ((first | (go_at_call 180; refine (HFN.out _ (below_drewN HWN.out 1)).mono ?_; rintro e w4 ⟨rfl, hb4⟩; have hk4 := (below_drewN (Below.refl w2.heap.size w2) 1).trans hb4)))
        go_wp2_with fail
        go_ret
        exact ⟨by rw [HE2.out]; rfl, HB2.out.trans (hk4.mono HB2.out.size)⟩
      · have hge : decide (0 ≤ fi) = false := by rw [HIA.out]; simpa using hany
        have HE := Lib.hid (show chF [] ch = chF (ch.take (k + 1)) (ch.drop (k + 1)) by rw [HD2.out, if_neg hany, HT.out])
        clear hany
        go_region_held3 (fun w' => w'.cell? ⟨W.heap.size, 3, none⟩ = some (.slice (some ⟨b, o, none⟩) ch.length c) ∧ w'.cell? ⟨gd, 0, none⟩ = some (.int .i64 y0))
          ((first | exact HKP.out _ hk4 | exact HKP.out _ (below_drewN (Below.refl _ _) 1) | go_keep))
          ((first | (go_at_call 180; refine (HFN.out _ (below_drewN HWN.out 1)).mono ?_; rintro e w4 ⟨rfl, hb4⟩; have hk4 := (below_drewN (Below.refl w2.heap.size w2) 1).trans hb4)))
        have HB4 := Lib.hid (HB3.out.trans (hk4.mono HB3.out.size))
        clear hk4 hb4
        go_wp2_with fail
        go_roundg (ch.length - (k + 1))
        case measure => have := HK.out; omega
        case rel => exact ⟨k + 1, rfl, by omega, by go_num, HE.out, HB4.out⟩
    · obtain rfl : k = ch.length := by omega
      have HE := Lib.hid (show chF [] ch = 0 by rw [HF.out, List.drop_length]; rfl)
      have HE2 := Lib.hid (show r = tmF 0 tm by rw [HRR.out, if_pos HE.out])
      have c4 := hbx.cell 4
      simp only [List.getElem?_toArray, List.getElem?_cons_zero, List.getElem?_cons_succ] at c4
      clear hbx
      go_wp2_with fail
      obtain ⟨wo, hwo⟩ : ∃ wo, wo = wr := ⟨_, rfl⟩
      subst hwo
      go_loopg [5, 78] tm.length (fun gk lv i wq => ∃ (k : Nat) (last : Int), gk = tm.length - k ∧ k ≤ tm.length ∧ i = .int .i64 k ∧ lv = .int .i64 last ∧ tmF 0 tm = tmF last (tm.drop k) ∧ wo = wq)
      case atStart => exact ⟨0, 0, by omega, by omega, rfl, rfl, rfl, rfl⟩
      case round =>
        obtain ⟨k, last, hgk, hk, rfl, rfl, hF, rfl⟩ := hrel
        have HK2 := Lib.hid hgk
        have HF2 := Lib.hid hF
        clear hgk hF
        by_cases hlt : k < tm.length
        · obtain ⟨b, o, hA, hbl, hcx⟩ := HI.out.tm.int hlt
          dsimp only at hA
          subst hA
          have HD := Lib.hid (tmF_drop last tm hlt)
          generalize tm.getD k 0 = t at *
          by_cases u1 : t < last
          · have p1 : decide (t < last) = true := decide_eq_true u1
            have HE3 := Lib.hid (show r = 21 by rw [HE2.out, HF2.out, HD.out, if_pos (.inl u1)])
            clear u1
            go_wp2_with fail
            go_ret
            exact ⟨by rw [HE3.out]; rfl, HBW.out⟩
          have p1 : decide (t < last) = false := decide_eq_false u1
          by_cases u2 : 1099511627776 < t
          · have p2 : decide (1099511627776 < t) = true := decide_eq_true u2
            have HE3 := Lib.hid (show r = 21 by rw [HE2.out, HF2.out, HD.out, if_pos (.inr u2)])
            clear u1 u2
            go_wp2_with fail
            go_ret
            exact ⟨by rw [HE3.out]; rfl, HBW.out⟩
          have p2 : decide (1099511627776 < t) = false := decide_eq_false u2
          have HE3 := Lib.hid (show tmF 0 tm = tmF t (tm.drop (k + 1)) by rw [HF2.out, HD.out, if_neg (by omega)])
          clear u1 u2 HD
          go_wp2_with fail
          go_roundg (tm.length - (k + 1))
          case measure => have := HK2.out; omega
          case rel => exact ⟨k + 1, t, rfl, by omega, by go_num, rfl, HE3.out, rfl⟩
        · have HE3 := Lib.hid (show r = 0 by rw [HE2.out, HF2.out, List.drop_eq_nil_of_le (by omega)]; rfl)
          go_wp2_with fail
          go_ret
          exact ⟨by rw [HE3.out]; rfl, HBW.out⟩
end Go.Proofs.Ytcmkkfpcdebfkaa
