/-
  What is wrong with a supervisor, by the reference (roadref3.WardFault).
-/
import Derived.Test.YtcmkkfpcdebfkaaWd2
namespace Go.Proofs.Ytcmkkfpcdebfkaa
open Go.RowKit

theorem inT (n a b : Int) (w : World) (h : a ≤ n ∧ n ≤ b) :
    Calls Try.prog 65 #[.int .i64 n, .int .i64 a, .int .i64 b] w fun e w' => e = .returned (.bool true) ∧ w = w' := by
  obtain ⟨h1, h2⟩ := h
  have e1 : decide (a ≤ n) = true := decide_eq_true h1
  have e2 : decide (n ≤ b) = true := decide_eq_true h2
  clear h1 h2
  go_enter Try.func65, Try.ntmps65
  go_wp2_with fail
  go_ret
  exact ⟨rfl, rfl⟩
theorem inF (n a b : Int) (w : World) (h : n < a ∨ b < n) :
    Calls Try.prog 65 #[.int .i64 n, .int .i64 a, .int .i64 b] w fun e w' => e = .returned (.bool false) ∧ w = w' := by
  by_cases h1 : a ≤ n
  · have e1 : decide (a ≤ n) = true := decide_eq_true h1
    have e2 : decide (n ≤ b) = false := decide_eq_false (by omega)
    clear h1 h
    go_enter Try.func65, Try.ntmps65
    go_wp2_with fail
    go_ret
    exact ⟨rfl, rfl⟩
  · have e1 : decide (a ≤ n) = false := decide_eq_false h1
    clear h1 h
    go_enter Try.func65, Try.ntmps65
    go_wp2_with fail
    go_ret
    exact ⟨rfl, rfl⟩

set_option maxRecDepth 100000 in
set_option maxHeartbeats 4000000 in
theorem faultW (x : WA) (v : Wd) (W : World) (h : WIn W x v) :
    Calls Try.prog 120 #[wardV x v] W fun e w' => e = .returned (.int .i64 (wardF v)) ∧ Below W.heap.size W w' := by
  have HIN := Lib.hid h
  obtain ⟨r, hr⟩ : ∃ r, wardF v = r := ⟨_, rfl⟩
  rw [hr]
  have HR := Lib.hid hr
  have hc1 := h.c1
  have hc2 := h.c2
  have hd1 := h.d1
  have hd2 := h.d2
  clear h hr
  obtain ⟨A, c, B, d⟩ := x
  obtain ⟨how, most, win, ch, tm⟩ := v
  dsimp only at hc1 hc2 hd1 hd2
  unfold maxLen at hc2 hd2
  have HB0 := Lib.hid ((Below.refl W.heap.size W).alloc (Nat.le_refl _) (.cells #[.int .i64 how, .int .i64 most, .int .i64 win, .slice A ch.length c, .slice B tm.length d] 215))
  have HBX := Lib.hid (Box.new W 215 #[.int .i64 how, .int .i64 most, .int .i64 win, .slice A ch.length c, .slice B tm.length d])
  unfold wardV
  dsimp only
  by_cases t0 : how < 1 ∨ 3 < how
  · have HE := Lib.hid (show r = 1 by rw [← HR.out]; unfold wardF; dsimp only; rw [if_pos (by omega)])
    have I0 := fun w => Lib.hid (inF how 1 3 w t0)
    clear t0
    go_enter Try.func120, Try.ntmps120
    go_wp2_with fail
    refine (I0 _).out.mono ?_
    rintro e w3 ⟨rfl, rfl⟩
    go_wp2_with fail
    go_ret
    exact ⟨by rw [HE.out]; rfl, HB0.out⟩
  have I0 := fun w => Lib.hid (inT how 1 3 w (by omega))
  by_cases t1 : most < 0 ∨ 50 < most
  · have HE := Lib.hid (show r = 1 by rw [← HR.out]; unfold wardF; dsimp only; rw [if_pos (by omega)])
    have I1 := fun w => Lib.hid (inF most 0 50 w t1)
    clear t0 t1
    go_enter Try.func120, Try.ntmps120
    go_wp2_with fail
    refine (I0 _).out.mono ?_
    rintro e w3 ⟨rfl, rfl⟩
    go_wp2_with fail
    refine (I1 _).out.mono ?_
    rintro e w3 ⟨rfl, rfl⟩
    go_wp2_with fail
    go_ret
    exact ⟨by rw [HE.out]; rfl, HB0.out⟩
  have I1 := fun w => Lib.hid (inT most 0 50 w (by omega))
  by_cases t2 : win < 1 ∨ 1099511627776 < win
  · have HE := Lib.hid (show r = 1 by rw [← HR.out]; unfold wardF; dsimp only; rw [if_pos (by omega)])
    have I2 := fun w => Lib.hid (inF win 1 1099511627776 w t2)
    clear t0 t1 t2
    go_enter Try.func120, Try.ntmps120
    go_wp2_with fail
    refine (I0 _).out.mono ?_
    rintro e w3 ⟨rfl, rfl⟩
    go_wp2_with fail
    refine (I1 _).out.mono ?_
    rintro e w3 ⟨rfl, rfl⟩
    go_wp2_with fail
    refine (I2 _).out.mono ?_
    rintro e w3 ⟨rfl, rfl⟩
    go_wp2_with fail
    go_ret
    exact ⟨by rw [HE.out]; rfl, HB0.out⟩
  have I2 := fun w => Lib.hid (inT win 1 1099511627776 w (by omega))
  have HARG := Lib.hid (show ¬ ((how < 1 ∨ 3 < how) ∨ (most < 0 ∨ 50 < most) ∨ (win < 1 ∨ 1099511627776 < win)) by omega)
  clear t0 t1 t2
  by_cases l0 : 20 < ch.length
  · have m0a : decide ((20 : Int) < (ch.length : Int)) = true := decide_eq_true (by omega)
    have m0b : decide (20 < ch.length) = true := decide_eq_true l0
    have HE := Lib.hid (show r = 2 by rw [← HR.out]; unfold wardF; dsimp only; rw [if_neg HARG.out, if_pos (.inl l0)])
    clear l0
    go_enter Try.func120, Try.ntmps120
    go_wp2_with fail
    refine (I0 _).out.mono ?_
    rintro e w3 ⟨rfl, rfl⟩
    go_wp2_with fail
    refine (I1 _).out.mono ?_
    rintro e w3 ⟨rfl, rfl⟩
    go_wp2_with fail
    refine (I2 _).out.mono ?_
    rintro e w3 ⟨rfl, rfl⟩
    go_wp2_with fail
    go_ret
    exact ⟨by rw [HE.out]; rfl, HB0.out⟩
  have m0a : decide ((20 : Int) < (ch.length : Int)) = false := decide_eq_false (by omega)
  have m0b : decide (20 < ch.length) = false := decide_eq_false l0
  by_cases l1 : 50 < tm.length
  · have m1a : decide ((50 : Int) < (tm.length : Int)) = true := decide_eq_true (by omega)
    have m1b : decide (50 < tm.length) = true := decide_eq_true l1
    have HE := Lib.hid (show r = 2 by rw [← HR.out]; unfold wardF; dsimp only; rw [if_neg HARG.out, if_pos (.inr l1)])
    clear l0 l1
    go_enter Try.func120, Try.ntmps120
    go_wp2_with fail
    refine (I0 _).out.mono ?_
    rintro e w3 ⟨rfl, rfl⟩
    go_wp2_with fail
    refine (I1 _).out.mono ?_
    rintro e w3 ⟨rfl, rfl⟩
    go_wp2_with fail
    refine (I2 _).out.mono ?_
    rintro e w3 ⟨rfl, rfl⟩
    go_wp2_with fail
    go_ret
    exact ⟨by rw [HE.out]; rfl, HB0.out⟩
  have m1a : decide ((50 : Int) < (tm.length : Int)) = false := decide_eq_false (by omega)
  have m1b : decide (50 < tm.length) = false := decide_eq_false l1
  have HRR := Lib.hid (show r = if chF [] ch = 0 then tmF 0 tm else chF [] ch by rw [← HR.out]; unfold wardF; dsimp only; rw [if_neg HARG.out, if_neg (by omega)])
  have hl20 : ch.length ≤ 20 := by omega
  have hl50 : tm.length ≤ 50 := by omega
  clear l0 l1 HR HARG
  go_enter Try.func120, Try.ntmps120
  go_wp2_with fail
  refine (I0 _).out.mono ?_
  rintro e w3 ⟨rfl, rfl⟩
  go_wp2_with fail
  refine (I1 _).out.mono ?_
  rintro e w3 ⟨rfl, rfl⟩
  go_wp2_with fail
  refine (I2 _).out.mono ?_
  rintro e w3 ⟨rfl, rfl⟩
  go_wp2_with fail
  have HIN1 := Lib.hid (HIN.out.below ((Below.refl W.heap.size W).alloc (Nat.le_refl _) (.cells #[.int .i64 how, .int .i64 most, .int .i64 win, .slice A ch.length c, .slice B tm.length d] 215)))
  generalize hw1 : W.alloc (.cells #[.int .i64 how, .int .i64 most, .int .i64 win, .slice A ch.length c, .slice B tm.length d] 215) = w1 at *
  have hg1 : W.heap.size < w1.heap.size := HBX.out.lt
  clear hw1 m0a m0b m1a m1b I0 I1 I2
  go_loopg [39] ch.length (fun gk i wr => ∃ k : Nat, gk = ch.length - k ∧ k ≤ ch.length ∧ i = .int .i64 k ∧ chF [] ch = chF (ch.take k) (ch.drop k) ∧ Below w1.heap.size w1 wr)
  case atStart => exact ⟨0, by omega, by omega, rfl, rfl, Below.refl _ _⟩
  case round =>
    obtain ⟨k, hgk, hk, rfl, hF, hb⟩ := hrel
    have HK := Lib.hid hgk
    have HF := Lib.hid hF
    have HB := Lib.hid hb
    have HBW := Lib.hid (HB0.out.trans (hb.mono HB0.out.size))
    have HI := Lib.hid (HIN1.out.below hb)
    have HBX1 := Lib.hid (HBX.out.below hb hg1)
    have c3 := HBX1.out.cell 3
    simp only [List.getElem?_toArray, List.getElem?_cons_zero, List.getElem?_cons_succ] at c3
    have hws := hb.size
    have hgw : W.heap.size < wr.heap.size := by omega
    clear hgk hF hb
    by_cases hlt : k < ch.length
    · obtain ⟨b, o, hA, hbl, k0, k1, k2⟩ := (Row.wc HI.out.ch hlt (0, 0, false))
      dsimp only at hA
      subst hA
      have HD := Lib.hid (chF_drop (ch.take k) ch hlt)
      have HT := Lib.hid (take_getD ch (0, 0, false) hlt)
      generalize ch.getD k (0, 0, false) = y at *
      obtain ⟨y0, y1, y2⟩ := y
      dsimp only at k0 k1 k2
      by_cases u1 : y1 < 1 ∨ 3 < y1
      · have HE := Lib.hid (show chF [] ch = 1 by rw [HF.out, HD.out, if_pos u1])
        have HE2 := Lib.hid (show r = 1 by rw [HRR.out, HE.out]; rfl)
        have J := fun w => Lib.hid (inF y1 1 3 w u1)
        clear u1
        go_wp2_with fail
        refine (J _).out.mono ?_
        rintro e w3 ⟨rfl, rfl⟩
        go_wp2_with fail
        go_ret
        exact ⟨by rw [HE2.out]; rfl, HBW.out.alloc HBW.out.size _⟩
      have J := fun w => Lib.hid (inT y1 1 3 w (by omega))
      have HD2 := Lib.hid (show chF [] ch = if (ch.take k).any (isId y0) = true then 5 else chF (ch.take k ++ [(y0, y1, y2)]) (ch.drop (k + 1)) by rw [HF.out, HD.out, if_neg (by dsimp only; omega)])
      clear u1 HD
      have hkc : k ≤ c := by omega
      have HB2 := Lib.hid (HBW.out.alloc HBW.out.size (.cells #[.int .i64 y0, .int .i64 y1, .bool y2] 230))
      have HB3 := Lib.hid (HB.out.alloc hws (.cells #[.int .i64 y0, .int .i64 y1, .bool y2] 230))
      have hbd := Box.new wr 230 #[.int .i64 y0, .int .i64 y1, .bool y2]
      have HI2 := Lib.hid (HI.out.below ((Below.refl _ _).alloc (Nat.le_refl _) (.cells #[.int .i64 y0, .int .i64 y1, .bool y2] 230)))
      go_wp2_with fail
      refine (J _).out.mono ?_
      rintro e w3 ⟨rfl, rfl⟩
      have c3' := (HBX1.out.alloc (.cells #[.int .i64 y0, .int .i64 y1, .bool y2] 230)).cell 3
      simp only [List.getElem?_toArray, List.getElem?_cons_zero, List.getElem?_cons_succ] at c3'
      clear c3 k0 k1 k2
      generalize hgd : wr.heap.size = gd at *
      generalize wr.alloc (.cells #[.int .i64 y0, .int .i64 y1, .bool y2] 230) = w2 at *
      have HBD := Lib.hid hbd
      have hgd2 : gd < w2.heap.size := hbd.lt
      clear hgd hbd
      go_wp2_with fail
      go_loopg [53] k (fun gk i wq => ∃ j : Nat, gk = k - j ∧ j ≤ k ∧ i = .int .i64 j ∧ (ch.take j).any (isId y0) = false ∧ Below w2.heap.size w2 wq)
      case atStart => exact ⟨0, by omega, by omega, rfl, rfl, Below.refl _ _⟩
      case round =>
        obtain ⟨j, hgj, hj, rfl, hany, hbq⟩ := hrel
        have HJ := Lib.hid hgj
        have HANY := Lib.hid hany
        have HBQ := Lib.hid hbq
        have hqs := hbq.size
        have e0 := (HBD.out.below hbq hgd2).cell 0
        simp only [List.getElem?_toArray, List.getElem?_cons_zero] at e0
        have hgdq : gd < wr.heap.size := by omega
        clear hgj hany
        by_cases hjk : j < k
        · obtain ⟨b5, o5, hA5, hbl5, j0, j1, j2⟩ := (Row.wc ((HI2.out.ch).below hbq) (i := j) (by dsimp only; omega) (0, 0, false))
          dsimp only at hA5
          injection hA5 with hA5
          injection hA5 with hA6 hA7
          subst hA6 hA7
          have HTJ := Lib.hid (take_getD ch (0, 0, false) (show j < ch.length by omega))
          have HMEM := Lib.hid (show isId y0 (ch.getD j (0, 0, false)) = true → (ch.take k).any (isId y0) = true from fun h => by
            rw [List.any_eq_true]
            refine ⟨ch.getD j (0, 0, false), ?_, h⟩
            have h2 : (ch.take k)[j]? = some (ch.getD j (0, 0, false)) := by rw [List.getElem?_take, if_pos hjk]; exact getD_some _ (by omega)
            exact List.mem_of_getElem? h2)
          clear hbq
          generalize ch.getD j (0, 0, false) = z at *
          obtain ⟨z0, z1, z2⟩ := z
          dsimp only at j0 j1 j2
          by_cases heq : z0 = y0
          · have p1 : (z0 == y0) = true := by simpa using heq
            have HE := Lib.hid (show chF [] ch = 5 by rw [HD2.out, if_pos (HMEM.out (by simpa [isId] using heq))])
            have HE2 := Lib.hid (show r = 5 by rw [HRR.out, HE.out]; rfl)
            clear heq
            go_wp2_with fail
            go_ret
            exact ⟨by rw [HE2.out]; rfl, (HB2.out.trans (HBQ.out.mono HB2.out.size)).alloc (Nat.le_trans HB2.out.size hqs) _⟩
          · have p1 : (z0 == y0) = false := by simpa using heq
            have HN := Lib.hid (show (ch.take (j + 1)).any (isId y0) = false by rw [HTJ.out, List.any_append, HANY.out]; simpa [isId] using heq)
            clear heq
            go_wp2_with fail
            go_roundg (k - (j + 1))
            case measure => have := HJ.out; omega
            case rel => exact ⟨j + 1, rfl, by omega, by go_num, HN.out, HBQ.out.alloc hqs _⟩
        · obtain rfl : j = k := by omega
          have HE := Lib.hid (show chF [] ch = chF (ch.take (j + 1)) (ch.drop (j + 1)) by rw [HD2.out, HANY.out, if_neg (by decide), HT.out])
          clear hbq
          go_wp2_with fail
          go_roundg (ch.length - (j + 1))
          case measure => have := HK.out; omega
          case rel => exact ⟨j + 1, rfl, by omega, by go_num, HE.out, HB3.out.trans (HBQ.out.mono HB3.out.size)⟩
    · obtain rfl : k = ch.length := by omega
      have HE := Lib.hid (show chF [] ch = 0 by rw [HF.out, List.drop_length]; rfl)
      have HE2 := Lib.hid (show r = tmF 0 tm by rw [HRR.out, if_pos HE.out])
      have c4 := HBX1.out.cell 4
      simp only [List.getElem?_toArray, List.getElem?_cons_zero, List.getElem?_cons_succ] at c4
      go_wp2_with fail
      obtain ⟨wo, hwo⟩ : ∃ wo, wo = wr := ⟨_, rfl⟩
      subst hwo
      go_loopg [7, 67] tm.length (fun gk lv i wq => ∃ (k : Nat) (last : Int), gk = tm.length - k ∧ k ≤ tm.length ∧ i = .int .i64 k ∧ lv = .int .i64 last ∧ tmF 0 tm = tmF last (tm.drop k) ∧ wo = wq)
      case atStart => exact ⟨0, 0, by omega, by omega, rfl, rfl, rfl, rfl⟩
      case round =>
        obtain ⟨k, last, hgk, hk, rfl, rfl, hF, rfl⟩ := hrel
        have HK2 := Lib.hid hgk
        have HF2 := Lib.hid hF
        clear hgk hF
        by_cases hlt : k < tm.length
        · obtain ⟨b, o, hA, hbl, hcx⟩ := HI.out.tm.int hlt
          dsimp only at hA
          subst hA
          have HD := Lib.hid (tmF_drop last tm hlt)
          generalize tm.getD k 0 = t at *
          by_cases u1 : t < last ∨ 1099511627776 < t
          · have HE3 := Lib.hid (show r = 21 by rw [HE2.out, HF2.out, HD.out, if_pos u1])
            have J := fun w => Lib.hid (inF t last 1099511627776 w u1)
            clear u1
            go_wp2_with fail
            refine (J _).out.mono ?_
            rintro e w3 ⟨rfl, rfl⟩
            go_wp2_with fail
            go_ret
            exact ⟨by rw [HE3.out]; rfl, HBW.out⟩
          have J := fun w => Lib.hid (inT t last 1099511627776 w (by omega))
          have HE3 := Lib.hid (show tmF 0 tm = tmF t (tm.drop (k + 1)) by rw [HF2.out, HD.out, if_neg (by omega)])
          clear u1 HD
          go_wp2_with fail
          refine (J _).out.mono ?_
          rintro e w3 ⟨rfl, rfl⟩
          go_wp2_with fail
          go_roundg (tm.length - (k + 1))
          case measure => have := HK2.out; omega
          case rel => exact ⟨k + 1, t, rfl, by omega, by go_num, rfl, HE3.out, rfl⟩
        · have HE3 := Lib.hid (show r = 0 by rw [HE2.out, HF2.out, List.drop_eq_nil_of_le (by omega)]; rfl)
          go_wp2_with fail
          go_ret
          exact ⟨by rw [HE3.out]; rfl, HBW.out⟩
end Go.Proofs.Ytcmkkfpcdebfkaa
