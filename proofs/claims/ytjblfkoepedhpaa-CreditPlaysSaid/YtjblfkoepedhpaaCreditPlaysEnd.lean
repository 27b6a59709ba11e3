/-
  The law CreditPlays: its walk and the statement.
-/
import Derived.Test.YtjblfkoepedhpaaCreditPlays
import Derived.Deep.CutBlock
namespace Go.Proofs.Ytjblfkoepedhpaa
open Go.ChangeShapes Go.WideShapes Go.ChangeAt Go.RowKit Go.Deep
set_option maxRecDepth 100000 in
set_option maxHeartbeats 4000000 in
theorem creditPlays_in (room : Int) (n : Nat) (A : Option Addr) (c : Nat) (xss : List (List Int)) (W : World) (hr : 1 ≤ room ∧ room ≤ 64) (hn : 1 ≤ n ∧ n ≤ 8) (hrows : IntRows W W.heap.size A xss) (hm : xss.length ≤ maxLen) :
    Calls Try.prog 11 #[.int .i64 room, .int .i64 n, .slice A xss.length c] W fun e w' => e = .returned (.bool true) ∧ Below W.heap.size W w' := by
  unfold maxLen at hm
  have HNO := Lib.hid (fun w => new_ok room n w hr hn)
  have hn0 := new_ok 1 2 W (by decide) (by decide)
  have HN0 := Lib.hid hn0
  clear hn0
  have d1 : decide (room < 1) = false := by simp; omega
  have d2 : decide (64 < room) = false := by simp; omega
  have d3 : decide ((n : Int) < 1) = false := by simp; omega
  have d3' : decide (n < 1) = false := by simp; omega
  have d4 : decide (8 < (n : Int)) = false := by simp; omega
  have d4' : decide (8 < n) = false := by simp; omega
  have hmk := run_made 94 97 Try.underlying94 arr3_info n hn.2
  go_enter Try.func11, Try.ntmps11
  go_wp2_with fail
  refine HN0.out.mono ?_
  rintro e w1 ⟨rfl, hx1, hb1⟩
  have hS : ∀ i, Two (W.heap.size + 1) W.heap.size i → W.heap.size ≤ i := fun i hi => by rcases hi with rfl | rfl <;> omega
  have HS := Lib.hid hS
  clear hS
  generalize hg : W.heap.size + 1 = g at *
  have HG := Lib.hid hg
  clear hg
  go_wp2_with fail
  refine (start_want g W.heap.size w1 hx1).mono ?_
  rintro e w2 ⟨rfl, hx2, ho2⟩
  have hb2 := ho2.to_below hb1 hb1.size HS.out
  go_wp2_with fail
  refine (start_use g W.heap.size w2 hx2).mono ?_
  rintro e w3 ⟨rfl, hx3, ho3⟩
  have hb3 := ho3.to_below hb2 hb2.size HS.out
  go_wp2_with fail
  refine (start_wait g W.heap.size w3 hx3).mono ?_
  rintro e w4 ⟨rfl, hx4, ho4⟩
  have hb4 := ho4.to_below hb3 hb3.size HS.out
  clear hx1 hb1 hx2 ho2 hb2 hx3 ho3 hb3 hx4 ho4
  go_wp2_with fail
  refine (HNO.out w4).mono ?_
  rintro e w5 ⟨rfl, hx5, hb5⟩
  have HT5 := Lib.hid (show Twins W room n (w4.heap.size + 1) w4.heap.size (w5.heap.size + 1) w5.heap.size 0 0 (zeros n) (zeros n) ((w5.alloc (.cells (flat laneC (zeros n)).toArray 97)).alloc (.cells #[.int .i64 room, .int .i64 0, .slice (some ⟨w5.heap.size, 0, none⟩) n n] 96)) from by
    have h1 := hb4.size
    have h2 := hx5.own.lt
    refine ⟨(hx5.alloc _).alloc _, ⟨?_, ?_, by omega⟩, ((hb4.trans (hb5.mono h1)).alloc (by omega) _).alloc (by simp; omega) _, ?_, zeros_len n, by omega, by omega, by omega, by omega, by omega, by omega, by omega, by omega⟩
    · rw [zeros_len]
      have := Box.new (w5.alloc (.cells (flat laneC (zeros n)).toArray 97)) 96 #[.int .i64 room, .int .i64 0, .slice (some ⟨w5.heap.size, 0, none⟩) n n]
      simpa using this
    · exact (Box.new w5 97 (flat laneC (zeros n)).toArray).alloc _
    · refine ⟨hr.1, hr.2, by rw [zeros_len]; exact hn.1, by rw [zeros_len]; exact hn.2, by rw [zeros_len]; exact hn.1, fun x hx => ?_, ?_⟩
      · simp [zeros] at hx
        rw [hx.2]
        decide
      · have : ∀ k, spent (zeros k) = 0 := fun k => by
          induction k with
          | zero => rfl
          | succ k ih => unfold zeros; rw [List.replicate_succ, spent_cons]; unfold zeros at ih; rw [ih]; rfl
        rw [this]
        omega)
  have HC5 := Lib.hid (show Calm room 0 (zeros n) from .inr (by
    have : ∀ m, nxt 0 (zeros n) m = -1 := fun m => by
      induction m with
      | zero => rfl
      | succ m ih =>
        unfold nxt
        rw [if_neg, ih]
        have : ∀ i, (zeros n).getD i (0, 0, 0) = (0, 0, 0) := fun i => by
          simp only [zeros, List.getD_eq_getElem?_getD, List.getElem?_replicate]
          split <;> rfl
        rw [this]
        decide
    unfold next
    rw [this]
    decide))
  have hb5' : Below W.heap.size W w5 := hb4.trans (hb5.mono hb4.size)
  go_wp2_with fail
  generalize w4.heap.size = lx at *
  generalize lx + 1 = gx at *
  generalize w5.heap.size + 1 = gm at *
  go_loopg [88] xss.length (fun m v wr => ∃ (k t : Nat) (L : List Lane), k ≤ xss.length ∧ m = xss.length - k ∧ v = .int .i64 k ∧ Twins W room n gx lx gm w5.heap.size t t L L wr ∧ Calm room t L)
  case atStart => exact ⟨0, 0, zeros n, by omega, rfl, rfl, HT5.out, HC5.out⟩
  case round =>
    generalize w5.heap.size = lm at *
    obtain ⟨k, t, L, hk, hmm, rfl, hT, hcalm⟩ := hrel
    have HMM := Lib.hid hmm
    have HCM := Lib.hid hcalm
    have HTW := Lib.hid hT
    clear hmm hcalm HT5 HC5 HNO hx5 hb5 hb5' hb4 HN0 hmk HS HG
    by_cases hlt : k < xss.length
    · obtain ⟨b, o, a', c', rfl, hc, hrow, hlen, _⟩ := (hrows.below hT.b).at hlt
      generalize xss.getD k [] = xs at *
      go_wp2_with fail
      refine (at_any a' xs.length c' xs 1 _ wr hrow rfl hlen (by decide)).mono ?_
      rintro e w6 ⟨rfl, rfl⟩
      rw [show (Int.toNat 1) = 1 from rfl]
      generalize xs.getD 1 0 = i at *
      go_wp2_with fail
      refine (at_any a' xs.length c' xs 2 _ wr hrow rfl hlen (by decide)).mono ?_
      rintro e w6 ⟨rfl, rfl⟩
      rw [show (Int.toNat 2) = 2 from rfl]
      generalize xs.getD 2 0 = q at *
      have HROW := Lib.hid hrow
      go_upto_region 14 with fail
      go_cut [16] (fun s wx => s = .bool (inB i n) ∧ wr = wx)
      case first =>
        by_cases h1 : 0 ≤ i
        · have e1 : decide (0 ≤ i) = true := by simp; omega
          by_cases h2 : i < n
          · have e2 : decide (i < (n : Int)) = true := by simp; omega
            have HD := Lib.hid (show inB i n = true by simp [inB]; omega)
            go_wp2_with fail
            go_meet
            exact ⟨by rw [HD.out], rfl⟩
          · have e2 : decide (i < (n : Int)) = false := by simp; omega
            have HD := Lib.hid (show inB i n = false by simp [inB]; omega)
            go_wp2_with fail
            go_meet
            exact ⟨by rw [HD.out], rfl⟩
        · have e1 : decide (0 ≤ i) = false := by simp; omega
          have HD := Lib.hid (show inB i n = false by simp [inB]; omega)
          go_wp2_with fail
          go_meet
          exact ⟨by rw [HD.out], rfl⟩
      case rest =>
        obtain ⟨rfl, rfl⟩ := hcut
        go_wp2_with fail
        refine (at_any a' xs.length c' xs 0 _ wr HROW.out rfl hlen (by decide)).mono ?_
        rintro e w6 ⟨rfl, rfl⟩
        rw [show (Int.toNat 0) = 0 from rfl]
        generalize xs.getD 0 0 = kd at *
        have HLEN := Lib.hid hT.len
        have HIS := Lib.hid (Eq.refl (inB i n))
        generalize hisq : inB i n = isq at *
        have HISQ := Lib.hid hisq
        clear hisq HIS
        go_upto_block 2 with fail
        go_cut [17, 18] (fun v17 v18 wx => ∃ er : Int, v17 = .int .i64 er ∧ v18 = .int .i64 er ∧ After W room n gx lx gm lm wx)
        case first =>
          have hfit := hT.fit
          have HSAME := Lib.hid (fun wz (h : Twins W room n gx lx gm lm t t L L wz) => show After W room n gx lx gm lm wz from ⟨t, L, by rw [calm_granted HCM.out]; exact h⟩)
          by_cases hi : 0 ≤ i ∧ i < n
          · obtain rfl : isq = true := by rw [← HISQ.out]; simp [inB]; omega
            obtain ⟨j, rfl⟩ := Int.eq_ofNat_of_zero_le hi.1
            have hj : j < L.length := by have := HLEN.out; omega
            have hjn : (j : Int) < (L.length : Int) := by omega
            have hj0 : (0 : Int) ≤ (j : Int) := by omega
            have hbd := hfit.bound hj
            clear hi
            by_cases k1 : kd = 1
            · subst k1
              by_cases hq : q < 1 ∨ 64 < q
              · as_aux_lemma =>
                go_wp2_with fail
                refine (want_arg gx lx room t L j q wr hT.x hfit hj hq).mono ?_
                rintro e w7 ⟨rfl, hx7, ho7⟩
                have hT2 := hT.play_x hx7 ho7
                by_cases hq1 : q < 1
                · have e1 : decide (1 ≤ q) = false := by simp; omega
                  go_wp2_with fail
                  go_meet
                  exact ⟨1, rfl, rfl, HSAME.out _ hT2⟩
                · have e1 : decide (1 ≤ q) = true := by simp; omega
                  have e2 : decide (q ≤ 64) = false := by simp; omega
                  clear hq
                  go_wp2_with fail
                  go_meet
                  exact ⟨1, rfl, rfl, HSAME.out _ hT2⟩
              · have e1 : decide (1 ≤ q) = true := by simp; omega
                have e2 : decide (q ≤ 64) = true := by simp; omega
                have hq1 : 1 ≤ q ∧ q ≤ 64 := by omega
                clear hq
                by_cases hs : (L.getD j (0, 0, 0)).1 + q ≤ 64
                · as_aux_lemma =>
                  go_wp2_with fail
                  refine (want_ok gx lx room t L j q wr hT.x hfit hj hq1 hs _ rfl).mono ?_
                  rintro e w7 ⟨rfl, hx7, ho7⟩
                  have hT2 := hT.play_x hx7 ho7
                  have c2m := hT2.m.c2
                  have l0m := hT2.m.l0 hj
                  have l1m := hT2.m.l1 hj
                  have l2m := hT2.m.l2 hj
                  have f0m := hT2.m.lanes.frozen (j * 3)
                  have f1m := hT2.m.lanes.frozen (j * 3 + 1)
                  have f2m := hT2.m.lanes.frozen (j * 3 + 2)
                  have hnem := hT2.m.ne
                  have hnem' : lm ≠ gm := fun e => hnem e.symm
                  have HP := Lib.hid (hT2.play_m ((hT2.m.drew).put (i := j) (j := 0) (.int .i64 ((L.getD j (0, 0, 0)).1 + q)) hj (by decide) ((L.getD j (0, 0, 0)).1 + q, (L.getD j (0, 0, 0)).2.1, (L.getD j (0, 0, 0)).2.2) rfl) (((Only.refl _ _).drew).set (p := ⟨lm, j * 3, none⟩) (.inr rfl) _) (hfit.set hj _ (by simp only; omega) (by simp only; omega)) (by rw [List.length_set]; exact HLEN.out))
                  generalize L.set j ((L.getD j (0, 0, 0)).1 + q, (L.getD j (0, 0, 0)).2.1, (L.getD j (0, 0, 0)).2.2) = L1 at *
                  generalize L.getD j (0, 0, 0) = x at *
                  go_wp2_with fail
                  go_region
                  go_wp2_with fail
                  go_meet
                  exact ⟨0, rfl, rfl, t, L1, HP.out⟩
                · as_aux_lemma =>
                  go_wp2_with fail
                  refine (want_full gx lx room t L j q wr hT.x hfit hj hq1 (by omega)).mono ?_
                  rintro e w7 ⟨rfl, hx7, ho7⟩
                  have hT2 := hT.play_x hx7 ho7
                  have c2m := hT2.m.c2
                  have l0m := hT2.m.l0 hj
                  have l1m := hT2.m.l1 hj
                  have l2m := hT2.m.l2 hj
                  have f0m := hT2.m.lanes.frozen (j * 3)
                  have f1m := hT2.m.lanes.frozen (j * 3 + 1)
                  have f2m := hT2.m.lanes.frozen (j * 3 + 2)
                  have hnem := hT2.m.ne
                  have hnem' : lm ≠ gm := fun e => hnem e.symm
                  have hs' : 64 < (L.getD j (0, 0, 0)).1 + q := by omega
                  clear hs
                  generalize L.getD j (0, 0, 0) = x at *
                  go_wp2_with fail
                  go_meet
                  exact ⟨6, rfl, rfl, HSAME.out _ hT2⟩
            have b1 : (kd == 1) = false := by simp [k1]
            by_cases k2 : kd = 2
            · subst k2
              by_cases hs : 0 < (L.getD j (0, 0, 0)).2.1
              · as_aux_lemma =>
                go_wp2_with fail
                refine (use_ok gx lx room t L j wr hT.x hfit hj hs _ rfl).mono ?_
                rintro e w7 ⟨rfl, hx7, ho7⟩
                have hT2 := hT.play_x hx7 ho7
                have c2m := hT2.m.c2
                have l0m := hT2.m.l0 hj
                have l1m := hT2.m.l1 hj
                have l2m := hT2.m.l2 hj
                have f0m := hT2.m.lanes.frozen (j * 3)
                have f1m := hT2.m.lanes.frozen (j * 3 + 1)
                have f2m := hT2.m.lanes.frozen (j * 3 + 2)
                have hnem := hT2.m.ne
                have hnem' : lm ≠ gm := fun e => hnem e.symm
                have HP := Lib.hid (hT2.play_m ((((hT2.m.drewN 2).put (i := j) (j := 1) (.int .i64 ((L.getD j (0, 0, 0)).2.1 - 1)) hj (by decide) ((L.getD j (0, 0, 0)).1, (L.getD j (0, 0, 0)).2.1 - 1, (L.getD j (0, 0, 0)).2.2) rfl)).put (i := j) (j := 2) (.int .i64 ((L.getD j (0, 0, 0)).2.2 + 1)) (by simpa using hj) (by decide) ((L.getD j (0, 0, 0)).1, (L.getD j (0, 0, 0)).2.1 - 1, (L.getD j (0, 0, 0)).2.2 + 1) (by simp [hj, laneC])) ((((Only.refl _ _).drewN 2).set (p := ⟨lm, j * 3 + 1, none⟩) (.inr rfl) _).set (p := ⟨lm, j * 3 + 2, none⟩) (.inr rfl) _) (by rw [List.set_set]; exact hfit.set hj _ (by simp only; omega) (by simp only; omega)) (by rw [List.length_set, List.length_set]; exact HLEN.out))
                rw [List.set_set] at HP
                have HCU := Lib.hid (calm_use (room := room) (t := t) hj ((L.getD j (0, 0, 0)).2.1 - 1) ((L.getD j (0, 0, 0)).2.2 + 1) (by omega) HCM.out)
                generalize L.set j ((L.getD j (0, 0, 0)).1, (L.getD j (0, 0, 0)).2.1 - 1, (L.getD j (0, 0, 0)).2.2 + 1) = L1 at *
                generalize L.getD j (0, 0, 0) = x at *
                go_wp2_with fail
                go_region
                go_wp2_with fail
                go_region
                go_wp2_with fail
                go_meet
                refine ⟨0, rfl, rfl, t, L1, ?_⟩
                rw [calm_granted HCU.out]
                exact HP.out
              · as_aux_lemma =>
                go_wp2_with fail
                refine (use_wait gx lx room t L j wr hT.x hfit hj (by omega)).mono ?_
                rintro e w7 ⟨rfl, hx7, ho7⟩
                have hT2 := hT.play_x hx7 ho7
                have c2m := hT2.m.c2
                have l0m := hT2.m.l0 hj
                have l1m := hT2.m.l1 hj
                have l2m := hT2.m.l2 hj
                have f0m := hT2.m.lanes.frozen (j * 3)
                have f1m := hT2.m.lanes.frozen (j * 3 + 1)
                have f2m := hT2.m.lanes.frozen (j * 3 + 2)
                have hnem := hT2.m.ne
                have hnem' : lm ≠ gm := fun e => hnem e.symm
                generalize L.getD j (0, 0, 0) = x at *
                go_wp2_with fail
                go_meet
                exact ⟨9, rfl, rfl, HSAME.out _ hT2⟩
            have b2 : (kd == 2) = false := by simp [k2]
            by_cases k3 : kd = 3
            · subst k3
              by_cases hs : 0 < (L.getD j (0, 0, 0)).2.2
              · as_aux_lemma =>
                go_wp2_with fail
                refine (free_ok gx lx room t L j wr hT.x hfit hj hs _ rfl).mono ?_
                rintro e w7 ⟨rfl, hx7, ho7⟩
                have hT2 := hT.play_x hx7 ho7
                have c2m := hT2.m.c2
                have l0m := hT2.m.l0 hj
                have l1m := hT2.m.l1 hj
                have l2m := hT2.m.l2 hj
                have f0m := hT2.m.lanes.frozen (j * 3)
                have f1m := hT2.m.lanes.frozen (j * 3 + 1)
                have f2m := hT2.m.lanes.frozen (j * 3 + 2)
                have hnem := hT2.m.ne
                have hnem' : lm ≠ gm := fun e => hnem e.symm
                have HP := Lib.hid (hT2.play_m ((hT2.m.drew).put (i := j) (j := 2) (.int .i64 ((L.getD j (0, 0, 0)).2.2 - 1)) hj (by decide) ((L.getD j (0, 0, 0)).1, (L.getD j (0, 0, 0)).2.1, (L.getD j (0, 0, 0)).2.2 - 1) rfl) (((Only.refl _ _).drew).set (p := ⟨lm, j * 3 + 2, none⟩) (.inr rfl) _) (hfit.set hj _ (by simp only; omega) (by simp only; omega)) (by rw [List.length_set]; exact HLEN.out))
                generalize L.set j ((L.getD j (0, 0, 0)).1, (L.getD j (0, 0, 0)).2.1, (L.getD j (0, 0, 0)).2.2 - 1) = L1 at *
                generalize L.getD j (0, 0, 0) = x at *
                go_wp2_with fail
                go_region
                go_wp2_with fail
                go_meet
                exact ⟨0, rfl, rfl, t, L1, HP.out⟩
              · as_aux_lemma =>
                go_wp2_with fail
                refine (free_state gx lx room t L j wr hT.x hfit hj (by omega)).mono ?_
                rintro e w7 ⟨rfl, hx7, ho7⟩
                have hT2 := hT.play_x hx7 ho7
                have c2m := hT2.m.c2
                have l0m := hT2.m.l0 hj
                have l1m := hT2.m.l1 hj
                have l2m := hT2.m.l2 hj
                have f0m := hT2.m.lanes.frozen (j * 3)
                have f1m := hT2.m.lanes.frozen (j * 3 + 1)
                have f2m := hT2.m.lanes.frozen (j * 3 + 2)
                have hnem := hT2.m.ne
                have hnem' : lm ≠ gm := fun e => hnem e.symm
                generalize L.getD j (0, 0, 0) = x at *
                go_wp2_with fail
                go_meet
                exact ⟨8, rfl, rfl, HSAME.out _ hT2⟩
            have b3 : (kd == 3) = false := by simp [k3]
            by_cases k4 : kd = 4
            · as_aux_lemma =>
              subst k4
              go_wp2_with fail
              refine (drop_ok gx lx room t L j wr hT.x hfit hj _ rfl).mono ?_
              rintro e w7 ⟨rfl, hx7, ho7⟩
              have hT2 := hT.play_x hx7 ho7
              have c2m := hT2.m.c2
              have l0m := hT2.m.l0 hj
              have l1m := hT2.m.l1 hj
              have l2m := hT2.m.l2 hj
              have f0m := hT2.m.lanes.frozen (j * 3)
              have f1m := hT2.m.lanes.frozen (j * 3 + 1)
              have f2m := hT2.m.lanes.frozen (j * 3 + 2)
              have hnem := hT2.m.ne
              have hnem' : lm ≠ gm := fun e => hnem e.symm
              have HP := Lib.hid (hT2.play_m (((hT2.m.put (i := j) (j := 0) (.int .i64 0) hj (by decide) (0, (L.getD j (0, 0, 0)).2.1, (L.getD j (0, 0, 0)).2.2) rfl).put (i := j) (j := 1) (.int .i64 0) (by simpa using hj) (by decide) (0, 0, (L.getD j (0, 0, 0)).2.2) (by simp [hj, laneC])).put (i := j) (j := 2) (.int .i64 0) (by simpa using hj) (by decide) (0, 0, 0) (by simp [hj, laneC])) ((((Only.refl _ _).set (p := ⟨lm, j * 3, none⟩) (.inr rfl) _).set (p := ⟨lm, j * 3 + 1, none⟩) (.inr rfl) _).set (p := ⟨lm, j * 3 + 2, none⟩) (.inr rfl) _) (by rw [List.set_set, List.set_set]; exact hfit.set hj _ (by simp) (by simp only; omega)) (by rw [List.length_set, List.length_set, List.length_set]; exact HLEN.out))
              rw [List.set_set, List.set_set] at HP
              generalize L.set j (0, 0, 0) = L1 at *
              generalize L.getD j (0, 0, 0) = x at *
              go_wp2_with fail
              go_meet
              exact ⟨0, rfl, rfl, t, L1, HP.out⟩
            · as_aux_lemma =>
              have b4 : (kd == 4) = false := by simp [k4]
              go_wp2_with fail
              go_meet
              exact ⟨0, rfl, rfl, HSAME.out _ hT⟩
          · obtain rfl : isq = false := by rw [← HISQ.out]; simp [inB]; omega
            have hi' : ¬ (0 ≤ i ∧ i < (L.length : Int)) := by have := HLEN.out; omega
            have HI := Lib.hid hi'
            clear hi hi'
            by_cases k1 : kd = 1
            · as_aux_lemma =>
              subst k1
              go_wp2_with fail
              refine (want_out gx lx room t L i q wr hT.x hfit HI.out).mono ?_
              rintro e w7 ⟨rfl, hx7, ho7⟩
              have hT2 := hT.play_x hx7 ho7
              go_wp2_with fail
              go_meet
              exact ⟨1, rfl, rfl, HSAME.out _ hT2⟩
            have b1 : (kd == 1) = false := by simp [k1]
            by_cases k2 : kd = 2
            · as_aux_lemma =>
              subst k2
              go_wp2_with fail
              refine (use_out gx lx room t L i wr hT.x hfit HI.out).mono ?_
              rintro e w7 ⟨rfl, hx7, ho7⟩
              have hT2 := hT.play_x hx7 ho7
              go_wp2_with fail
              go_meet
              exact ⟨1, rfl, rfl, HSAME.out _ hT2⟩
            have b2 : (kd == 2) = false := by simp [k2]
            by_cases k3 : kd = 3
            · as_aux_lemma =>
              subst k3
              go_wp2_with fail
              refine (free_out gx lx room t L i wr hT.x hfit HI.out).mono ?_
              rintro e w7 ⟨rfl, hx7, ho7⟩
              have hT2 := hT.play_x hx7 ho7
              go_wp2_with fail
              go_meet
              exact ⟨1, rfl, rfl, HSAME.out _ hT2⟩
            have b3 : (kd == 3) = false := by simp [k3]
            by_cases k4 : kd = 4
            · as_aux_lemma =>
              subst k4
              go_wp2_with fail
              refine (drop_out gx lx room t L i wr hT.x hfit HI.out).mono ?_
              rintro e w7 ⟨rfl, hx7, ho7⟩
              have hT2 := hT.play_x hx7 ho7
              go_wp2_with fail
              go_meet
              exact ⟨1, rfl, rfl, HSAME.out _ hT2⟩
            have b4 : (kd == 4) = false := by simp [k4]
            as_aux_lemma =>
              go_wp2_with fail
              go_meet
              exact ⟨0, rfl, rfl, HSAME.out _ hT⟩
        case rest =>
          obtain ⟨er, rfl, rfl, t0, L0, hA⟩ := hcut
          obtain ⟨gf1, gf2, gf3⟩ := granted_fit room _ t0 L0 hA.fit rfl
          have HSH := Lib.hid (share_m gm lm room t0 L0 wc hA.m hA.fit)
          have HAL := Lib.hid hA.len
          generalize (granted room t0 L0).1 = t1 at *
          generalize (granted room t0 L0).2 = L1 at *
          go_wp2_with fail
          refine HSH.out.mono ?_
          rintro e w8 ⟨rfl, hm8, ho8⟩
          have hT8 := hA.play_m hm8 ho8 gf1 (gf3.trans HAL.out)
          have HL1 := Lib.hid hT8.len
          clear gf3 HSH hm8 ho8 hA HTW hT
          go_wp2_with fail
          refine (left_x gx lx room t1 L1 w8 hT8.x gf1).mono ?_
          rintro e w9 ⟨rfl, hb9⟩
          have hT9 := hT8.below hb9
          go_wp2_with fail
          refine (left_m gm lm room t1 L1 w9 hT9.m gf1).mono ?_
          rintro e w10 ⟨rfl, hb10⟩
          have hT10 := hT9.below hb10
          clear hb9 hb10 hT8 hT9
          go_wp2_with fail
          have harr := arr_neq
          obtain ⟨gq, hgq⟩ : ∃ gq : Nat, gq = gk := ⟨_, rfl⟩
          go_loopg [19] (n + 2) (fun m v wz => ∃ j : Nat, j ≤ n + 2 ∧ m = n + 2 - j ∧ v = .int .i64 ((j : Int) - 1) ∧ Twins W room n gx lx gm lm t1 t1 L1 L1 wz)
          case atStart => exact ⟨0, by omega, rfl, rfl, hT10⟩
          case round =>
            obtain ⟨j, hj, hjm, rfl, hTz⟩ := hrel
            have HJM := Lib.hid hjm
            clear hjm
            have hn8 := hn.2
            by_cases hj0 : j = 0
            · subst hj0
              rw [show (((0 : Nat) : Int) - 1) = -1 by omega]
              have e0 : decide ((-1 : Int) ≤ (n : Int)) = true := decide_eq_true (by omega)
              go_wp2_with fail
              refine (lane_out gx lx room t1 L1 (-1) _ hTz.x gf1 (by omega)).mono ?_
              rintro e w12 ⟨rfl, nq, rfl⟩
              go_wp2_with fail
              go_roundg (n + 2 - 1)
              case measure =>
                have := HJM.out
                omega
              case rel => exact ⟨1, by omega, rfl, rfl, hTz.below (below_drewN (Below.refl _ _) nq)⟩
            · obtain ⟨j, rfl⟩ : ∃ i, j = i + 1 := ⟨j - 1, by omega⟩
              rw [show (((j + 1 : Nat) : Int) - 1) = (j : Int) by omega]
              have e1 : decide ((j : Int) < 0) = false := by simp
              by_cases hjn : j < n
              · have hjl : j < L1.length := by have := HL1.out; omega
                have e0 : decide ((j : Int) ≤ (n : Int)) = true := by simp; omega
                have e0' : decide (j ≤ n) = true := by simp; omega
                have e2 : ((j : Int) == (n : Int)) = false := by simp; omega
                have e2' : (j == n) = false := by simp; omega
                have hj1 : (j : Int) < (L1.length : Int) := by omega
                have hj2 : (0 : Int) ≤ (j : Int) := by omega
                have HLN := Lib.hid (lane_ok gx lx room t1 L1 j _ hTz.x gf1 hjl)
                have HXX := Lib.hid (fun wy (h : Twins W room n gx lx gm lm t1 t1 L1 L1 wy) => And.intro h.m.c2 (And.intro (h.m.l0 hjl) (And.intro (h.m.l1 hjl) (h.m.l2 hjl))))
                generalize L1.getD j (0, 0, 0) = x at *
                go_wp2_with fail
                refine HLN.out.mono ?_
                rintro e w12 ⟨rfl, hb12⟩
                have hT12 := hTz.below hb12
                obtain ⟨c2m, l0m, l1m, l2m⟩ := HXX.out _ hT12
                go_wp2_with fail
                go_roundg (n + 2 - (j + 1 + 1))
                case measure =>
                  have := HJM.out
                  omega
                case rel => exact ⟨j + 1 + 1, by omega, rfl, by congr 1; omega, hT12⟩
              · by_cases hjn2 : j = n
                · subst hjn2
                  have e0 : decide ((j : Int) ≤ (j : Int)) = true := by simp
                  go_wp2_with fail
                  refine (lane_out gx lx room t1 L1 j _ hTz.x gf1 (by have := HL1.out; omega)).mono ?_
                  rintro e w12 ⟨rfl, nq, rfl⟩
                  go_wp2_with fail
                  go_roundg (j + 2 - (j + 1 + 1))
                  case measure =>
                    have := HJM.out
                    omega
                  case rel => exact ⟨j + 1 + 1, by omega, rfl, by congr 1; omega, hTz.below (below_drewN (Below.refl _ _) nq)⟩
                · have e0 : decide ((j : Int) ≤ (n : Int)) = false := by simp; omega
                  have e0' : decide (j ≤ n) = false := by simp; omega
                  have HGQ := Lib.hid hgq
                  clear hgq
                  go_wp2_with fail
                  go_roundg (xss.length - (k + 1))
                  case measure =>
                    have := HMM.out
                    omega
                  case rel => exact ⟨k + 1, t1, L1, by omega, rfl, by go_num, hTz, gf2⟩
    · go_wp2_with fail
      go_ret
      exact ⟨rfl, hT.b⟩

set_option maxRecDepth 100000 in
theorem creditPlays_called : Called 11 Try.f11 := by
  intro H enc W base args ds p hval hA hsz
  rw [Try.params11] at hA hval
  obtain ⟨v0, v1, v2, d0, d1, d2, p0, p1, p2, rfl, rfl, rfl, h0, h1, h2⟩ := trodAll_three hA
  obtain ⟨room, rfl, rfl, rfl, w0⟩ := open_int Try.underlying3 (hval 0 3 v0 rfl rfl) h0
  obtain ⟨lanes, rfl, rfl, rfl, w1⟩ := open_int Try.underlying3 (hval 1 3 v1 rfl rfl) h1
  obtain ⟨A, c, xss, rfl, hr, hl, hm, _⟩ := open_intRows Try.underlying22 Try.underlying27 Try.underlying3 (by kernel_rfl) (by kernel_rfl) (hval 2 22 v2 rfl rfl) h2
  by_cases h : 1 ≤ room ∧ room ≤ 64 ∧ 1 ≤ lanes ∧ lanes ≤ 8
  · obtain ⟨n, rfl⟩ := Int.eq_ofNat_of_zero_le (show 0 ≤ lanes by omega)
    exact creditPlays_in room n A c xss W ⟨h.1, h.2.1⟩ (by omega) hr (by omega)
  · exact creditPlays_out room lanes _ W h

set_option maxRecDepth 100000 in
theorem creditPlays_lifted (os : Os) (started : os.Started) (H : Type) (enc : TypeId × Value → H) :
    ReturnsInHanded {} Try.checked os 11 .any (Rows.creditPlaysSpec.pre6 enc Try.prog Try.f11 Rows.creditPlaysRow.domain false) (Rows.creditPlaysSpec.post enc Try.prog Try.f11 false true false false) :=
  law_lift started (by kernel_rfl) Try.func11
    (ChangeSpec.witness6 (enc := enc) (C := Try.checked) false ⟨#[], #[.int .i64 0, .int .i64 0, .slice none 0 0], []⟩ 8 (by kernel_rfl) (by kernel_rfl) (by kernel_rfl) (by kernel_rfl))
    rfl rfl (by kernel_rfl) (by kernel_rfl) (fun l hl => by
      rw [Try.params11] at hl
      match l, hl with
      | [d0, d1, d2], _ => rfl) creditPlays_called

theorem creditPlays_over : Rows.creditPlaysRow.holds Try.pinned (OpenSpec.ofChange Rows.creditPlaysSpec) :=
  OpenClaim.holds_of_wide 11 Try.f11 rfl rfl rfl rfl rfl rfl rfl ⟨rfl, rfl, rfl, rfl, rfl⟩ rfl rfl rfl rfl rfl (by kernel_rfl) Try.func11 (by kernel_rfl)
    (of_decide_eq_true (by kernel_rfl)) (by unfold Func.isWrapper; first | (rw [if_pos (by decide +kernel)]; kernel_rfl) | (rw [if_neg (by decide +kernel)]; exact ⟨rfl, rfl⟩))
    (fun os started H enc _ => creditPlays_lifted os started H enc)

theorem creditPlays_holds : Rows.CreditPlaysSaid := creditPlays_over
end Go.Proofs.Ytjblfkoepedhpaa
