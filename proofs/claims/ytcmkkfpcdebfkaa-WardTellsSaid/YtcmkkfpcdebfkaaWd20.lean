/-
  The reference's Fallen: where nothing follows.
-/
import Derived.Test.YtcmkkfpcdebfkaaWd19
import Derived.Deep.RegionHeld3
namespace Go.Proofs.Ytcmkkfpcdebfkaa
open Go.RowKit

set_option maxRecDepth 100000 in
set_option maxHeartbeats 8000000 in
theorem fallenR_quiet (x : WA) (v : Wd) (id : Int) (failed : Bool) (now : Int) (W : World) (i : Nat) (h : WIn W x v) (ho : FallOk v id now i) (hq : quietB (v.ch.getD i (0, 0, false)) failed = true) :
    Calls Try.prog 188 #[wardV x v, .int .i64 id, .bool failed, .int .i64 now] W (Fall2Post (⟨v.how, v.most, v.win, v.ch.set i (deadC (v.ch.getD i (0, 0, false))), v.tm⟩, pl0) W) := by
  obtain ⟨hw, hidx, hil, hlive, ht1, ht2⟩ := ho
  obtain ⟨_, HTM, h20, h50, hhow, hmost, hwin⟩ := wardF_zero hw
  have hlp := lastT_pos HTM
  have hn0 : 0 ≤ now := by omega
  obtain ⟨hfirst, hat⟩ := idxAt_first (isId id) (0, 0, false) v.ch 0 i (by rw [Nat.zero_add]; exact hidx)
  have HFI := Lib.hid hfirst
  have HAT := Lib.hid hat
  have HLI := Lib.hid hlive
  have HTR := Lib.hid (tm_range v.tm 0 (Int.le_refl _) HTM)
  have HIN := Lib.hid h
  have HQ := Lib.hid hq
  clear hw HTM hlp ht1 hidx hlive hfirst hat h hq
  obtain ⟨A, c, B, d⟩ := x
  obtain ⟨how, most, win, ch, tm⟩ := v
  have HD0 := Lib.hid (fn_start W #[.int .i64 how, .int .i64 most, .int .i64 win, .slice A ch.length c, .slice B tm.length d])
  have HI0 := Lib.hid (HIN.out.below HD0.out.bb)
  unfold wardV
  dsimp only at HQ HFI HAT HLI HTR HI0 HD0 hil h20 h50 hhow hmost hwin ⊢
  have hg : W.heap.size + 2 < (((W.alloc (.cells #[.int .i64 how, .int .i64 most, .int .i64 win, .slice A ch.length c, .slice B tm.length d] 215)).alloc (.cells zW 215)).alloc (.cells zP 220)).heap.size := HD0.out.lt
  go_enter Try.func188, Try.ntmps188
  go_upto_region 1 with fail
  generalize ((W.alloc (.cells #[.int .i64 how, .int .i64 most, .int .i64 win, .slice A ch.length c, .slice B tm.length d] 215)).alloc (.cells #[.int .i64 0, .int .i64 0, .int .i64 0, .slice none 0 0, .slice none 0 0] 215)).alloc (.cells #[.slice none 0 0, .slice none 0 0, .bool false] 220) = w1 at *
  have hc63 : c ≤ 9223372036854775807 := by have := HIN.out.c2; unfold maxLen at this; exact this
  have hd63 : d ≤ 9223372036854775807 := by have := HIN.out.d2; unfold maxLen at this; exact this
  go_cut [10] (fun v10 wx => ∃ (go : Nat) (A2 : Option Addr) (c2 : Nat), v10 = .pointer (some ⟨go, 0, none⟩) ∧ FnA W wx #[.int .i64 how, .int .i64 most, .int .i64 win, .slice A ch.length c, .slice B tm.length d] ∧ Box wx go 215 #[.int .i64 how, .int .i64 most, .int .i64 win, .slice A2 ch.length c2, .slice none 0 0] ∧ W.heap.size + 2 < go ∧ OwnAt wx (W.heap.size + 3) 230 3 A2 ch.length c2 (flat wcC ch))
  case first =>
    have hpos : 0 < ch.length := by omega
    have HRA := Lib.hid (show Row w1.drew w1.heap.size A (flat wcC ch) from HI0.out.ch)
    have HRB := Lib.hid (show Row (w1.alloc (.cells zW 215)).drew w1.heap.size A (flat wcC ch) from HI0.out.ch.below (B := w1.heap.size) (w' := (w1.alloc (.cells zW 215)).drew) (show Below w1.heap.size w1 (w1.alloc (.cells zW 215)).drew from below_drewN (n := 1) ((Below.refl _ _).alloc (Nat.le_refl _) _)))
    have hg3 : W.heap.size + 3 ≤ w1.drew.heap.size := hg
    have hg4 : W.heap.size + 3 ≤ (w1.alloc (.cells zW 215)).drew.heap.size := by rw [show (w1.alloc (.cells zW 215)).drew.heap.size = w1.heap.size + 1 by simp]; omega
    have HSK := Lib.hid (show ∀ w', Below w1.heap.size w1 w' → w'.cell? ⟨W.heap.size, 0, none⟩ = some (.int .i64 how) ∧ w'.cell? ⟨W.heap.size, 1, none⟩ = some (.int .i64 most) ∧ w'.cell? ⟨W.heap.size, 2, none⟩ = some (.int .i64 win) ∧ w'.cell? ⟨W.heap.size, 3, none⟩ = some (.slice A ch.length c) from fun w' h => by
      obtain ⟨e0, e1, e2, e3, e4⟩ := cells5 (HD0.out.bx.below h (by have := HD0.out.bx.lt; omega))
      exact ⟨e0, e1, e2, e3⟩)
    have HBD := Lib.hid (show Below w1.heap.size w1 (w1.alloc (.cells #[.int .i64 0, .int .i64 0, .int .i64 0, .slice none 0 0, .slice none 0 0] 215)).drew from below_drewN (n := 1) ((Below.refl _ _).alloc (Nat.le_refl _) _))
    have HBA := Lib.hid (fun w3 (h : Below w1.drew.heap.size w1.drew w3) => show Below w1.heap.size w1 w3 from (show Below w1.heap.size w1 w1.drew from below_drewN (Below.refl _ _) 1).trans h)
    have HBB := Lib.hid (fun w3 (h : Below (w1.alloc (.cells #[.int .i64 0, .int .i64 0, .int .i64 0, .slice none 0 0, .slice none 0 0] 215)).drew.heap.size (w1.alloc (.cells #[.int .i64 0, .int .i64 0, .int .i64 0, .slice none 0 0, .slice none 0 0] 215)).drew w3) => HBD.out.trans (h.mono (by simp)))
    go_region_held3 (fun w' => w'.cell? ⟨W.heap.size, 0, none⟩ = some (.int .i64 how) ∧ w'.cell? ⟨W.heap.size, 1, none⟩ = some (.int .i64 most) ∧ w'.cell? ⟨W.heap.size, 2, none⟩ = some (.int .i64 win) ∧ w'.cell? ⟨W.heap.size, 3, none⟩ = some (.slice A ch.length c))
      ((first
        | exact HSK.out _ (below_drewN (Below.refl _ _) 1)
        | exact HSK.out _ HBD.out
        | exact HSK.out _ hbk
        | exact HSK.out _ (hbk.alloc hbk.size _)
        | exact HSK.out _ (((((hbk.setCell (p := ⟨w1.heap.size, 0, none⟩) (Nat.le_refl _) _).setCell (p := ⟨w1.heap.size, 1, none⟩) (Nat.le_refl _) _).setCell (p := ⟨w1.heap.size, 2, none⟩) (Nat.le_refl _) _).setCell (p := ⟨w1.heap.size, 3, none⟩) (Nat.le_refl _) _).setCell (p := ⟨w1.heap.size, 4, none⟩) (Nat.le_refl _) _)
        | go_keep))
      ((first
        | (refine step_all_wc rfl (.const (.slice none 0 0)) (.tmp 29) rfl (W.heap.size + 3) rfl A c _ ch rfl HRA.out hpos h20 hg3 ?_; intro A3 c3 w3 hown3 hb3; have hbk := HBA.out _ hb3)
        | (refine step_all_wc rfl (.const (.slice none 0 0)) (.tmp 29) rfl (W.heap.size + 3) rfl A c _ ch rfl HRB.out hpos h20 hg4 ?_; intro A3 c3 w3 hown3 hb3; have hbk := HBB.out _ hb3; have hbz := (box_drew (Box.new w1 215 zW)).below hb3 (by simp); obtain ⟨y0, y1, y2, y3, y4⟩ := cells5 hbz; have z0 := hbz.frozen 0; have z1 := hbz.frozen 1; have z2 := hbz.frozen 2; have z3 := hbz.frozen 3; have z4 := hbz.frozen 4)))
    all_goals first
      | ((
        have hbn := (((((hbz.set 0 (.int .i64 how)).set 1 (.int .i64 most)).set 2 (.int .i64 win)).set 3 (.slice A3 ch.length c3)).set 4 (.slice none 0 0))
        simp only [List.setIfInBounds_toArray, List.set_cons_zero, List.set_cons_succ] at hbn
        have hb13 := hbk
        have hbw := (((((hb13.setCell (p := ⟨w1.heap.size, 0, none⟩) (Nat.le_refl _) (.int .i64 how)).setCell (p := ⟨w1.heap.size, 1, none⟩) (Nat.le_refl _) (.int .i64 most)).setCell (p := ⟨w1.heap.size, 2, none⟩) (Nat.le_refl _) (.int .i64 win)).setCell (p := ⟨w1.heap.size, 3, none⟩) (Nat.le_refl _) (.slice A3 ch.length c3)).setCell (p := ⟨w1.heap.size, 4, none⟩) (Nat.le_refl _) (.slice none 0 0))
        have hof := (((((hown3.far (p := ⟨w1.heap.size, 0, none⟩) (fun g o e e2 => ownW_ne hown3 hbz (by decide) (by rw [e, e2]; rfl)) (.int .i64 how)).far (p := ⟨w1.heap.size, 1, none⟩) (fun g o e e2 => ownW_ne hown3 hbz (by decide) (by rw [e, e2]; rfl)) (.int .i64 most)).far (p := ⟨w1.heap.size, 2, none⟩) (fun g o e e2 => ownW_ne hown3 hbz (by decide) (by rw [e, e2]; rfl)) (.int .i64 win)).far (p := ⟨w1.heap.size, 3, none⟩) (fun g o e e2 => ownW_ne hown3 hbz (by decide) (by rw [e, e2]; rfl)) (.slice A3 ch.length c3)).far (p := ⟨w1.heap.size, 4, none⟩) (fun g o e e2 => ownW_ne hown3 hbz (by decide) (by rw [e, e2]; rfl)) (.slice none 0 0))
        have HBN := Lib.hid hbn
        have HDN := Lib.hid (HD0.out.below hbw)
        have HOF := Lib.hid hof
        clear hb3 hbk hbn hbw hown3 hbz hof hb13 y0 y1 y2 y3 y4 z0 z1 z2 z3 z4
        go_wp2_with fail
        go_meet
        exact ⟨_, A3, c3, rfl, HDN.out, HBN.out, hg, HOF.out⟩))
      | ((
        have hbn := Box.new w3 215 #[.int .i64 how, .int .i64 most, .int .i64 win, .slice A3 ch.length c3, .slice none 0 0]
        have hbw := hbk.alloc hbk.size (.cells #[.int .i64 how, .int .i64 most, .int .i64 win, .slice A3 ch.length c3, .slice none 0 0] 215)
        have hof := hown3.alloc (.cells #[.int .i64 how, .int .i64 most, .int .i64 win, .slice A3 ch.length c3, .slice none 0 0] 215)
        have hsz := hbk.size
        have HBN := Lib.hid hbn
        have HDN := Lib.hid (HD0.out.below hbw)
        have HOF := Lib.hid hof
        clear hb3 hbk hbn hbw hown3 hof
        go_wp2_with fail
        go_meet
        exact ⟨_, A3, c3, rfl, HDN.out, HBN.out, Nat.lt_of_lt_of_le hg hsz, HOF.out⟩))
  case rest =>
    obtain ⟨go, A2, c2, rfl, hda, hbo, hgo, hoc⟩ := hcut
    have h0c : 0 < ch.length := by omega
    obtain ⟨gA, oA, rfl, hnc⟩ := hoc.some_of h0c
    have HDA := Lib.hid (hda.below (show Below wc.heap.size wc (wc.alloc (.cells #[.int .i64 0] 3)) from (Below.refl _ _).alloc (Nat.le_refl _) _))
    have HBO := Lib.hid (hbo.alloc (.cells #[.int .i64 0] 3))
    have HBI := Lib.hid (Box.new wc 3 #[.int .i64 0])
    have HOC := Lib.hid (hoc.alloc (.cells #[.int .i64 0] 3))
    have hgx : go < wc.heap.size := hbo.lt
    have hlx : W.heap.size + 2 < wc.heap.size := hda.lt
    have hgAx : gA < wc.heap.size := hoc.lt.2
    clear hda hbo hoc h0c hnc
    have hc263 : c2 ≤ 9223372036854775807 := by have := HOC.out.cap_le.2; unfold maxLen at this; exact this
    have hcc2 : ch.length ≤ c2 := HOC.out.cap_le.1
    obtain ⟨gi, hgi⟩ : ∃ gi, wc.heap.size = gi := ⟨_, rfl⟩
    go_wp2_with fail
    rw [hgi] at HBI hgx hlx hgAx
    have hsz : gi < (wc.alloc (.cells #[.int .i64 0] 3)).heap.size := by simp; omega
    generalize wc.alloc (.cells #[.int .i64 0] 3) = w1 at *
    clear hgi
    go_loopg [32] i (fun gk v32 wr => ∃ m : Nat, gk = i - m ∧ m ≤ i ∧ FnA W wr #[.int .i64 how, .int .i64 most, .int .i64 win, .slice A ch.length c, .slice B tm.length d] ∧ Box wr go 215 #[.int .i64 how, .int .i64 most, .int .i64 win, .slice (some ⟨gA, oA, none⟩) ch.length c2, .slice none 0 0] ∧ Box wr gi 3 #[.int .i64 (m : Int)] ∧ OwnAt wr (W.heap.size + 3) 230 3 (some ⟨gA, oA, none⟩) ch.length c2 (flat wcC ch))
    case atStart => exact ⟨0, rfl, by omega, HDA.out, HBO.out, HBI.out, HOC.out⟩
    case round =>
      clear HDA HBO HBI HOC hsz
      obtain ⟨m, hgk, hm, hda, hbo, hbi, hoc⟩ := hrel
      have hml : m < ch.length := by omega
      obtain ⟨y, hy⟩ : ∃ y, ch.getD m (0, 0, false) = y := ⟨_, rfl⟩
      have o3 := hbo.cell 3
      have i0 := hbi.cell 0
      simp only [List.getElem?_toArray, List.getElem?_cons_zero, List.getElem?_cons_succ] at o3 i0
      have k0 := hoc.cells (m * 3) _ (flat_get wcC_len (j := 0) (getD_some (0, 0, false) hml) rfl)
      rw [hy] at k0
      have fi := hbi.frozen 0
      have HDA := Lib.hid hda
      have HBO := Lib.hid hbo
      have HBI := Lib.hid hbi
      have HOC := Lib.hid hoc
      have HY := Lib.hid hy
      have HGK := Lib.hid hgk
      have m1 : (0 : Int) ≤ (m : Int) := by omega
      have m2 : (m : Int) < (ch.length : Int) := by omega
      clear hda hbo hbi hoc hy hgk
      rcases Nat.eq_or_lt_of_le hm with rfl | hlt
      · have HAT2 := Lib.hid (HAT.out)
        have ey : y.1 = id := by
          have := HAT.out
          rw [HY.out] at this
          exact eq_of_beq this
        have b1 : (y.1 != id) = false := by rw [ey]; simp
        have b2 : decide (y.1 = id) = true := decide_eq_true ey
        have HLI2 := Lib.hid (show y.2.2 = true by rw [← HY.out]; exact HLI.out)
        obtain ⟨y0, y1, y2⟩ := y
        obtain rfl : y2 = true := HLI2.out
        dsimp only at b1 b2 k0 ey
        clear ey HLI2
        have k1 := HOC.out.cells (m * 3 + 1) _ (flat_get wcC_len (j := 1) (getD_some (0, 0, false) hml) rfl)
        have k2 := HOC.out.cells (m * 3 + 2) _ (flat_get wcC_len (j := 2) (getD_some (0, 0, false) hml) rfl)
        rw [HY.out, ← Nat.add_assoc] at k1 k2
        have f2 := HOC.out.frozen (oA + m * 3 + 2)
        have HPUT := Lib.hid (own_put HOC.out hml false)
        have hgAr := HOC.out.lt
        go_upto_region 6 with fail
        have HPU := Lib.hid (show OwnAt (wr.setCell ⟨gA, oA + m * 3 + 2, none⟩ (.bool false)) (W.heap.size + 3) 230 3 (some ⟨gA, oA, none⟩) ch.length c2 (flat wcC (ch.set m (deadC (y0, y1, true)))) from by
          have := HPUT.out
          rw [HY.out, List.length_set] at this
          exact this)
        have hon : Only (fun x => x = gA) wr (wr.setCell ⟨gA, oA + m * 3 + 2, none⟩ (.bool false)) := (Only.refl (fun x => x = gA) wr).set (p := ⟨gA, oA + m * 3 + 2, none⟩) rfl _
        have HDA5 := Lib.hid (HDA.out.only hon (fun b hb => by have := own_min HOC.out gA rfl; omega))
        have HBO5 := Lib.hid (hon.box HBO.out (fun e => ownW_ne HOC.out HBO.out (by decide) (by rw [e]; rfl)))
        have HBI5 := Lib.hid (hon.box HBI.out (fun e => ownW_ne HOC.out HBI.out (by decide) (by rw [e]; rfl)))
        clear k0 k1 k2 f2 hon HPUT hgAr HDA HBO HBI HOC o3 i0 fi
        generalize wr.setCell ⟨gA, oA + m * 3 + 2, none⟩ (.bool false) = w5 at *
        have hlc : (ch.set m (deadC (y0, y1, true))).length = ch.length := List.length_set
        have HC1 := Lib.hid (show ch.set m (deadC (ch.getD m (0, 0, false))) = ch.set m (deadC (y0, y1, true)) by rw [HY.out])
        obtain ⟨c1, hc1⟩ : ∃ c1, ch.set m (deadC (y0, y1, true)) = c1 := ⟨_, rfl⟩
        have hat1 : c1.getD m (0, 0, false) = (y0, y1, false) := by rw [← hc1, List.getD_eq_getElem?_getD, List.getElem?_set_self hml]; rfl
        rw [hc1] at HPU HC1 hlc
        have HBP := Lib.hid (Box.new w5 220 zP)
        have hfw := FnW.mk (HDA5.out.below (show Below w5.heap.size w5 (w5.alloc (.cells zP 220)) from (Below.refl _ _).alloc (Nat.le_refl _) _)) (HBO5.out.alloc (.cells zP 220)) (HBI5.out.alloc (.cells zP 220)) HBP.out hgo hgx HBI5.out.lt
        have HFW := Lib.hid hfw
        have HC6 := Lib.hid (HPU.out.alloc (.cells zP 220))
        have k1 := HC6.out.cells (m * 3 + 1) _ (flat_get wcC_len (j := 1) (getD_some (0, 0, false) (by omega)) rfl)
        rw [hat1, ← Nat.add_assoc] at k1
        dsimp only at k1
        have HLC := Lib.hid hlc
        have HC1S := Lib.hid hc1
        clear hfw hc1 hlc hat1
        have hcl : ch.length = c1.length := HLC.out.symm
        obtain ⟨gp, hgp⟩ : ∃ gp, w5.heap.size = gp := ⟨_, rfl⟩
        go_upto_region 7 with fail
        rw [hgp] at HFW
        generalize w5.alloc (.cells #[.slice none 0 0, .slice none 0 0, .bool false] 220) = w6 at *
        clear HBP HPU HBO5 HBI5 HDA5 hgp hcl
        have o3 := HFW.out.bo.cell 3
        have i0 := HFW.out.bi.cell 0
        simp only [List.getElem?_toArray, List.getElem?_cons_zero, List.getElem?_cons_succ] at o3 i0
        go_upto_region 8 with fail
        clear k1 o3 i0
        rw [HY.out] at HQ
        go_cut [62] (fun v62 wx => v62 = .bool true ∧ w6 = wx)
        case first =>
          have hq := HQ.out
          unfold quietB at hq
          dsimp only at hq
          by_cases q3 : y1 = 3
          · have e1 : (y1 == 3) = true := by simpa using q3
            have e1' : decide (y1 = 3) = true := decide_eq_true q3
            clear hq q3
            go_wp2_with fail
            go_meet
            exact ⟨rfl, rfl⟩
          · have e1 : (y1 == 3) = false := by simpa using q3
            have e1' : decide (y1 = 3) = false := decide_eq_false q3
            rw [e1, Bool.false_or, Bool.and_eq_true] at hq
            obtain ⟨e2, e3⟩ := hq
            have e2' : decide (y1 = 2) = true := decide_eq_true (by simpa using e2)
            obtain rfl : failed = false := by simpa using e3
            clear e3 q3
            go_wp2_with fail
            go_meet
            exact ⟨rfl, rfl⟩
        case rest =>
          obtain ⟨rfl, rfl⟩ := hcut
          obtain ⟨k0, k1, k2, k3, k4⟩ := cells5 HFW.out.a.bx
          obtain ⟨o0, o1, o2, o3, o4⟩ := cells5 HFW.out.bo
          clear k0 k1 k2 k3 o0 o1 o2 o3
          have hbW := HFW.out.a.bb
          have HRB := Lib.hid ((HIN.out.tm.below hbW).more (Nat.le_refl _))
          have hd3 := HIN.out.d3
          dsimp only at HRB hd3
          have HD3 := Lib.hid hd3
          have hbs : W.heap.size + 3 ≤ w6.heap.size := by have := HFW.out.a.lt; omega
          have hg6 : go < w6.heap.size := HFW.out.bo.lt
          have HF4 := Lib.hid (fun w' (h : Below w6.heap.size w6 w') => And.intro ((cells5 (HFW.out.bo.below h hg6)).2.2.2.2) ((HFW.out.bo.below h hg6).frozen 4))
          clear hd3 hbW
          go_upto_region 10 with (at_builtin; refine wpList_all_ints rfl (.tmp 64) (.tmp 66) rfl (W.heap.size + 3) rfl B d _ tm rfl HRB.out HD3.out h50 hbs ?_; intro B3 d3 w7 hown7 hb7; obtain ⟨o4', f4⟩ := HF4.out w7 hb7)
          have HFW8 := Lib.hid (show FnW W (w7.setCell ⟨go, 4, none⟩ (.slice B3 tm.length d3)) go gi gp #[.int .i64 how, .int .i64 most, .int .i64 win, .slice A ch.length c, .slice B tm.length d] #[.int .i64 how, .int .i64 most, .int .i64 win, .slice (some ⟨gA, oA, none⟩) ch.length c2, .slice B3 tm.length d3] m zP from by
            have := (HFW.out.below hb7).setO 4 (.slice B3 tm.length d3)
            simpa using this)
          have HC8 := Lib.hid ((HC6.out.below hb7).far (p := ⟨go, 4, none⟩) (fun g o e e2 => ownW_ne HC6.out HFW.out.bo (by decide) (by rw [e, e2]; rfl)) (.slice B3 tm.length d3))
          have HT8 := Lib.hid (hown7.far (p := ⟨go, 4, none⟩) (fun g o e e2 => ownW_ne hown7 (HFW.out.bo.below hb7 hg6) (by decide) (by rw [e, e2]; rfl)) (.slice B3 tm.length d3))
          clear hown7 hb7 o4' f4 o4 k4 HF4 HRB HC6 HFW
          generalize w7.setCell ⟨go, 4, none⟩ (.slice B3 tm.length d3) = w8 at *
          obtain ⟨k0, k1, k2, k3, k4⟩ := cells5 HFW8.out.bo
          obtain ⟨r0, r1, r2, r3, r4, p0, p1, p2⟩ := HFW8.out.a.res
          obtain ⟨g0, g1, g2, g3, g4, q0, q1, q2⟩ := HFW8.out.a.fro
          have b0 := HFW8.out.bp.cell 0
          have b1 := HFW8.out.bp.cell 1
          have b2 := HFW8.out.bp.cell 2
          simp only [List.getElem?_toArray, List.getElem?_cons_zero, List.getElem?_cons_succ] at b0 b1 b2
          have HSR := Lib.hid ((setTwo_only W w8 (.int .i64 how) (.int .i64 most) (.int .i64 win) (.slice (some ⟨gA, oA, none⟩) ch.length c2) (.slice B3 tm.length d3) (.slice none 0 0) (.slice none 0 0) (.bool false)).drew)
          have HBB := Lib.hid (HSR.out.to_below HFW8.out.a.bb HFW8.out.a.bb.size (fun i hi => by omega))
          have HRL := Lib.hid (run_load_box (P := Try.prog) (box_drew (setTwo_br HFW8.out.a (.int .i64 how) (.int .i64 most) (.int .i64 win) (.slice (some ⟨gA, oA, none⟩) ch.length c2) (.slice B3 tm.length d3) (.slice none 0 0) (.slice none 0 0) (.bool false))) Try.underlying215 rfl (by rw [ward_info]; rfl))
          have HPL := Lib.hid (run_load_box (P := Try.prog) (box_drew (setTwo_bq HFW8.out.a (.int .i64 how) (.int .i64 most) (.int .i64 win) (.slice (some ⟨gA, oA, none⟩) ch.length c2) (.slice B3 tm.length d3) (.slice none 0 0) (.slice none 0 0) (.bool false))) Try.underlying220 rfl (by rw [plan_info]; rfl))
          have hgip := HFW8.out.o3
          have n1 : ¬ gp = W.heap.size + 1 := by omega
          have n2 : ¬ gp = W.heap.size + 1 + 1 := by omega
          have n3 : ¬ go = W.heap.size + 1 := by omega
          have n4 : ¬ go = W.heap.size + 1 + 1 := by omega
          have n5 : ¬ W.heap.size + 1 = gp := by omega
          have n6 : ¬ W.heap.size + 1 + 1 = gp := by omega
          have n7 : ¬ W.heap.size + 1 = go := by omega
          have n8 : ¬ W.heap.size + 1 + 1 = go := by omega
          go_region
          clear n1 n2 n3 n4 n5 n6 n7 n8 k0 k1 k2 k3 k4 r0 r1 r2 r3 r4 p0 p1 p2 g0 g1 g2 g3 g4 q0 q1 q2 b0 b1 b2
          go_wp2_with fail
          refine bodyPost_ret (v := .tuple #[.agg #[.int .i64 how, .int .i64 most, .int .i64 win, .slice (some ⟨gA, oA, none⟩) ch.length c2, .slice B3 tm.length d3], .agg zP]) (res_c2 Try.results188 rfl HRL.out rfl HPL.out) rfl ?_
          have HE : ((⟨how, most, win, ch.set m (deadC (ch.getD m (0, 0, false))), tm⟩ : Wd), pl0) = (⟨how, most, win, c1, tm⟩, pl0) := by rw [HC1.out]
          rw [HE]
          refine ⟨⟨some ⟨gA, oA, none⟩, c2, B3, d3⟩, ⟨none, 0, none, 0⟩, ?_, ⟨?_, ?_⟩, (fallen0 _ _).2, HBB.out⟩
          · unfold wardV planV
            dsimp only
            rw [HLC.out]
            rfl
          · dsimp only
            rw [HLC.out]
            exact (HC8.out.only HSR.out (fun b hb ht => by have := own_min HC8.out b hb; omega)).lower (by omega)
          · exact (HT8.out.only HSR.out (fun b hb ht => by have := own_min HT8.out b hb; omega)).lower (by omega)
      · have hb : (y.1 != id) = true := by
          have := HFI.out m hlt
          rw [HY.out] at this
          have h2 : y.1 ≠ id := by simpa [isId] using this
          simpa using h2
        have b2 : decide (y.1 = id) = false := by simpa using hb
        go_wp2_with fail
        go_roundg (i - (m + 1))
        case measure => have := HGK.out; omega
        case rel =>
          have hon : Only (fun x => x = gi) wr (wr.setCell ⟨gi, 0, none⟩ (.int .i64 ((m : Int) + 1))) := (Only.refl (fun x => x = gi) wr).set (p := ⟨gi, 0, none⟩) rfl _
          refine ⟨m + 1, rfl, hlt, HDA.out.only hon (fun b hb => by omega), hon.box HBO.out (by omega), ?_, HOC.out.only hon (fun b hb hb2 => by injection hb with hb; dsimp only at hb; omega)⟩
          have := HBI.out.set 0 (.int .i64 ((m : Int) + 1))
          simpa using this
end Go.Proofs.Ytcmkkfpcdebfkaa
