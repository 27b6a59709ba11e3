/-
  The reference's Fallen: where something follows.
-/
import Derived.Test.YtcmkkfpcdebfkaaWd20
import Derived.Deep.RegionHeld3
namespace Go.Proofs.Ytcmkkfpcdebfkaa
open Go.RowKit

/-- What Fallen hands back, by the rounds of its loops. -/
theorem fallV_rounds {v : Wd} {i : Nat} {failed : Bool} {now : Int} {c1 : List Ch} {kt stop start : List Int} {gv : Bool} (hi : i < v.ch.length) (hq : quietB (v.ch.getD i (0, 0, false)) failed = false) (hc : v.ch.set i (deadC (v.ch.getD i (0, 0, false))) = c1)
    (hk : kt = v.tm.filter (fun t => !decide (t ≤ now - v.win))) (hg : decide (v.most ≤ (kt.length : Int)) = gv) (hs : stopT (fun k => gv || touchB v.how i k) c1 v.ch.length = stop) (hr : stopT (fun k => !gv && touchB v.how i k) v.ch v.ch.length = start) :
    fallV v i failed now = (⟨v.how, v.most, v.win, tgtC gv v.ch c1, if gv = true then kt else kt ++ [now]⟩, stop, start.reverse, gv) := by
  have hl : c1.length = v.ch.length := by rw [← hc]; simp
  have hkk : keptT v now = kt := hk.symm
  unfold fallV childAt
  rw [hc, hkk]
  dsimp only
  rw [if_neg (by rw [hq]; decide)]
  cases gv with
  | true =>
    rw [if_pos (of_decide_eq_true hg), if_pos rfl, ← hs, ← hr]
    simp only [Bool.true_or, Bool.not_true, Bool.false_and]
    rw [stopT_none, ← hl, stopT_all]
    rfl
  | false =>
    rw [if_neg (of_decide_eq_false hg), if_neg (by decide), ← hs, ← hr]
    simp only [Bool.false_or, Bool.not_false, Bool.true_and]
    have h1 := stopT_rng v.how (l := c1) (i := i) (by omega)
    rw [hl] at h1
    have h2 := stopT_rng v.how (l := v.ch) (i := i) hi
    have e : (fun k => touchB v.how i k) = touchB v.how i := rfl
    rw [e, h1, h2, List.reverse_reverse]
    rfl
/-- Before the results are stored. -/
def FinC (W wx : World) (go gi gp : Nat) (cs : Array Value) (how most win : Int) (i : Nat) (A : Option Addr) (nA cA : Nat) (l : List Ch) (C : Option Addr) (kC : Nat) (stop : List Int) (E : Option Addr) (kE : Nat) (acc : List Int) (gv : Bool) (kn : List Int) : Prop :=
  ∃ B4 d4, FnW W wx go gi gp cs #[.int .i64 how, .int .i64 most, .int .i64 win, .slice A nA cA, .slice B4 kn.length d4] i #[.slice C stop.length kC, .slice E acc.length kE, .bool gv] ∧ OwnAt wx (W.heap.size + 3) 230 3 A l.length cA (flat wcC l) ∧ OwnAt wx (gp + 1) 3 1 B4 kn.length d4 (ints kn) ∧ OwnAt wx (gp + 1) 3 1 C stop.length kC (ints stop) ∧ OwnAt wx (gp + 1) 3 1 E acc.length kE (ints acc)
/-- After a child was stopped, or was not. -/
def MidC (W wx : World) (go gi gp bs : Nat) (cs co : Array Value) (i : Nat) (A : Option Addr) (cA : Nat) (l : List Ch) (_C : Option Addr) (_kC : Nat) (stop : List Int) (D : Option Addr) (kD : Nat) (start : List Int) (gv : Bool) (B : Option Addr) (kB : Nat) (keep : List Int) (s1 : Bool) (n : Nat) (y0 y1 : Int) : Prop :=
  ∃ C1 kC1, Lp W wx go gi gp bs cs co i A cA (if s1 = true then l.set n (y0, y1, false) else l) C1 kC1 (if s1 = true then stop ++ [y0] else stop) D kD start gv B kB keep
set_option maxRecDepth 100000 in
set_option maxHeartbeats 8000000 in
theorem fallenR_loud (x : WA) (v : Wd) (id : Int) (failed : Bool) (now : Int) (W : World) (i : Nat) (h : WIn W x v) (ho : FallOk v id now i) (hq : quietB (v.ch.getD i (0, 0, false)) failed = false) :
    Calls Try.prog 188 #[wardV x v, .int .i64 id, .bool failed, .int .i64 now] W (Fall2Post (fallV v i failed now) W) := by
  obtain ⟨hw, hidx, hil, hlive, ht1, ht2⟩ := ho
  obtain ⟨_, HTM, h20, h50, hhow, hmost, hwin⟩ := wardF_zero hw
  have hlp := lastT_pos HTM
  have hn0 : 0 ≤ now := by omega
  obtain ⟨hfirst, hat⟩ := idxAt_first (isId id) (0, 0, false) v.ch 0 i (by rw [Nat.zero_add]; exact hidx)
  have HFI := Lib.hid hfirst
  have HAT := Lib.hid hat
  have HLI := Lib.hid hlive
  have HTR := Lib.hid (tm_range v.tm 0 (Int.le_refl _) HTM)
  have HIN := Lib.hid h
  have HQ := Lib.hid hq
  clear hw HTM hlp ht1 hidx hlive hfirst hat h hq
  obtain ⟨A, c, B, d⟩ := x
  obtain ⟨how, most, win, ch, tm⟩ := v
  have HD0 := Lib.hid (fn_start W #[.int .i64 how, .int .i64 most, .int .i64 win, .slice A ch.length c, .slice B tm.length d])
  have HI0 := Lib.hid (HIN.out.below HD0.out.bb)
  unfold wardV
  dsimp only at HQ HFI HAT HLI HTR HI0 HD0 hil h20 h50 hhow hmost hwin ⊢
  have hg : W.heap.size + 2 < (((W.alloc (.cells #[.int .i64 how, .int .i64 most, .int .i64 win, .slice A ch.length c, .slice B tm.length d] 215)).alloc (.cells zW 215)).alloc (.cells zP 220)).heap.size := HD0.out.lt
  go_enter Try.func188, Try.ntmps188
  go_upto_region 1 with fail
  generalize ((W.alloc (.cells #[.int .i64 how, .int .i64 most, .int .i64 win, .slice A ch.length c, .slice B tm.length d] 215)).alloc (.cells #[.int .i64 0, .int .i64 0, .int .i64 0, .slice none 0 0, .slice none 0 0] 215)).alloc (.cells #[.slice none 0 0, .slice none 0 0, .bool false] 220) = w1 at *
  have hc63 : c ≤ 9223372036854775807 := by have := HIN.out.c2; unfold maxLen at this; exact this
  have hd63 : d ≤ 9223372036854775807 := by have := HIN.out.d2; unfold maxLen at this; exact this
  go_cut [10] (fun v10 wx => ∃ (go : Nat) (A2 : Option Addr) (c2 : Nat), v10 = .pointer (some ⟨go, 0, none⟩) ∧ FnA W wx #[.int .i64 how, .int .i64 most, .int .i64 win, .slice A ch.length c, .slice B tm.length d] ∧ Box wx go 215 #[.int .i64 how, .int .i64 most, .int .i64 win, .slice A2 ch.length c2, .slice none 0 0] ∧ W.heap.size + 2 < go ∧ OwnAt wx (W.heap.size + 3) 230 3 A2 ch.length c2 (flat wcC ch))
  case first =>
    have hpos : 0 < ch.length := by omega
    have HRA := Lib.hid (show Row w1.drew w1.heap.size A (flat wcC ch) from HI0.out.ch)
    have HRB := Lib.hid (show Row (w1.alloc (.cells zW 215)).drew w1.heap.size A (flat wcC ch) from HI0.out.ch.below (B := w1.heap.size) (w' := (w1.alloc (.cells zW 215)).drew) (show Below w1.heap.size w1 (w1.alloc (.cells zW 215)).drew from below_drewN (n := 1) ((Below.refl _ _).alloc (Nat.le_refl _) _)))
    have hg3 : W.heap.size + 3 ≤ w1.drew.heap.size := hg
    have hg4 : W.heap.size + 3 ≤ (w1.alloc (.cells zW 215)).drew.heap.size := by rw [show (w1.alloc (.cells zW 215)).drew.heap.size = w1.heap.size + 1 by simp]; omega
    have HSK := Lib.hid (show ∀ w', Below w1.heap.size w1 w' → w'.cell? ⟨W.heap.size, 0, none⟩ = some (.int .i64 how) ∧ w'.cell? ⟨W.heap.size, 1, none⟩ = some (.int .i64 most) ∧ w'.cell? ⟨W.heap.size, 2, none⟩ = some (.int .i64 win) ∧ w'.cell? ⟨W.heap.size, 3, none⟩ = some (.slice A ch.length c) from fun w' h => by
      obtain ⟨e0, e1, e2, e3, e4⟩ := cells5 (HD0.out.bx.below h (by have := HD0.out.bx.lt; omega))
      exact ⟨e0, e1, e2, e3⟩)
    have HBD := Lib.hid (show Below w1.heap.size w1 (w1.alloc (.cells #[.int .i64 0, .int .i64 0, .int .i64 0, .slice none 0 0, .slice none 0 0] 215)).drew from below_drewN (n := 1) ((Below.refl _ _).alloc (Nat.le_refl _) _))
    have HBA := Lib.hid (fun w3 (h : Below w1.drew.heap.size w1.drew w3) => show Below w1.heap.size w1 w3 from (show Below w1.heap.size w1 w1.drew from below_drewN (Below.refl _ _) 1).trans h)
    have HBB := Lib.hid (fun w3 (h : Below (w1.alloc (.cells #[.int .i64 0, .int .i64 0, .int .i64 0, .slice none 0 0, .slice none 0 0] 215)).drew.heap.size (w1.alloc (.cells #[.int .i64 0, .int .i64 0, .int .i64 0, .slice none 0 0, .slice none 0 0] 215)).drew w3) => HBD.out.trans (h.mono (by simp)))
    go_region_held3 (fun w' => w'.cell? ⟨W.heap.size, 0, none⟩ = some (.int .i64 how) ∧ w'.cell? ⟨W.heap.size, 1, none⟩ = some (.int .i64 most) ∧ w'.cell? ⟨W.heap.size, 2, none⟩ = some (.int .i64 win) ∧ w'.cell? ⟨W.heap.size, 3, none⟩ = some (.slice A ch.length c))
      ((first
        | exact HSK.out _ (below_drewN (Below.refl _ _) 1)
        | exact HSK.out _ HBD.out
        | exact HSK.out _ hbk
        | exact HSK.out _ (hbk.alloc hbk.size _)
        | exact HSK.out _ (((((hbk.setCell (p := ⟨w1.heap.size, 0, none⟩) (Nat.le_refl _) _).setCell (p := ⟨w1.heap.size, 1, none⟩) (Nat.le_refl _) _).setCell (p := ⟨w1.heap.size, 2, none⟩) (Nat.le_refl _) _).setCell (p := ⟨w1.heap.size, 3, none⟩) (Nat.le_refl _) _).setCell (p := ⟨w1.heap.size, 4, none⟩) (Nat.le_refl _) _)
        | go_keep))
      ((first
        | (refine step_all_wc rfl (.const (.slice none 0 0)) (.tmp 29) rfl (W.heap.size + 3) rfl A c _ ch rfl HRA.out hpos h20 hg3 ?_; intro A3 c3 w3 hown3 hb3; have hbk := HBA.out _ hb3)
        | (refine step_all_wc rfl (.const (.slice none 0 0)) (.tmp 29) rfl (W.heap.size + 3) rfl A c _ ch rfl HRB.out hpos h20 hg4 ?_; intro A3 c3 w3 hown3 hb3; have hbk := HBB.out _ hb3; have hbz := (box_drew (Box.new w1 215 zW)).below hb3 (by simp); obtain ⟨y0, y1, y2, y3, y4⟩ := cells5 hbz; have z0 := hbz.frozen 0; have z1 := hbz.frozen 1; have z2 := hbz.frozen 2; have z3 := hbz.frozen 3; have z4 := hbz.frozen 4)))
    all_goals first
      | ((
        have hbn := (((((hbz.set 0 (.int .i64 how)).set 1 (.int .i64 most)).set 2 (.int .i64 win)).set 3 (.slice A3 ch.length c3)).set 4 (.slice none 0 0))
        simp only [List.setIfInBounds_toArray, List.set_cons_zero, List.set_cons_succ] at hbn
        have hb13 := hbk
        have hbw := (((((hb13.setCell (p := ⟨w1.heap.size, 0, none⟩) (Nat.le_refl _) (.int .i64 how)).setCell (p := ⟨w1.heap.size, 1, none⟩) (Nat.le_refl _) (.int .i64 most)).setCell (p := ⟨w1.heap.size, 2, none⟩) (Nat.le_refl _) (.int .i64 win)).setCell (p := ⟨w1.heap.size, 3, none⟩) (Nat.le_refl _) (.slice A3 ch.length c3)).setCell (p := ⟨w1.heap.size, 4, none⟩) (Nat.le_refl _) (.slice none 0 0))
        have hof := (((((hown3.far (p := ⟨w1.heap.size, 0, none⟩) (fun g o e e2 => ownW_ne hown3 hbz (by decide) (by rw [e, e2]; rfl)) (.int .i64 how)).far (p := ⟨w1.heap.size, 1, none⟩) (fun g o e e2 => ownW_ne hown3 hbz (by decide) (by rw [e, e2]; rfl)) (.int .i64 most)).far (p := ⟨w1.heap.size, 2, none⟩) (fun g o e e2 => ownW_ne hown3 hbz (by decide) (by rw [e, e2]; rfl)) (.int .i64 win)).far (p := ⟨w1.heap.size, 3, none⟩) (fun g o e e2 => ownW_ne hown3 hbz (by decide) (by rw [e, e2]; rfl)) (.slice A3 ch.length c3)).far (p := ⟨w1.heap.size, 4, none⟩) (fun g o e e2 => ownW_ne hown3 hbz (by decide) (by rw [e, e2]; rfl)) (.slice none 0 0))
        have HBN := Lib.hid hbn
        have HDN := Lib.hid (HD0.out.below hbw)
        have HOF := Lib.hid hof
        clear hb3 hbk hbn hbw hown3 hbz hof hb13 y0 y1 y2 y3 y4 z0 z1 z2 z3 z4
        go_wp2_with fail
        go_meet
        exact ⟨_, A3, c3, rfl, HDN.out, HBN.out, hg, HOF.out⟩))
      | ((
        have hbn := Box.new w3 215 #[.int .i64 how, .int .i64 most, .int .i64 win, .slice A3 ch.length c3, .slice none 0 0]
        have hbw := hbk.alloc hbk.size (.cells #[.int .i64 how, .int .i64 most, .int .i64 win, .slice A3 ch.length c3, .slice none 0 0] 215)
        have hof := hown3.alloc (.cells #[.int .i64 how, .int .i64 most, .int .i64 win, .slice A3 ch.length c3, .slice none 0 0] 215)
        have hsz := hbk.size
        have HBN := Lib.hid hbn
        have HDN := Lib.hid (HD0.out.below hbw)
        have HOF := Lib.hid hof
        clear hb3 hbk hbn hbw hown3 hof
        go_wp2_with fail
        go_meet
        exact ⟨_, A3, c3, rfl, HDN.out, HBN.out, Nat.lt_of_lt_of_le hg hsz, HOF.out⟩))
  case rest =>
    obtain ⟨go, A2, c2, rfl, hda, hbo, hgo, hoc⟩ := hcut
    have h0c : 0 < ch.length := by omega
    obtain ⟨gA, oA, rfl, hnc⟩ := hoc.some_of h0c
    have HDA := Lib.hid (hda.below (show Below wc.heap.size wc (wc.alloc (.cells #[.int .i64 0] 3)) from (Below.refl _ _).alloc (Nat.le_refl _) _))
    have HBO := Lib.hid (hbo.alloc (.cells #[.int .i64 0] 3))
    have HBI := Lib.hid (Box.new wc 3 #[.int .i64 0])
    have HOC := Lib.hid (hoc.alloc (.cells #[.int .i64 0] 3))
    have hgx : go < wc.heap.size := hbo.lt
    have hlx : W.heap.size + 2 < wc.heap.size := hda.lt
    have hgAx : gA < wc.heap.size := hoc.lt.2
    clear hda hbo hoc h0c hnc
    have hc263 : c2 ≤ 9223372036854775807 := by have := HOC.out.cap_le.2; unfold maxLen at this; exact this
    have hcc2 : ch.length ≤ c2 := HOC.out.cap_le.1
    obtain ⟨gi, hgi⟩ : ∃ gi, wc.heap.size = gi := ⟨_, rfl⟩
    go_wp2_with fail
    rw [hgi] at HBI hgx hlx hgAx
    have hsz : gi < (wc.alloc (.cells #[.int .i64 0] 3)).heap.size := by simp; omega
    generalize wc.alloc (.cells #[.int .i64 0] 3) = w1 at *
    clear hgi
    go_loopg [32] i (fun gk v32 wr => ∃ m : Nat, gk = i - m ∧ m ≤ i ∧ FnA W wr #[.int .i64 how, .int .i64 most, .int .i64 win, .slice A ch.length c, .slice B tm.length d] ∧ Box wr go 215 #[.int .i64 how, .int .i64 most, .int .i64 win, .slice (some ⟨gA, oA, none⟩) ch.length c2, .slice none 0 0] ∧ Box wr gi 3 #[.int .i64 (m : Int)] ∧ OwnAt wr (W.heap.size + 3) 230 3 (some ⟨gA, oA, none⟩) ch.length c2 (flat wcC ch))
    case atStart => exact ⟨0, rfl, by omega, HDA.out, HBO.out, HBI.out, HOC.out⟩
    case round =>
      clear HDA HBO HBI HOC hsz
      obtain ⟨m, hgk, hm, hda, hbo, hbi, hoc⟩ := hrel
      have hml : m < ch.length := by omega
      obtain ⟨y, hy⟩ : ∃ y, ch.getD m (0, 0, false) = y := ⟨_, rfl⟩
      have o3 := hbo.cell 3
      have i0 := hbi.cell 0
      simp only [List.getElem?_toArray, List.getElem?_cons_zero, List.getElem?_cons_succ] at o3 i0
      have k0 := hoc.cells (m * 3) _ (flat_get wcC_len (j := 0) (getD_some (0, 0, false) hml) rfl)
      rw [hy] at k0
      have fi := hbi.frozen 0
      have HDA := Lib.hid hda
      have HBO := Lib.hid hbo
      have HBI := Lib.hid hbi
      have HOC := Lib.hid hoc
      have HY := Lib.hid hy
      have HGK := Lib.hid hgk
      have m1 : (0 : Int) ≤ (m : Int) := by omega
      have m2 : (m : Int) < (ch.length : Int) := by omega
      clear hda hbo hbi hoc hy hgk
      rcases Nat.eq_or_lt_of_le hm with rfl | hlt
      · have HAT2 := Lib.hid (HAT.out)
        have ey : y.1 = id := by
          have := HAT.out
          rw [HY.out] at this
          exact eq_of_beq this
        have b1 : (y.1 != id) = false := by rw [ey]; simp
        have b2 : decide (y.1 = id) = true := decide_eq_true ey
        have HLI2 := Lib.hid (show y.2.2 = true by rw [← HY.out]; exact HLI.out)
        obtain ⟨y0, y1, y2⟩ := y
        obtain rfl : y2 = true := HLI2.out
        dsimp only at b1 b2 k0 ey
        clear ey HLI2
        have k1 := HOC.out.cells (m * 3 + 1) _ (flat_get wcC_len (j := 1) (getD_some (0, 0, false) hml) rfl)
        have k2 := HOC.out.cells (m * 3 + 2) _ (flat_get wcC_len (j := 2) (getD_some (0, 0, false) hml) rfl)
        rw [HY.out, ← Nat.add_assoc] at k1 k2
        have f2 := HOC.out.frozen (oA + m * 3 + 2)
        have HPUT := Lib.hid (own_put HOC.out hml false)
        have hgAr := HOC.out.lt
        go_upto_region 6 with fail
        have HPU := Lib.hid (show OwnAt (wr.setCell ⟨gA, oA + m * 3 + 2, none⟩ (.bool false)) (W.heap.size + 3) 230 3 (some ⟨gA, oA, none⟩) ch.length c2 (flat wcC (ch.set m (deadC (y0, y1, true)))) from by
          have := HPUT.out
          rw [HY.out, List.length_set] at this
          exact this)
        have hon : Only (fun x => x = gA) wr (wr.setCell ⟨gA, oA + m * 3 + 2, none⟩ (.bool false)) := (Only.refl (fun x => x = gA) wr).set (p := ⟨gA, oA + m * 3 + 2, none⟩) rfl _
        have HDA5 := Lib.hid (HDA.out.only hon (fun b hb => by have := own_min HOC.out gA rfl; omega))
        have HBO5 := Lib.hid (hon.box HBO.out (fun e => ownW_ne HOC.out HBO.out (by decide) (by rw [e]; rfl)))
        have HBI5 := Lib.hid (hon.box HBI.out (fun e => ownW_ne HOC.out HBI.out (by decide) (by rw [e]; rfl)))
        clear k0 k1 k2 f2 hon HPUT hgAr HDA HBO HBI HOC o3 i0 fi
        generalize wr.setCell ⟨gA, oA + m * 3 + 2, none⟩ (.bool false) = w5 at *
        have hlc : (ch.set m (deadC (y0, y1, true))).length = ch.length := List.length_set
        have HC1 := Lib.hid (show ch.set m (deadC (ch.getD m (0, 0, false))) = ch.set m (deadC (y0, y1, true)) by rw [HY.out])
        obtain ⟨c1, hc1⟩ : ∃ c1, ch.set m (deadC (y0, y1, true)) = c1 := ⟨_, rfl⟩
        have hat1 : c1.getD m (0, 0, false) = (y0, y1, false) := by rw [← hc1, List.getD_eq_getElem?_getD, List.getElem?_set_self hml]; rfl
        rw [hc1] at HPU HC1 hlc
        have HBP := Lib.hid (Box.new w5 220 zP)
        have hfw := FnW.mk (HDA5.out.below (show Below w5.heap.size w5 (w5.alloc (.cells zP 220)) from (Below.refl _ _).alloc (Nat.le_refl _) _)) (HBO5.out.alloc (.cells zP 220)) (HBI5.out.alloc (.cells zP 220)) HBP.out hgo hgx HBI5.out.lt
        have HFW := Lib.hid hfw
        have HC6 := Lib.hid (HPU.out.alloc (.cells zP 220))
        have k1 := HC6.out.cells (m * 3 + 1) _ (flat_get wcC_len (j := 1) (getD_some (0, 0, false) (by omega)) rfl)
        rw [hat1, ← Nat.add_assoc] at k1
        dsimp only at k1
        have HLC := Lib.hid hlc
        have HC1S := Lib.hid hc1
        clear hfw hc1 hlc hat1
        have hcl : ch.length = c1.length := HLC.out.symm
        obtain ⟨gp, hgp⟩ : ∃ gp, w5.heap.size = gp := ⟨_, rfl⟩
        go_upto_region 7 with fail
        rw [hgp] at HFW
        generalize w5.alloc (.cells #[.slice none 0 0, .slice none 0 0, .bool false] 220) = w6 at *
        clear HBP HPU HBO5 HBI5 HDA5 hgp hcl
        have o3 := HFW.out.bo.cell 3
        have i0 := HFW.out.bi.cell 0
        simp only [List.getElem?_toArray, List.getElem?_cons_zero, List.getElem?_cons_succ] at o3 i0
        go_upto_region 8 with fail
        clear k1 o3 i0
        rw [HY.out] at HQ
        go_cut [62] (fun v62 wx => v62 = .bool false ∧ w6 = wx)
        case first =>
          have hq := HQ.out
          unfold quietB at hq
          dsimp only at hq
          rw [Bool.or_eq_false_iff] at hq
          obtain ⟨e1, e2⟩ := hq
          have e1' : decide (y1 = 3) = false := by simpa using e1
          by_cases q2 : y1 = 2
          · have e3 : (y1 == 2) = true := by simpa using q2
            have e3' : decide (y1 = 2) = true := decide_eq_true q2
            rw [e3, Bool.true_and] at e2
            obtain rfl : failed = true := by simpa using e2
            clear e2 q2
            go_wp2_with fail
            go_meet
            exact ⟨rfl, rfl⟩
          · have e3 : (y1 == 2) = false := by simpa using q2
            have e3' : decide (y1 = 2) = false := decide_eq_false q2
            clear e2 q2
            go_wp2_with fail
            go_meet
            exact ⟨rfl, rfl⟩
        case rest =>
          obtain ⟨rfl, rfl⟩ := hcut
          have k4 := (cells5 HFW.out.a.bx).2.2.2.2
          have HTM2 := Lib.hid HIN.out.tm
          dsimp only at HTM2
          go_wp2_with fail
          clear k4
          go_loopg [74] tm.length (fun gk v74 wr => ∃ (k : Nat) (B3 : Option Addr) (d3 : Nat) (kt : List Int), gk = tm.length - k ∧ k ≤ tm.length ∧ v74 = .int .i64 k ∧ kt.length ≤ k ∧ kt = (tm.take k).filter (fun t => !decide (t ≤ now - win)) ∧ FnW W wr go gi gp #[.int .i64 how, .int .i64 most, .int .i64 win, .slice A ch.length c, .slice B tm.length d] #[.int .i64 how, .int .i64 most, .int .i64 win, .slice (some ⟨gA, oA, none⟩) ch.length c2, .slice B3 kt.length d3] m zP ∧ OwnAt wr (gp + 1) 3 1 B3 kt.length d3 (ints kt) ∧ OwnAt wr (W.heap.size + 3) 230 3 (some ⟨gA, oA, none⟩) ch.length c2 (flat wcC c1))
          case atStart => exact ⟨0, none, 0, [], rfl, by omega, rfl, by simp, by simp, HFW.out, OwnAt.nil, HC6.out⟩
          case round =>
            clear HFW HC6
            obtain ⟨k, B3, d3, kt, hgk, hk, rfl, hkl, hkt, hfw, hot, hoc⟩ := hrel
            have HFW := Lib.hid hfw
            have HOT := Lib.hid hot
            have HOC := Lib.hid hoc
            have HGK := Lib.hid hgk
            have hcap := hot.cap_le
            have hd3 : d3 ≤ 9223372036854775807 := by have := hcap.2; unfold maxLen at this; exact this
            have hkd3 := hcap.1
            have hgpw : gp < wr.heap.size := hfw.bp.lt
            have hgow : go < wr.heap.size := hfw.bo.lt
            clear hcap
            rcases Nat.eq_or_lt_of_le hk with rfl | hlt
            · rw [List.take_of_length_le (Nat.le_refl _)] at hkt
              have HKT := Lib.hid hkt
              clear hkt hfw hot hoc hgk hk
              obtain ⟨gv, hgv⟩ : ∃ gv, decide (most ≤ (kt.length : Int)) = gv := ⟨_, rfl⟩
              have e1 : decide ((tm.length : Int) < (tm.length : Int)) = false := decide_eq_false (by omega)
              have e1' : decide (tm.length < tm.length) = false := decide_eq_false (by omega)
              have k1 := (cells5 HFW.out.a.bx).2.1
              have o4 := (cells5 HFW.out.bo).2.2.2.2
              have o3 := (cells5 HFW.out.bo).2.2.2.1
              have b2 := HFW.out.bp.cell 2
              have fb2 := HFW.out.bp.frozen 2
              simp only [List.getElem?_toArray, List.getElem?_cons_zero, List.getElem?_cons_succ] at b2
              have hkt50 : kt.length ≤ 50 := by omega
              have h0c : 0 < ch.length := by omega
              go_wp2_with fail
              have HGV := Lib.hid hgv
              have HFW11 := Lib.hid (show FnW W (wr.setCell ⟨gp, 2, none⟩ (.bool gv)) go gi gp #[.int .i64 how, .int .i64 most, .int .i64 win, .slice A ch.length c, .slice B tm.length d] #[.int .i64 how, .int .i64 most, .int .i64 win, .slice (some ⟨gA, oA, none⟩) ch.length c2, .slice B3 kt.length d3] m #[.slice none 0 0, .slice none 0 0, .bool gv] from by
                have := HFW.out.setP 2 (.bool gv)
                simpa using this)
              have HT11 := Lib.hid (HOT.out.far (p := ⟨gp, 2, none⟩) (fun g o e e2 => ownW_ne HOT.out HFW.out.bp (by decide) (by rw [e, e2]; rfl)) (.bool gv))
              have HC11 := Lib.hid (HOC.out.far (p := ⟨gp, 2, none⟩) (fun g o e e2 => ownW_ne HOC.out HFW.out.bp (by decide) (by rw [e, e2]; rfl)) (.bool gv))
              clear hgv k1 o4 o3 b2 fb2 HFW HOT HOC e1 e1' hgow
              have hgp11 : gp < (wr.setCell ⟨gp, 2, none⟩ (.bool gv)).heap.size := HFW11.out.bp.lt
              generalize wr.setCell ⟨gp, 2, none⟩ (.bool gv) = w11 at *
              clear hgpw HGK
              obtain ⟨bs, hbs⟩ : ∃ bs, w11.heap.size = bs := ⟨_, rfl⟩
              have HLP0 := Lib.hid (show Lp W w11 go gi gp bs #[.int .i64 how, .int .i64 most, .int .i64 win, .slice A ch.length c, .slice B tm.length d] #[.int .i64 how, .int .i64 most, .int .i64 win, .slice (some ⟨gA, oA, none⟩) ch.length c2, .slice B3 kt.length d3] m (some ⟨gA, oA, none⟩) c2 c1 none 0 [] none 0 [] gv B3 d3 kt from ⟨HFW11.out, by rw [HLC.out]; exact HC11.out, OwnAt.nil, OwnAt.nil, HT11.out, fun b hb => by simp at hb, fun b hb => by rw [← hbs]; exact own_max HT11.out b hb, by rw [← hbs]; exact hgp11⟩)
              have HBS := Lib.hid hbs
              have hbs3 : gp < bs := by rw [← hbs]; exact hgp11
              clear hbs hgp11 HFW11 HT11 HC11
              obtain ⟨TS, hTS⟩ : ∃ TS, stopT (fun k => gv || touchB how m k) c1 ch.length = TS := ⟨_, rfl⟩
              obtain ⟨TR, hTR⟩ : ∃ TR, stopT (fun k => !gv && touchB how m k) ch ch.length = TR := ⟨_, rfl⟩
              have HTS := Lib.hid hTS
              have HTR2 := Lib.hid hTR
              clear hTS hTR
              go_loopg [17, 18] ch.length (fun gk v17 v18 wr => ∃ (l : List Ch) (C : Option Addr) (kC : Nat) (stop : List Int) (D : Option Addr) (kD : Nat) (start : List Int) (iv : Int), gk ≤ ch.length ∧ iv = (gk : Int) - 1 ∧ v17 = .slice D start.length kD ∧ v18 = .int .i64 iv ∧ l.length = ch.length ∧ Lp W wr go gi gp bs #[.int .i64 how, .int .i64 most, .int .i64 win, .slice A ch.length c, .slice B tm.length d] #[.int .i64 how, .int .i64 most, .int .i64 win, .slice (some ⟨gA, oA, none⟩) ch.length c2, .slice B3 kt.length d3] m (some ⟨gA, oA, none⟩) c2 l C kC stop D kD start gv B3 d3 kt ∧ l = c1.take gk ++ (tgtC gv ch c1).drop gk ∧ stop ++ stopT (fun k => gv || touchB how m k) c1 gk = TS ∧ start ++ stopT (fun k => !gv && touchB how m k) ch gk = TR ∧ stop.length + gk ≤ ch.length ∧ start.length + gk ≤ ch.length ∧ bs ≤ wr.heap.size)
              case atStart => exact ⟨c1, none, 0, [], none, 0, [], _, Nat.le_refl _, rfl, rfl, rfl, HLC.out, HLP0.out, by rw [List.take_of_length_le (by rw [HLC.out]; exact Nat.le_refl _), List.drop_of_length_le (by rw [tgt_len HLC.out]; exact Nat.le_refl _), List.append_nil], HTS.out, HTR2.out, by simp, by simp, by rw [HBS.out]; exact Nat.le_refl _⟩
              case round =>
                obtain ⟨l, C, kC, stop, D, kD, start, iv, hgk, hiv, rfl, rfl, hll, hlp, hl0, hst, hsr, hcs, hcd, hbsr⟩ := hrel
                have HLP := Lib.hid hlp
                have HLL := Lib.hid hll
                have HL0 := Lib.hid hl0
                have HST := Lib.hid hst
                have HSR := Lib.hid hsr
                clear HLP0
                rcases Nat.eq_zero_or_pos gk with rfl | hpos
                · have d0 : decide ((0 : Int) ≤ iv) = false := decide_eq_false (by omega)
                  clear hiv hll hlp hl0 hst hsr
                  have HTG := Lib.hid (show l = tgtC gv ch c1 by have := HL0.out; rw [List.take_zero, List.nil_append, List.drop_zero] at this; exact this)
                  obtain rfl : stop = TS := by have := HST.out; rw [stopT, List.append_nil] at this; exact this
                  obtain rfl : start = TR := by have := HSR.out; rw [stopT, List.append_nil] at this; exact this
                  have hgpL : gp < wr.heap.size := HLP.out.fn.bp.lt
                  have hsl : start.length ≤ 20 := by omega
                  have hgo3 := HLP.out.fn.o3
                  have HKM := Lib.hid HLP.out.sr.cap_le
                  clear HL0 HST HSR hcs hcd hgk
                  go_wp2_with fail
                  obtain ⟨wL, hwL⟩ : ∃ wL, wL = wr := ⟨_, rfl⟩
                  subst hwL
                  go_loopg [21] start.length (fun gk v21 wq => ∃ (acc : List Int) (E : Option Addr) (kE : Nat) (iv : Int), gk ≤ start.length ∧ iv = (gk : Int) - 1 ∧ v21 = .int .i64 iv ∧ acc = (start.drop gk).reverse ∧ Box wq gp 220 #[.slice C stop.length kC, .slice E acc.length kE, .bool gv] ∧ OwnAt wq wL.heap.size 3 1 E acc.length kE (ints acc) ∧ Only (fun b => b = gp) wL wq)
                  case atStart => exact ⟨[], none, 0, _, Nat.le_refl _, rfl, rfl, by simp, HLP.out.fn.bp, OwnAt.nil, Only.refl _ _⟩
                  case round =>
                    obtain ⟨acc, E, kE, iv, hgk, hiv, rfl, hacc, hpx, hoe, hon⟩ := hrel
                    have HPX := Lib.hid hpx
                    have HOE := Lib.hid hoe
                    have HON := Lib.hid hon
                    have HAC := Lib.hid hacc
                    have hwLr : wL.heap.size ≤ wr.heap.size := hon.size
                    rcases Nat.eq_zero_or_pos gk with rfl | hpos
                    · have d0 : decide ((0 : Int) ≤ iv) = false := decide_eq_false (by omega)
                      have HFN := Lib.hid (show FnW W wr go gi gp #[.int .i64 how, .int .i64 most, .int .i64 win, .slice A ch.length c, .slice B tm.length d] #[.int .i64 how, .int .i64 most, .int .i64 win, .slice (some ⟨gA, oA, none⟩) ch.length c2, .slice B3 kt.length d3] m #[.slice C stop.length kC, .slice E acc.length kE, .bool gv] from ⟨HLP.out.fn.a.only hon (fun b hb => by have := HLP.out.fn.o1; have := HLP.out.fn.o2; omega), hon.box HLP.out.fn.bo (by have := HLP.out.fn.o2; omega), hon.box HLP.out.fn.bi (by omega), hpx, HLP.out.fn.o1, HLP.out.fn.o2, HLP.out.fn.o3⟩)
                      have HCH := Lib.hid (HLP.out.ch.only hon (fun b hb hb2 => by subst hb2; exact ownW_ne HLP.out.ch HLP.out.fn.bp (by decide) hb))
                      have HSTP := Lib.hid (HLP.out.st.only hon (fun b hb hb2 => by subst hb2; exact ownW_ne HLP.out.st HLP.out.fn.bp (by decide) hb))
                      have HTMP := Lib.hid (HLP.out.tm.only hon (fun b hb hb2 => by subst hb2; exact ownW_ne HLP.out.tm HLP.out.fn.bp (by decide) hb))
                      have HTBB := Lib.hid HLP.out.tb
                      have hbsL : bs ≤ wL.heap.size := hbsr
                      clear hpx hoe hon hacc hiv HLP HON HPX
                      have b2 := HFN.out.bp.cell 2
                      simp only [List.getElem?_toArray, List.getElem?_cons_zero, List.getElem?_cons_succ] at b2
                      go_upto_if 181 with fail
                      go_cut [182] (fun _ wx => FinC W wx go gi gp #[.int .i64 how, .int .i64 most, .int .i64 win, .slice A ch.length c, .slice B tm.length d] how most win m (some ⟨gA, oA, none⟩) ch.length c2 l C kC stop E kE acc gv (if gv = true then kt else kt ++ [now]))
                      case first =>
                        have hgpr : gp < wr.heap.size := HFN.out.bp.lt
                        have hgor : go < wr.heap.size := HFN.out.bo.lt
                        cases gv with
                        | true =>
                          go_wp2_with fail
                          go_meet
                          exact ⟨B3, d3, HFN.out, HCH.out, HTMP.out, HSTP.out.lower (by omega), HOE.out.lower (by omega)⟩
                        | false =>
                          have o4 := (cells5 HFN.out.bo).2.2.2.2
                          have HAL := Lib.hid (show Below wr.heap.size wr (wr.alloc (.cells #[.int .i64 now] 3)) from (Below.refl _ _).alloc (Nat.le_refl _) _)
                          have HOA := Lib.hid (HTMP.out.alloc (.cells #[.int .i64 now] 3))
                          have HYC := Lib.hid (show (wr.alloc (.cells #[.int .i64 now] 3)).cell? ⟨wr.heap.size, 0, none⟩ = some (.int .i64 now) from (Box.new wr 3 #[.int .i64 now]).cell 0)
                          have hbd : (kt.length + 1) * 8 ≤ 140737488355328 := by omega
                          have hbs4 : gp + 1 ≤ (wr.alloc (.cells #[.int .i64 now] 3)).heap.size := by simp; omega
                          have HF := Lib.hid (fun w' (h : Only (fun b => B3.map (·.block) = some b) (wr.alloc (.cells #[.int .i64 now] 3)) w') => (HFN.out.below HAL.out).only h (fun b hb => by have := own_min HOA.out b hb; omega))
                          have HF4 := Lib.hid (fun w' (h : Only (fun b => B3.map (·.block) = some b) (wr.alloc (.cells #[.int .i64 now] 3)) w') => And.intro ((cells5 (HF.out w' h).bo).2.2.2.2) ((HF.out w' h).bo.frozen 4))
                          go_upto_region 37 with (at_builtin; refine wpList_push_f rfl (.tmp 183) (.tmp 185) rfl (gp + 1) B3 d3 kt rfl HOA.out wr.heap.size now rfl HYC.out hbd hbs4 ?_; intro B4 d4 w2 hown2 ho2 hf2; obtain ⟨c4, f4⟩ := HF4.out w2 ho2)
                          go_meet
                          have hoo : Only (fun b => B3.map (·.block) = some b) wr w2 := ((Only.refl _ wr).alloc _).trans ho2
                          have hbo2 := (HF.out w2 ho2).bo
                          have hch2 := HCH.out.only hoo (fun b hb hb2 => own_apart HCH.out HTMP.out (by decide) b hb hb2)
                          have hst2 := HSTP.out.only hoo (fun b hb hb2 => by have := own_min HSTP.out b hb; have := HTBB.out b hb2; omega)
                          have hse2 := HOE.out.only hoo (fun b hb hb2 => by have := own_min HOE.out b hb; have := HTBB.out b hb2; omega)
                          refine ⟨B4, d4, ?_, hch2.far (p := ⟨go, 4, none⟩) (fun g o e e2 => ownW_ne hch2 hbo2 (by decide) (by rw [e, e2]; rfl)) _, ?_, (hst2.far (p := ⟨go, 4, none⟩) (fun g o e e2 => ownW_ne hst2 hbo2 (by decide) (by rw [e, e2]; rfl)) _).lower (by omega), (hse2.far (p := ⟨go, 4, none⟩) (fun g o e e2 => ownW_ne hse2 hbo2 (by decide) (by rw [e, e2]; rfl)) _).lower (by omega)⟩
                          · have := (HF.out w2 ho2).setO 4 (.slice B4 (kt.length + 1) d4)
                            rw [if_neg (by decide), List.length_append]
                            simpa using this
                          · rw [if_neg (by decide), List.length_append]
                            exact hown2.far (p := ⟨go, 4, none⟩) (fun g o e e2 => ownW_ne hown2 hbo2 (by decide) (by rw [e, e2]; rfl)) _
                      case rest =>
                        obtain ⟨B4, d4, hfn, hch, htm, hst, hse⟩ := hcut
                        obtain ⟨kn, hkn⟩ : ∃ kn, (if gv = true then kt else kt ++ [now]) = kn := ⟨_, rfl⟩
                        rw [hkn] at hfn htm
                        have HE := Lib.hid (show fallV ⟨how, most, win, ch, tm⟩ m failed now = (⟨how, most, win, l, kn⟩, stop, acc, gv) from by
                          have h1 := fallV_rounds (v := ⟨how, most, win, ch, tm⟩) (i := m) (failed := failed) (now := now) hml (by rw [HY.out]; exact HQ.out) (HC1.out) HKT.out HGV.out HTS.out HTR2.out
                          dsimp only at h1
                          rw [h1, HTG.out, hkn, HAC.out, List.drop_zero])
                        have hlt : l.length = ch.length := by rw [HTG.out]; exact tgt_len HLC.out
                        have HLT := Lib.hid hlt
                        have HFW8 := Lib.hid hfn
                        have HC8 := Lib.hid hch
                        have HT8 := Lib.hid htm
                        have HS8 := Lib.hid hst
                        have HE8 := Lib.hid hse
                        clear hfn hch htm hst hse hkn hlt b2
                        obtain ⟨w8, hw8⟩ : ∃ w8, w8 = wc := ⟨_, rfl⟩
                        subst hw8
                        have hw8o1 := HFW8.out.o1
                        have hw8o2 := HFW8.out.o2
                        obtain ⟨k0, k1, k2, k3, k4⟩ := cells5 HFW8.out.bo
                        obtain ⟨r0, r1, r2, r3, r4, p0, p1, p2⟩ := HFW8.out.a.res
                        obtain ⟨g0, g1, g2, g3, g4, q0, q1, q2⟩ := HFW8.out.a.fro
                        have b0 := HFW8.out.bp.cell 0
                        have b1 := HFW8.out.bp.cell 1
                        have b2 := HFW8.out.bp.cell 2
                        simp only [List.getElem?_toArray, List.getElem?_cons_zero, List.getElem?_cons_succ] at b0 b1 b2
                        have HSR := Lib.hid ((setTwo_only W w8 (.int .i64 how) (.int .i64 most) (.int .i64 win) (.slice (some ⟨gA, oA, none⟩) ch.length c2) (.slice B4 kn.length d4) (.slice C stop.length kC) (.slice E acc.length kE) (.bool gv)).drew)
                        have HBB := Lib.hid (HSR.out.to_below HFW8.out.a.bb HFW8.out.a.bb.size (fun i hi => by omega))
                        have HRL := Lib.hid (run_load_box (P := Try.prog) (box_drew (setTwo_br HFW8.out.a (.int .i64 how) (.int .i64 most) (.int .i64 win) (.slice (some ⟨gA, oA, none⟩) ch.length c2) (.slice B4 kn.length d4) (.slice C stop.length kC) (.slice E acc.length kE) (.bool gv))) Try.underlying215 rfl (by rw [ward_info]; rfl))
                        have HPL := Lib.hid (run_load_box (P := Try.prog) (box_drew (setTwo_bq HFW8.out.a (.int .i64 how) (.int .i64 most) (.int .i64 win) (.slice (some ⟨gA, oA, none⟩) ch.length c2) (.slice B4 kn.length d4) (.slice C stop.length kC) (.slice E acc.length kE) (.bool gv))) Try.underlying220 rfl (by rw [plan_info]; rfl))
                        have n1 : ¬ gp = W.heap.size + 1 := by omega
                        have n2 : ¬ gp = W.heap.size + 1 + 1 := by omega
                        have n3 : ¬ go = W.heap.size + 1 := by omega
                        have n4 : ¬ go = W.heap.size + 1 + 1 := by omega
                        have n5 : ¬ W.heap.size + 1 = gp := by omega
                        have n6 : ¬ W.heap.size + 1 + 1 = gp := by omega
                        have n7 : ¬ W.heap.size + 1 = go := by omega
                        have n8 : ¬ W.heap.size + 1 + 1 = go := by omega
                        go_wp2_with fail
                        go_region
                        clear n1 n2 n3 n4 n5 n6 n7 n8 k0 k1 k2 k3 k4 r0 r1 r2 r3 r4 p0 p1 p2 g0 g1 g2 g3 g4 q0 q1 q2 b0 b1 b2
                        go_wp2_with fail
                        refine bodyPost_ret (v := .tuple #[.agg #[.int .i64 how, .int .i64 most, .int .i64 win, .slice (some ⟨gA, oA, none⟩) ch.length c2, .slice B4 kn.length d4], .agg #[.slice C stop.length kC, .slice E acc.length kE, .bool gv]]) (res_c2 Try.results188 rfl HRL.out rfl HPL.out) rfl ?_
                        rw [HE.out]
                        refine ⟨⟨some ⟨gA, oA, none⟩, c2, B4, d4⟩, ⟨C, kC, E, kE⟩, ?_, ⟨?_, ?_⟩, ⟨?_, ?_⟩, HBB.out⟩
                        · unfold wardV planV
                          dsimp only
                          rw [HLT.out]
                        · exact (HC8.out.only HSR.out (fun b hb ht => by have := own_min HC8.out b hb; omega)).lower (by omega)
                        · exact (HT8.out.only HSR.out (fun b hb ht => by have := own_min HT8.out b hb; omega)).lower (by omega)
                        · exact (HS8.out.only HSR.out (fun b hb ht => by have := own_min HS8.out b hb; omega)).lower (by omega)
                        · exact (HE8.out.only HSR.out (fun b hb ht => by have := own_min HE8.out b hb; omega)).lower (by omega)
                    · obtain ⟨n, rfl⟩ : ∃ n, gk = n + 1 := ⟨gk - 1, by omega⟩
                      obtain rfl : iv = (n : Int) := by omega
                      have d0 : decide ((0 : Int) ≤ (n : Int)) = true := decide_eq_true (by omega)
                      have hns : n < start.length := by omega
                      have n0 : (0 : Int) ≤ (n : Int) := by omega
                      have n1 : (n : Int) < (start.length : Int) := by omega
                      have hal : acc.length ≤ 20 := by rw [hacc, List.length_reverse, List.length_drop]; omega
                      have hsr := HLP.out.sr.only hon (fun b hb hb2 => by subst hb2; exact ownW_ne HLP.out.sr HLP.out.fn.bp (by decide) hb)
                      obtain ⟨bD, oD, hD, hbD, ct⟩ := hsr.row.int hns
                      have HREV := Lib.hid (show acc ++ [start.getD n 0] = (start.drop n).reverse by rw [hacc, drop_getD start 0 hns, List.reverse_cons])
                      obtain ⟨z, hz⟩ : ∃ z, start.getD n 0 = z := ⟨_, rfl⟩
                      rw [hz] at ct HREV
                      have hkm1 := HKM.out.1
                      have hkm2 : kD ≤ 9223372036854775807 := by have := HKM.out.2; unfold maxLen at this; exact this
                      subst hD
                      have b1 := hpx.cell 1
                      simp only [List.getElem?_toArray, List.getElem?_cons_zero, List.getElem?_cons_succ] at b1
                      have fb1 := hpx.frozen 1
                      have hgpr : gp < wr.heap.size := hpx.lt
                      have HEA := Lib.hid (hoe.alloc (.cells #[.int .i64 z] 3)).drew
                      have HYC := Lib.hid (show (wr.alloc (.cells #[.int .i64 z] 3)).drew.cell? ⟨wr.heap.size, 0, none⟩ = some (.int .i64 z) from (box_drew (Box.new wr 3 #[.int .i64 z])).cell 0)
                      have hbd : (acc.length + 1) * 8 ≤ 140737488355328 := by omega
                      have hbs2 : wL.heap.size ≤ (wr.alloc (.cells #[.int .i64 z] 3)).drew.heap.size := by simp; omega
                      have HOO := Lib.hid (fun w' (h : Only (fun b => E.map (·.block) = some b) (wr.alloc (.cells #[.int .i64 z] 3)).drew w') => show Only (fun b => E.map (·.block) = some b) wr w' from ((Only.refl _ wr).alloc _).drew.trans h)
                      have HBX := Lib.hid (fun w' (h : Only (fun b => E.map (·.block) = some b) (wr.alloc (.cells #[.int .i64 z] 3)).drew w') => (HOO.out w' h).box HPX.out (fun e => ownW_ne HOE.out HPX.out (by decide) e))
                      have HCE := Lib.hid (fun w' (h : Only (fun b => E.map (·.block) = some b) (wr.alloc (.cells #[.int .i64 z] 3)).drew w') => show w'.cell? ⟨gp, 1, none⟩ = some (.slice E acc.length kE) ∧ w'.frozen? ⟨gp, 1, none⟩ = false from ⟨(HBX.out w' h).cell 1, (HBX.out w' h).frozen 1⟩)
                      clear hsr hpx hoe hon hacc hiv hz hpos
                      go_wp2_with fail
                      go_region_law ((refine step_push_w rfl (.tmp 171) (.tmp 176) rfl wL.heap.size E kE acc rfl HEA.out wr.heap.size z rfl HYC.out hbd hbs2 ?_; intro E2 kE2 w30 hown30 ho30; obtain ⟨c1', f1'⟩ := HCE.out w30 ho30))
                      all_goals
                        have HP := Lib.hid (show Box (w30.setCell ⟨gp, 1, none⟩ (.slice E2 (acc.length + 1) kE2)) gp 220 #[.slice C stop.length kC, .slice E2 (acc.length + 1) kE2, .bool gv] from by
                          have := (HBX.out w30 ho30).set 1 (.slice E2 (acc.length + 1) kE2)
                          simpa using this)
                        have HE2 := Lib.hid (hown30.far (p := ⟨gp, 1, none⟩) (fun g o e => by have := own_min hown30 g (by rw [e]; rfl); dsimp only; omega) (.slice E2 (acc.length + 1) kE2))
                        have HO2 := Lib.hid ((HON.out.fresh (HOO.out w30 ho30) (fun i hi => own_min HOE.out i hi)).set (p := ⟨gp, 1, none⟩) rfl (.slice E2 (acc.length + 1) kE2))
                        clear hown30 ho30 c1' f1' b1 fb1 ct
                        go_wp2_with fail
                        go_roundg n
                        case measure => omega
                        case rel => exact ⟨acc ++ [z], E2, kE2, (n : Int) - 1, by omega, rfl, rfl, HREV.out, by rw [List.length_append]; exact HP.out, by rw [List.length_append]; exact HE2.out, HO2.out⟩
                · obtain ⟨n, rfl⟩ : ∃ n, gk = n + 1 := ⟨gk - 1, by omega⟩
                  obtain rfl : iv = (n : Int) := by omega
                  have d0 : decide ((0 : Int) ≤ (n : Int)) = true := decide_eq_true (by omega)
                  have hnl : n < l.length := by omega
                  have hnc : n < ch.length := by omega
                  have n0 : (0 : Int) ≤ (n : Int) := by omega
                  have n1 : (n : Int) < (ch.length : Int) := by omega
                  have n20 : n < 20 := by omega
                  obtain ⟨y, hy⟩ : ∃ y, c1.getD n (0, 0, false) = y := ⟨_, rfl⟩
                  have hyl : l.getD n (0, 0, false) = y := by
                    rw [← hy, hl0, List.getD_eq_getElem?_getD, List.getElem?_append_left (by rw [List.length_take, HLC.out]; omega), List.getElem?_take, if_pos (by omega), List.getD_eq_getElem?_getD]
                  have k2 := hlp.ch.cells (n * 3 + 2) _ (flat_get wcC_len (j := 2) (getD_some (0, 0, false) hnl) rfl)
                  rw [hyl, ← Nat.add_assoc] at k2
                  have o3 := (cells5 hlp.fn.bo).2.2.2.1
                  have b2 := hlp.fn.bp.cell 2
                  have hi0 := hlp.fn.bi.cell 0
                  have hw0 := hlp.fn.a.bx.cell 0
                  simp only [List.getElem?_toArray, List.getElem?_cons_zero, List.getElem?_cons_succ] at b2 hi0 hw0
                  obtain ⟨s1, hs1⟩ : ∃ s1, stopB gv how m n y.2.2 = s1 := ⟨_, rfl⟩
                  obtain ⟨s2, hs2⟩ : ∃ s2, startB gv how m n y.2.2 = s2 := ⟨_, rfl⟩
                  have HRL := Lib.hid (fun l1 l2 h1 h2 => round_list (gv := gv) (how := how) hml HLI.out HC1.out hnc hy (l := l) (l1 := l1) (l2 := l2) hl0 h1 h2)
                  have HRS := Lib.hid (round_stop (gv := gv) (how := how) (i := m) hy hst)
                  have HRT := Lib.hid (round_start (gv := gv) (how := how) hml HLI.out HC1.out hy hsr)
                  rw [hs1, hs2] at HRL
                  rw [hs1] at HRS
                  rw [hs2] at HRT
                  have HYL := Lib.hid hyl
                  have HS1 := Lib.hid hs1
                  have HS2 := Lib.hid hs2
                  have HTC := Lib.hid (fun w hi hw => touch_any gi W.heap.size m n how w hi hw)
                  obtain ⟨tb, htb⟩ : ∃ tb, touchB how m n = tb := ⟨_, rfl⟩
                  have HTB := Lib.hid htb
                  rw [htb] at HTC
                  obtain ⟨y0, y1, y2⟩ := y
                  dsimp only at k2 HRL HRS HRT HS1 HS2
                  clear hiv hll hlp hl0 hst hsr hy hyl hs1 hs2 htb hgk hpos
                  go_upto_region 25 with fail
                  go_cut [124] (fun v wx => v = .bool s1 ∧ Below wr.heap.size wr wx)
                  case first =>
                    have hs1 := HS1.out
                    unfold stopB at hs1
                    rw [HTB.out] at hs1
                    have HI0 := Lib.hid hi0
                    have HW0 := Lib.hid hw0
                    clear hi0 hw0
                    cases y2 with
                    | false =>
                      obtain rfl : s1 = false := by rw [← hs1]; rfl
                      clear hs1
                      go_wp2_with fail
                      go_meet
                      exact ⟨rfl, Below.refl _ _⟩
                    | true =>
                      cases gv with
                      | true =>
                        obtain rfl : s1 = true := by rw [← hs1]; rfl
                        clear hs1
                        go_wp2_with fail
                        go_meet
                        exact ⟨rfl, Below.refl _ _⟩
                      | false =>
                        obtain rfl : s1 = tb := by rw [← hs1]; rfl
                        clear hs1
                        go_wp2_with fail
                        refine (HTC.out wr HI0.out HW0.out).mono ?_
                        rintro e wt ⟨rfl, hbt⟩
                        go_wp2_with fail
                        go_meet
                        exact ⟨rfl, hbt⟩
                  case rest =>
                    obtain ⟨rfl, hbq⟩ := hcut
                    obtain ⟨wa, hwa⟩ : ∃ wa, wa = wc := ⟨_, rfl⟩
                    subst hwa
                    have HLP1 := Lib.hid (HLP.out.below hbq)
                    have hbsa : bs ≤ wa.heap.size := Nat.le_trans hbsr hbq.size
                    clear k2 o3 b2 hi0 hw0 hbq HLP
                    go_upto_if 124 with fail
                    go_cut [125] (fun _ wx => MidC W wx go gi gp bs #[.int .i64 how, .int .i64 most, .int .i64 win, .slice A ch.length c, .slice B tm.length d] #[.int .i64 how, .int .i64 most, .int .i64 win, .slice (some ⟨gA, oA, none⟩) ch.length c2, .slice B3 kt.length d3] m (some ⟨gA, oA, none⟩) c2 l C kC stop D kD start gv B3 d3 kt s1 n y0 y1 ∧ bs ≤ wx.heap.size)
                    case first =>
                      cases s1 with
                      | false =>
                        go_wp2_with fail
                        go_meet
                        exact ⟨⟨C, kC, HLP1.out⟩, hbsa⟩
                      | true =>
                        have k0 := HLP1.out.ch.cells (n * 3) _ (flat_get wcC_len (j := 0) (getD_some (0, 0, false) hnl) rfl)
                        rw [HYL.out] at k0
                        dsimp only at k0
                        have b0 := HLP1.out.fn.bp.cell 0
                        have fb0 := HLP1.out.fn.bp.frozen 0
                        simp only [List.getElem?_toArray, List.getElem?_cons_zero] at b0
                        have hgpa : gp < wa.heap.size := HLP1.out.fn.bp.lt
                        have hgAa : gA < wa.heap.size := HLP1.out.ch.lt.2
                        have HSA := Lib.hid (HLP1.out.st.alloc (.cells #[.int .i64 y0] 3)).drew
                        have HYC := Lib.hid (show (wa.alloc (.cells #[.int .i64 y0] 3)).drew.cell? ⟨wa.heap.size, 0, none⟩ = some (.int .i64 y0) from (box_drew (Box.new wa 3 #[.int .i64 y0])).cell 0)
                        have hbd : (stop.length + 1) * 8 ≤ 140737488355328 := by omega
                        have hbs2 : bs ≤ (wa.alloc (.cells #[.int .i64 y0] 3)).drew.heap.size := by simp; omega
                        have HOO := Lib.hid (fun w' (h : Only (fun b => C.map (·.block) = some b) (wa.alloc (.cells #[.int .i64 y0] 3)).drew w') => show Only (fun b => C.map (·.block) = some b) wa w' from ((Only.refl _ wa).alloc _).drew.trans h)
                        have HPX := Lib.hid (fun w' (h : Only (fun b => C.map (·.block) = some b) (wa.alloc (.cells #[.int .i64 y0] 3)).drew w') => (HOO.out w' h).box HLP1.out.fn.bp (fun e => ownW_ne HLP1.out.st HLP1.out.fn.bp (by decide) e))
                        have HCE := Lib.hid (fun w' (h : Only (fun b => C.map (·.block) = some b) (wa.alloc (.cells #[.int .i64 y0] 3)).drew w') => show w'.cell? ⟨gp, 0, none⟩ = some (.slice C stop.length kC) ∧ w'.frozen? ⟨gp, 0, none⟩ = false from ⟨(HPX.out w' h).cell 0, (HPX.out w' h).frozen 0⟩)
                        go_wp2_with fail
                        go_region_law ((refine step_push_f rfl (.tmp 126) (.tmp 131) rfl bs C kC stop rfl HSA.out wa.heap.size y0 rfl HYC.out hbd hbs2 ?_; intro C2 kC2 w20 hown20 ho20 hf20; obtain ⟨c0', f0'⟩ := HCE.out w20 ho20))
                        all_goals
                          have HL2 := Lib.hid (HLP1.out.grewC hown20 (HOO.out w20 ho20) (fun b hb => by
                            rcases hf20 b hb with h | h
                            · exact .inl h
                            · exact .inr (Nat.le_trans (by simp) h)))
                          have hbs20 : bs ≤ (w20.setCell ⟨gp, 0, none⟩ (.slice C2 (stop.length + 1) kC2)).heap.size := by
                            have := (HOO.out w20 ho20).size
                            simp
                            omega
                          clear hown20 ho20 hf20 c0' f0' b0 fb0 k0 HSA HYC HOO HPX HCE hbs2
                          generalize w20.setCell ⟨gp, 0, none⟩ (.slice C2 (stop.length + 1) kC2) = w21 at *
                          have k2 := HL2.out.ch.cells (n * 3 + 2) _ (flat_get wcC_len (j := 2) (getD_some (0, 0, false) hnl) rfl)
                          have f2 := HL2.out.ch.frozen (oA + n * 3 + 2)
                          rw [HYL.out, ← Nat.add_assoc] at k2
                          dsimp only at k2
                          have HL3 := Lib.hid (HL2.out.put hnl false)
                          rw [HYL.out] at HL3
                          dsimp only at HL3
                          go_wp2_with fail
                          go_meet
                          exact ⟨⟨C2, kC2, HL3.out⟩, by simpa using hbs20⟩
                    case rest =>
                      obtain ⟨⟨C1, kC1, hlp2⟩, hbsb⟩ := hcut
                      obtain ⟨wb, hwb⟩ : ∃ wb, wb = wc := ⟨_, rfl⟩
                      subst hwb
                      obtain ⟨l1, hl1⟩ : ∃ l1, (if s1 = true then l.set n (y0, y1, false) else l) = l1 := ⟨_, rfl⟩
                      obtain ⟨stop1, hst1⟩ : ∃ stop1, (if s1 = true then stop ++ [y0] else stop) = stop1 := ⟨_, rfl⟩
                      rw [hl1, hst1] at hlp2
                      rw [hst1] at HRS
                      have hll1 : l1.length = ch.length := by rw [← hl1]; split <;> simp [HLL.out]
                      have hsl1 : stop1.length + n ≤ ch.length := by rw [← hst1]; split <;> (try simp only [List.length_append, List.length_cons, List.length_nil]) <;> omega
                      have hnl1 : n < l1.length := by omega
                      have hy1 : (l1.getD n (0, 0, false)).1 = y0 ∧ (l1.getD n (0, 0, false)).2.1 = y1 := by
                        rw [← hl1]
                        split
                        · rw [List.getD_eq_getElem?_getD, List.getElem?_set_self hnl]
                          exact ⟨rfl, rfl⟩
                        · rw [HYL.out]
                          exact ⟨rfl, rfl⟩
                      have HL1 := Lib.hid hl1
                      have HLL1 := Lib.hid hll1
                      have HY1 := Lib.hid hy1
                      have HLP2 := Lib.hid hlp2
                      have b2 := hlp2.fn.bp.cell 2
                      have hi0 := hlp2.fn.bi.cell 0
                      have hw0 := hlp2.fn.a.bx.cell 0
                      simp only [List.getElem?_toArray, List.getElem?_cons_zero, List.getElem?_cons_succ] at b2 hi0 hw0
                      clear hl1 hst1 hll1 hy1 hlp2 HLP1
                      go_upto_region 28 with fail
                      go_cut [152] (fun v wx => v = .bool s2 ∧ Below wb.heap.size wb wx)
                      case first =>
                        have hs2 := HS2.out
                        unfold startB at hs2
                        rw [HTB.out] at hs2
                        have HI0 := Lib.hid hi0
                        have HW0 := Lib.hid hw0
                        cases gv with
                        | true =>
                          obtain rfl : s2 = false := by rw [← hs2]; rfl
                          clear hs2 hi0 hw0
                          go_wp2_with fail
                          go_meet
                          exact ⟨rfl, Below.refl _ _⟩
                        | false =>
                          cases tb with
                          | false =>
                            obtain rfl : s2 = false := by rw [← hs2]; rfl
                            clear hs2 hi0 hw0
                            go_wp2_with fail
                            refine (HTC.out wb HI0.out HW0.out).mono ?_
                            rintro e wt ⟨rfl, hbt⟩
                            go_wp2_with fail
                            go_meet
                            exact ⟨rfl, hbt⟩
                          | true =>
                            cases y2 with
                            | true =>
                              obtain rfl : s2 = true := by rw [← hs2]; rfl
                              clear hs2 hi0 hw0
                              go_wp2_with fail
                              refine (HTC.out wb HI0.out HW0.out).mono ?_
                              rintro e wt ⟨rfl, hbt⟩
                              go_wp2_with fail
                              go_meet
                              exact ⟨rfl, hbt⟩
                            | false =>
                              have hgib := HLP2.out.fn.bi.lt
                              by_cases hnm : n = m
                              · subst hnm
                                obtain rfl : s2 = true := by rw [← hs2]; simp
                                clear hs2 hi0 hw0
                                go_wp2_with fail
                                refine (HTC.out wb HI0.out HW0.out).mono ?_
                                rintro e wt ⟨rfl, hbt⟩
                                have hi1 := (hbt.cell (p := ⟨gi, 0, none⟩) hgib).trans HI0.out
                                go_wp2_with fail
                                go_meet
                                exact ⟨rfl, hbt⟩
                              · have i2 : (n == m) = false := by simpa using hnm
                                have i1 : ((n : Int) == (m : Int)) = false := beq_eq_false_iff_ne.2 (by omega)
                                have i3 : decide ((n : Int) = (m : Int)) = false := decide_eq_false (by omega)
                                have i4 : decide (n = m) = false := decide_eq_false hnm
                                obtain rfl : s2 = false := by rw [← hs2, i2]; rfl
                                clear hs2 hi0 hw0 hnm
                                go_wp2_with fail
                                refine (HTC.out wb HI0.out HW0.out).mono ?_
                                rintro e wt ⟨rfl, hbt⟩
                                have hi1 := (hbt.cell (p := ⟨gi, 0, none⟩) hgib).trans HI0.out
                                go_wp2_with fail
                                go_meet
                                exact ⟨rfl, hbt⟩
                      case rest =>
                        obtain ⟨rfl, hbq⟩ := hcut
                        obtain ⟨wd, hwd⟩ : ∃ wd, wd = wc := ⟨_, rfl⟩
                        subst hwd
                        have HLP3 := Lib.hid (HLP2.out.below hbq)
                        have hbsd : bs ≤ wd.heap.size := Nat.le_trans hbsb hbq.size
                        clear b2 hi0 hw0 hbq HLP2
                        go_upto_if 152 with fail
                        cases s2 with
                        | false =>
                          have HR := Lib.hid (HRL.out l1 l1 HL1.out.symm (by rw [if_neg (by decide)]))
                          have HRT2 := Lib.hid HRT.out
                          rw [if_neg (by decide)] at HRT2
                          go_wp2_with fail
                          go_roundg n
                          case measure => omega
                          case rel => exact ⟨l1, C1, kC1, stop1, D, kD, start, (n : Int) - 1, by omega, rfl, rfl, rfl, HLL1.out, HLP3.out, HR.out, HRS.out, HRT2.out, hsl1, by omega, hbsd⟩
                        | true =>
                          have HR := Lib.hid (HRL.out l1 (l1.set n (y0, y1, true)) HL1.out.symm (by rw [if_pos rfl]))
                          have HRT2 := Lib.hid HRT.out
                          rw [if_pos rfl] at HRT2
                          have k0 := HLP3.out.ch.cells (n * 3) _ (flat_get wcC_len (j := 0) (getD_some (0, 0, false) hnl1) rfl)
                          rw [HY1.out.1] at k0
                          have hgAd : gA < wd.heap.size := HLP3.out.ch.lt.2
                          have HDA := Lib.hid (HLP3.out.sr.alloc (.cells #[.int .i64 y0] 3))
                          have HYC := Lib.hid (show (wd.alloc (.cells #[.int .i64 y0] 3)).cell? ⟨wd.heap.size, 0, none⟩ = some (.int .i64 y0) from (Box.new wd 3 #[.int .i64 y0]).cell 0)
                          have hbd : (start.length + 1) * 8 ≤ 140737488355328 := by omega
                          have hbs2 : bs ≤ (wd.alloc (.cells #[.int .i64 y0] 3)).heap.size := by simp; omega
                          go_upto_region 30 with (at_builtin; refine wpList_push_f rfl (.tmp 153) (.tmp 158) rfl bs D kD start rfl HDA.out wd.heap.size y0 rfl HYC.out hbd hbs2 ?_; intro D2 kD2 w22 hown22 ho22 hf22)
                          have hoo : Only (fun b => D.map (·.block) = some b) wd w22 := ((Only.refl _ wd).alloc _).trans ho22
                          have HL4 := Lib.hid (HLP3.out.grewD hown22 hoo (fun b hb => by
                            rcases hf22 b hb with h | h
                            · exact .inl h
                            · exact .inr (Nat.le_trans (by simp) h)))
                          have hbs22 : bs ≤ w22.heap.size := Nat.le_trans hbsd hoo.size
                          clear hown22 ho22 hf22 hoo k0 HDA HYC
                          have k2 := HL4.out.ch.cells (n * 3 + 2) _ (flat_get wcC_len (j := 2) (getD_some (0, 0, false) hnl1) rfl)
                          have f2 := HL4.out.ch.frozen (oA + n * 3 + 2)
                          rw [← Nat.add_assoc] at k2
                          have HL5 := Lib.hid (HL4.out.put hnl1 true)
                          rw [HY1.out.1, HY1.out.2] at HL5
                          generalize (l1.getD n (0, 0, false)).2.2 = y2' at k2
                          go_wp2_with fail
                          go_roundg n
                          case measure => omega
                          case rel => exact ⟨l1.set n (y0, y1, true), C1, kC1, stop1, D2, kD2, start ++ [y0], (n : Int) - 1, by omega, rfl, by rw [List.length_append]; rfl, rfl, by rw [List.length_set]; exact HLL1.out, HL5.out, HR.out, HRS.out, HRT2.out, hsl1, by rw [List.length_append]; simp only [List.length_cons, List.length_nil]; omega, by simpa using hbs22⟩
            · have e1 : decide ((k : Int) < (tm.length : Int)) = true := decide_eq_true (by omega)
              have e1' : decide (k < tm.length) = true := decide_eq_true hlt
              obtain ⟨bB, oB, rfl, hbB, ct⟩ := (HTM2.out.below hfw.a.bb).int hlt
              obtain ⟨t, ht⟩ : ∃ t, tm.getD k 0 = t := ⟨_, rfl⟩
              rw [ht] at ct
              obtain ⟨t0, t1⟩ := HTR.out t (by rw [← ht]; exact getD_mem 0 hlt)
              have k2 := (cells5 hfw.a.bx).2.2.1
              have o4 := (cells5 hfw.bo).2.2.2.2
              have hks : (tm.take (k + 1)).filter (fun t => !decide (t ≤ now - win)) = kt ++ if t ≤ now - win then [] else [t] := by
                rw [take_getD tm 0 hlt, ht, List.filter_append, ← hkt]
                by_cases hq : t ≤ now - win
                · rw [if_pos hq]; simp [hq]
                · rw [if_neg hq]; simp [hq]
              have HKS := Lib.hid hks
              have HT := Lib.hid ht
              clear hfw hot hoc hgk hkt ht hks
              by_cases hq : t ≤ now - win
              · have d0 : decide (now - t < win) = false := decide_eq_false (by omega)
                go_wp2_with fail
                go_roundg (tm.length - (k + 1))
                case measure => have := HGK.out; omega
                case rel => exact ⟨k + 1, B3, d3, kt, rfl, hlt, by go_num, by omega, by rw [HKS.out, if_pos hq, List.append_nil], HFW.out, HOT.out, HOC.out⟩
              · have d0 : decide (now - t < win) = true := decide_eq_true (by omega)
                have HAL := Lib.hid (show Below wr.heap.size wr (wr.alloc (.cells #[.int .i64 t] 3)) from (Below.refl _ _).alloc (Nat.le_refl _) _)
                have HOA := Lib.hid (HOT.out.alloc (.cells #[.int .i64 t] 3))
                have HYC := Lib.hid (show (wr.alloc (.cells #[.int .i64 t] 3)).cell? ⟨wr.heap.size, 0, none⟩ = some (.int .i64 t) from (Box.new wr 3 #[.int .i64 t]).cell 0)
                have hbd : (kt.length + 1) * 8 ≤ 140737488355328 := by omega
                have hbs : gp + 1 ≤ (wr.alloc (.cells #[.int .i64 t] 3)).heap.size := by simp; omega
                have HF := Lib.hid (fun w' (h : Only (fun b => B3.map (·.block) = some b) (wr.alloc (.cells #[.int .i64 t] 3)) w') => (HFW.out.below HAL.out).only h (fun b hb => by have := own_min HOA.out b hb; omega))
                have HF4 := Lib.hid (fun w' (h : Only (fun b => B3.map (·.block) = some b) (wr.alloc (.cells #[.int .i64 t] 3)) w') => And.intro ((cells5 (HF.out w' h).bo).2.2.2.2) ((HF.out w' h).bo.frozen 4))
                go_upto_region 16 with (at_builtin; refine wpList_push_f rfl (.tmp 85) (.tmp 87) rfl (gp + 1) B3 d3 kt rfl HOA.out wr.heap.size t rfl HYC.out hbd hbs ?_; intro B4 d4 w2 hown2 ho2 hf2; obtain ⟨c4, f4⟩ := HF4.out w2 ho2)
                have HF2 := Lib.hid (show FnW W (w2.setCell ⟨go, 4, none⟩ (.slice B4 (kt.length + 1) d4)) go gi gp #[.int .i64 how, .int .i64 most, .int .i64 win, .slice A ch.length c, .slice (some ⟨bB, oB, none⟩) tm.length d] #[.int .i64 how, .int .i64 most, .int .i64 win, .slice (some ⟨gA, oA, none⟩) ch.length c2, .slice B4 (kt.length + 1) d4] m zP from by
                  have := (HF.out w2 ho2).setO 4 (.slice B4 (kt.length + 1) d4)
                  simpa using this)
                have HT2 := Lib.hid (hown2.far (p := ⟨go, 4, none⟩) (fun g o e e2 => ownW_ne hown2 (HF.out w2 ho2).bo (by decide) (by rw [e, e2]; rfl)) (.slice B4 (kt.length + 1) d4))
                have hoc2 := (HOC.out.below HAL.out).only ho2 (fun b hb hb2 => own_apart HOC.out HOT.out (by decide) b hb hb2)
                have HC2 := Lib.hid (hoc2.far (p := ⟨go, 4, none⟩) (fun g o e e2 => ownW_ne hoc2 (HF.out w2 ho2).bo (by decide) (by rw [e, e2]; rfl)) (.slice B4 (kt.length + 1) d4))
                clear hown2 ho2 hf2 c4 f4 o4 k2 hoc2 HF HF4 HOA HYC HAL
                generalize w2.setCell ⟨go, 4, none⟩ (.slice B4 (kt.length + 1) d4) = w3 at *
                go_wp2_with fail
                go_roundg (tm.length - (k + 1))
                case measure => have := HGK.out; omega
                case rel => exact ⟨k + 1, B4, d4, kt ++ [t], rfl, hlt, by go_num, by simp; omega, by rw [HKS.out, if_neg (by omega)], by rw [List.length_append]; exact HF2.out, by rw [List.length_append]; exact HT2.out, HC2.out⟩
      · have hb : (y.1 != id) = true := by
          have := HFI.out m hlt
          rw [HY.out] at this
          have h2 : y.1 ≠ id := by simpa [isId] using this
          simpa using h2
        have b2 : decide (y.1 = id) = false := by simpa using hb
        go_wp2_with fail
        go_roundg (i - (m + 1))
        case measure => have := HGK.out; omega
        case rel =>
          have hon : Only (fun x => x = gi) wr (wr.setCell ⟨gi, 0, none⟩ (.int .i64 ((m : Int) + 1))) := (Only.refl (fun x => x = gi) wr).set (p := ⟨gi, 0, none⟩) rfl _
          refine ⟨m + 1, rfl, hlt, HDA.out.only hon (fun b hb => by omega), hon.box HBO.out (by omega), ?_, HOC.out.only hon (fun b hb hb2 => by injection hb with hb; dsimp only at hb; omega)⟩
          have := HBI.out.set 0 (.int .i64 ((m : Int) + 1))
          simpa using this
end Go.Proofs.Ytcmkkfpcdebfkaa
