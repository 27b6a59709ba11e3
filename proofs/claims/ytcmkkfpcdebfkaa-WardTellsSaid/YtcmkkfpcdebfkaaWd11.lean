/-
  A fall that nothing follows (ward.Down).
-/
import Derived.Test.YtcmkkfpcdebfkaaWd10
namespace Go.Proofs.Ytcmkkfpcdebfkaa
open Go.RowKit

/-- A fall that is taken: child i falls. -/
structure FallOk (v : Wd) (id now : Int) (i : Nat) : Prop where
  right : wardF v = 0
  idx : idxAt (isId id) v.ch 0 = (i : Int)
  lt : i < v.ch.length
  live : (v.ch.getD i (0, 0, false)).2.2 = true
  t1 : lastT v.tm ≤ now
  t2 : now ≤ 1099511627776
theorem fallOk_of {v : Wd} {id now : Int} (h : fallE v id now = 0) : ∃ i, FallOk v id now i := by
  by_cases hw : wardF v = 0
  · rcases idxAt_spec (isId id) (0, 0, false) v.ch 0 with h1 | ⟨i, hi, h1, _⟩
    · rw [fallE_none now hw h1] at h
      cases h
    · rw [Nat.zero_add] at h1
      change idxAt (isId id) v.ch 0 = (i : Int) at h1
      cases hl : (v.ch.getD i (0, 0, false)).2.2 with
      | false =>
        rw [fallE_dead now hw h1 hl] at h
        cases h
      | true =>
        by_cases ht : now < lastT v.tm ∨ 1099511627776 < now
        · rw [fallE_time hw h1 hl ht] at h
          cases h
        · exact ⟨i, hw, h1, hi, hl, by omega, by omega⟩
  · rw [fallE_bad id now hw] at h
    exact absurd h hw

set_option maxRecDepth 100000 in
set_option maxHeartbeats 8000000 in
theorem downW_quiet (x : WA) (v : Wd) (id : Int) (failed : Bool) (now : Int) (W : World) (i : Nat) (h : WIn W x v) (ho : FallOk v id now i) (hq : quietB (v.ch.getD i (0, 0, false)) failed = true) :
    Calls Try.prog 118 #[wardV x v, .int .i64 id, .bool failed, .int .i64 now] W (FallPost (⟨v.how, v.most, v.win, v.ch.set i (deadC (v.ch.getD i (0, 0, false))), v.tm⟩, pl0) 0 W) := by
  obtain ⟨hw, hidx, hil, hlive, ht1, ht2⟩ := ho
  obtain ⟨_, HTM, h20, h50, hhow, hmost, hwin⟩ := wardF_zero hw
  have hlp := lastT_pos HTM
  have hn0 : 0 ≤ now := by omega
  have HC := Lib.hid (fun w => checkW x v w)
  rw [hw] at HC
  have HCP := Lib.hid (fun w h => copyW x v w h h20 h50)
  have HLT := Lib.hid ht1
  clear hw HTM hlp ht1
  have HIN := Lib.hid h
  obtain ⟨A, c, B, d⟩ := x
  obtain ⟨how, most, win, ch, tm⟩ := v
  have HD0 := Lib.hid (dn_start W #[.int .i64 how, .int .i64 most, .int .i64 win, .slice A ch.length c, .slice B tm.length d] now)
  have HI0 := Lib.hid (HIN.out.below HD0.out.bb)
  unfold wardV at *
  dsimp only at *
  have hg : W.heap.size + 3 < ((((W.alloc (.cells #[.int .i64 how, .int .i64 most, .int .i64 win, .slice A ch.length c, .slice B tm.length d] 215)).alloc (.cells #[.int .i64 now] 3)).alloc (.cells zW 215)).alloc (.cells zP 220)).heap.size := HD0.out.lt
  clear h
  go_enter Try.func118, Try.ntmps118
  go_upto_region 1 with fail
  generalize (((W.alloc (.cells #[.int .i64 how, .int .i64 most, .int .i64 win, .slice A ch.length c, .slice B tm.length d] 215)).alloc (.cells #[.int .i64 now] 3)).alloc (.cells #[.int .i64 0, .int .i64 0, .int .i64 0, .slice none 0 0, .slice none 0 0] 215)).alloc (.cells #[.slice none 0 0, .slice none 0 0, .bool false] 220) = w1 at *
  have HR0 := Lib.hid HD0.out.bx
  go_wp2_with (guard_target =~ wpList _ _ _ ({ dst := some 19, op := _, type := _, pos := _, after := _, guard := _ } :: _) _ _; refine wpList_load_box rfl 215 (.tmp 4) rfl W.heap.size rfl #[.int .i64 how, .int .i64 most, .int .i64 win, .slice A ch.length c, .slice B tm.length d] _ HR0 Try.underlying215 rfl (by rw [ward_info]; rfl) ?_)
  refine (HC.out w1 HI0.out).mono ?_
  rintro e w2 ⟨rfl, hb2⟩
  have HD2 := Lib.hid (HD0.out.below hb2)
  have HI2 := Lib.hid (HI0.out.below hb2)
  clear hb2 hg
  have k3 := HD2.out.bx.cell 3
  simp only [List.getElem?_toArray, List.getElem?_cons_zero, List.getElem?_cons_succ] at k3
  go_wp2_with fail
  refine (find_any id A c ch w2 HI2.out.ch (by unfold maxLen; omega)).mono ?_
  rintro e w3 ⟨rfl, hb3⟩
  have HD3 := Lib.hid (HD2.out.below hb3)
  have HI3 := Lib.hid (HI2.out.below hb3)
  clear hb3 k3
  rw [hidx]
  obtain ⟨bA, oA, rfl, hbA, c0, c1, cl⟩ := HI3.out.ch.wc hil (0, 0, false)
  rw [hlive] at cl
  have hc63 : c ≤ 9223372036854775807 := by have := HIN.out.c2; unfold maxLen at this; exact this
  have hd63 : d ≤ 9223372036854775807 := by have := HIN.out.d2; unfold maxLen at this; exact this
  have d1 : decide ((i : Int) < 0) = false := decide_eq_false (by omega)
  have hi20 : i < 20 := by omega
  have k3 := HD3.out.bx.cell 3
  simp only [List.getElem?_toArray, List.getElem?_cons_zero, List.getElem?_cons_succ] at k3
  clear hidx c0 c1 hlive
  go_upto_region 9 with fail
  go_cut [45] (fun s wx => s = .bool false ∧ Below w3.heap.size w3 wx)
  case first =>
    have k7 := HD3.out.bn.cell 0
    have k4 := HD3.out.bx.cell 4
    simp only [List.getElem?_toArray, List.getElem?_cons_zero, List.getElem?_cons_succ] at k4 k7
    have e2 : decide (now < 0) = false := decide_eq_false (by omega)
    have e3 : decide (1099511627776 < now) = false := decide_eq_false (by omega)
    by_cases hz : 0 < tm.length
    · have d4 : decide ((0 : Int) < (tm.length : Int)) = true := decide_eq_true (by omega)
      have d4' : decide (0 < tm.length) = true := decide_eq_true hz
      rw [lastT_at] at HLT
      obtain ⟨bB, oB, rfl, hbB, ct⟩ := HI3.out.tm.int (show tm.length - 1 < tm.length by omega)
      have d5 : decide (now < tm.getD (tm.length - 1) 0) = false := decide_eq_false (by have := HLT.out; omega)
      have ei : ((tm.length : Int) - 1) = ((tm.length - 1 : Nat) : Int) := by omega
      clear HLT
      generalize tm.getD (tm.length - 1) 0 = lt at *
      go_region
      go_wp2_with fail
      go_meet
      exact ⟨rfl, below_drewN (Below.refl _ _) 1⟩
    · have d4 : decide ((0 : Int) < (tm.length : Int)) = false := decide_eq_false (by omega)
      have d4' : decide (0 < tm.length) = false := decide_eq_false hz
      go_region
      go_wp2_with fail
      go_meet
      exact ⟨rfl, below_drewN (Below.refl _ _) 1⟩
  case rest =>
    obtain ⟨rfl, hbc⟩ := hcut
    have HDc := Lib.hid (HD3.out.below hbc)
    have HIc := Lib.hid (HI3.out.below hbc)
    have HRx := Lib.hid HDc.out.bx
    clear hbc k3 cl hbA
    go_wp2_with (guard_target =~ wpList _ _ _ ({ dst := some 72, op := _, type := _, pos := _, after := _, guard := _ } :: _) _ _; refine wpList_load_box rfl 215 (.tmp 4) rfl W.heap.size rfl #[.int .i64 how, .int .i64 most, .int .i64 win, .slice (some ⟨bA, oA, none⟩) ch.length c, .slice B tm.length d] _ HRx Try.underlying215 rfl (by rw [ward_info]; rfl) ?_)
    refine (HCP.out wc HIc.out).mono ?_
    rintro e w4 ⟨⟨A2, c2, B2, d2⟩, rfl, ho4, hb4⟩
    have HD4 := Lib.hid (HDc.out.below hb4)
    have HX4 := Lib.hid HD4.out.bx
    have hlc := HDc.out.lt
    have HO4 := Lib.hid ho4
    clear ho4 hb4
    go_upto_region 12 with (guard_target =~ wpList _ _ _ ({ dst := none, op := _, type := _, pos := _, after := _, guard := _ } :: _) _ _; refine wpList_store_box rfl 215 (.tmp 4) (.tmp 73) rfl W.heap.size rfl #[.int .i64 how, .int .i64 most, .int .i64 win, .slice (some ⟨bA, oA, none⟩) ch.length c, .slice B tm.length d] #[.int .i64 how, .int .i64 most, .int .i64 win, .slice A2 ch.length c2, .slice B2 tm.length d2] rfl HX4 rfl (by rw [ward_info]; rfl) (by simp [Value.oneCell']) ?_; intro w5 hs5)
    have HD5 := Lib.hid (HD4.out.stored hs5.out)
    obtain ⟨hoc, hot⟩ := HO4.out.only hs5.out.only (fun b hb => by omega)
    dsimp only at hoc hot
    clear hs5
    obtain ⟨gA, oA2, rfl, hnc⟩ := hoc.some_of (by omega)
    obtain ⟨y, hy⟩ : ∃ y, ch.getD i (0, 0, false) = y := ⟨_, rfl⟩
    have HY := Lib.hid hy
    have hgA := hoc.lt
    have k2 := hoc.cells (i * 3 + 2) _ (flat_get wcC_len (j := 2) (getD_some (0, 0, false) hil) rfl)
    rw [← Nat.add_assoc] at k2
    have f2 := hoc.frozen (oA2 + i * 3 + 2)
    have HPUT := Lib.hid (own_put hoc hil false)
    rw [hy] at k2 HPUT hq
    have hcap := hoc.cap_le
    have hc263 : c2 ≤ 9223372036854775807 := by have := hcap.2; unfold maxLen at this; omega
    have k3 := HD5.out.bx.cell 3
    simp only [List.getElem?_toArray, List.getElem?_cons_zero, List.getElem?_cons_succ] at k3
    have HT6 := Lib.hid (hot.only ((Only.refl (fun b => b = gA) w5).set (p := ⟨gA, oA2 + i * 3 + 2, none⟩) rfl (.bool false)) (fun b hb hb2 => own_apart hot hoc (by decide) b hb (by simp; exact hb2.symm)))
    have HD6 := Lib.hid (HD5.out.only ((Only.refl (fun b => b = gA) w5).set (p := ⟨gA, oA2 + i * 3 + 2, none⟩) rfl (.bool false)) (fun b hb => by omega))
    have hgA1 := hgA.1
    clear hcap hoc hot hy
    obtain ⟨y0, y1, y2⟩ := y
    dsimp only at k2 HPUT
    go_upto_region 13 with fail
    have hgA6 : gA < (w5.setCell ⟨gA, oA2 + i * 3 + 2, none⟩ (.bool false)).heap.size := HPUT.out.lt.2
    clear k2 f2 k3 hgA
    generalize w5.setCell ⟨gA, oA2 + i * 3 + 2, none⟩ (.bool false) = w6 at *
    have k1 := HPUT.out.cells (i * 3 + 1) _ (flat_get wcC_len (j := 1) (x := (y0, y1, false)) (by rw [List.getElem?_set_self hil]) rfl)
    rw [← Nat.add_assoc] at k1
    dsimp only at k1
    have k3 := HD6.out.bx.cell 3
    simp only [List.getElem?_toArray, List.getElem?_cons_zero, List.getElem?_cons_succ] at k3
    go_upto_region 14 with fail
    go_cut [94] (fun s wx => s = .bool (quietB (y0, y1, y2) failed) ∧ w6 = wx)
    case first =>
      clear hq
      by_cases n1 : y1 = 3
      · have e1 : (y1 == 3) = true := by simpa using n1
        have e1' : decide (y1 = 3) = true := decide_eq_true n1
        have HE := Lib.hid (show quietB (y0, y1, y2) failed = true by simp [quietB, e1])
        clear n1
        go_wp2_with fail
        go_meet
        exact ⟨by rw [HE.out], rfl⟩
      · have e1 : (y1 == 3) = false := by simpa using n1
        have e1' : decide (y1 = 3) = false := decide_eq_false n1
        by_cases n2 : y1 = 2
        · have e2 : (y1 == 2) = true := by simpa using n2
          have e2' : decide (y1 = 2) = true := decide_eq_true n2
          have HE := Lib.hid (show quietB (y0, y1, y2) failed = !failed by simp [quietB, e1, e2])
          clear n1 n2
          go_wp2_with fail
          go_meet
          exact ⟨by rw [HE.out], rfl⟩
        · have e2 : (y1 == 2) = false := by simpa using n2
          have e2' : decide (y1 = 2) = false := decide_eq_false n2
          have HE := Lib.hid (show quietB (y0, y1, y2) failed = false by simp [quietB, e1, e2])
          clear n1 n2
          go_wp2_with fail
          go_meet
          exact ⟨by rw [HE.out], rfl⟩
    case rest =>
      obtain ⟨rfl, rfl⟩ := hcut
      rw [hq]
      clear hq k1 k3
      have HXL := Lib.hid HD6.out.bx
      have HRz := Lib.hid HD6.out.br
      have HPz := Lib.hid HD6.out.bp
      go_wp2_with (first | (guard_target =~ wpList _ _ _ ({ dst := some 95, op := _, type := _, pos := _, after := _, guard := _ } :: _) _ _; refine wpList_load_box rfl 215 (.tmp 4) rfl W.heap.size rfl #[.int .i64 how, .int .i64 most, .int .i64 win, .slice (some ⟨gA, oA2, none⟩) ch.length c2, .slice B2 tm.length d2] _ HXL Try.underlying215 rfl (by rw [ward_info]; rfl) ?_) | (guard_target =~ wpList _ _ _ ({ dst := none, op := _, type := _, pos := _, after := _, guard := _ } :: _) _ _; refine wpList_store_box rfl 215 (.tmp 8) (.tmp 95) rfl (W.heap.size + 2) rfl zW #[.int .i64 how, .int .i64 most, .int .i64 win, .slice (some ⟨gA, oA2, none⟩) ch.length c2, .slice B2 tm.length d2] rfl HRz rfl (by rw [ward_info]; rfl) (by simp [Value.oneCell']) ?_; intro w8 hs8; have HP8 := Lib.hid (hs8.out.only.box HPz.out (by omega))) | (guard_target =~ wpList _ _ _ ({ dst := none, op := _, type := _, pos := _, after := _, guard := _ } :: _) _ _; refine wpList_store_box rfl 220 (.tmp 9) (.tmp 96) rfl (W.heap.size + 3) rfl zP zP rfl HP8 rfl (by rw [plan_info]; rfl) (by simp [Value.oneCell']) ?_; intro w9 hs9))
      refine bodyPost_ret (v := .tuple #[.agg #[.int .i64 how, .int .i64 most, .int .i64 win, .slice (some ⟨gA, oA2, none⟩) ch.length c2, .slice B2 tm.length d2], .agg zP, .int .i64 0]) (res_c2_t1 Try.results118 rfl (run_load_box (hs9.out.only.box hs8.out.box (by omega)) Try.underlying215 rfl (by rw [ward_info]; rfl)) rfl (run_load_box hs9.out.box Try.underlying220 rfl (by rw [plan_info]; rfl)) rfl) rfl ?_
      have hlw : W.heap.size + 3 < wc.heap.size := hlc
      have ho8 : Only (fun b => b ≤ W.heap.size + 3) w6 w9 := (hs8.out.only.more (fun b hb => by omega)).trans (hs9.out.only.more (fun b hb => by omega))
      refine ⟨⟨some ⟨gA, oA2, none⟩, c2, B2, d2⟩, ⟨none, 0, none, 0⟩, ?_, ⟨?_, ?_⟩, ⟨OwnAt.nil, OwnAt.nil⟩, ?_⟩
      · simp [wardV, planV, pl0]
      · dsimp only
        rw [HY.out]
        exact (HPUT.out.only ho8 (fun b hb ht => by have := own_min HPUT.out b hb; omega)).lower (by omega)
      · exact (HT6.out.only ho8 (fun b hb ht => by have := own_min HT6.out b hb; omega)).lower (by omega)
      · exact hs9.out.only.to_below (hs8.out.only.to_below HD6.out.bb HD6.out.bb.size (fun i hi => by omega)) (by have := hs8.out.size; have := HD6.out.bb.size; omega) (fun i hi => by omega)
end Go.Proofs.Ytcmkkfpcdebfkaa
