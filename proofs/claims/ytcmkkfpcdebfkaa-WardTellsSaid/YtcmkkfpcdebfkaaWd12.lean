/-
  A fall with which the supervisor gives up (ward.Down).
-/
import Derived.Test.YtcmkkfpcdebfkaaWd11
import Derived.Test.YtcmkkfpcdebfkaaWd8
import Derived.Test.YtcmkkfpcdebfkaaBoxSt
namespace Go.Proofs.Ytcmkkfpcdebfkaa
open Go.RowKit

theorem DnW.put4 {W w : World} {a b c d e : Value} {now : Int} (h : DnW W w #[a, b, c, d, e] now) (u : Value) : DnW W (w.setCell ⟨W.heap.size, 4, none⟩ u) #[a, b, c, d, u] now := by
  have hx := h.bx.set 4 u
  exact ⟨by simpa using hx, h.bn.far (p := ⟨W.heap.size, 4, none⟩) (by simp) u, h.br.far (p := ⟨W.heap.size, 4, none⟩) (by simp) u, h.bp.far (p := ⟨W.heap.size, 4, none⟩) (by simp) u, h.bb.setCell (p := ⟨W.heap.size, 4, none⟩) (Nat.le_refl _) u⟩
theorem DnW.drew {W w : World} {cs : Array Value} {now : Int} (h : DnW W w cs now) : DnW W w.drew cs now := h.below (show Below w.heap.size w w.drew from below_drewN (Below.refl _ _) 1)
theorem cells5 {w : World} {g : Nat} {t : TypeId} {a b c d e : Value} (h : Box w g t #[a, b, c, d, e]) : w.cell? ⟨g, 0, none⟩ = some a ∧ w.cell? ⟨g, 1, none⟩ = some b ∧ w.cell? ⟨g, 2, none⟩ = some c ∧ w.cell? ⟨g, 3, none⟩ = some d ∧ w.cell? ⟨g, 4, none⟩ = some e :=
  ⟨h.cell 0, h.cell 1, h.cell 2, h.cell 3, h.cell 4⟩
theorem DnW.res {W w : World} {cs : Array Value} {now : Int} (h : DnW W w cs now) : w.cell? ⟨W.heap.size + 1 + 1, 0, none⟩ = some (.int .i64 0) ∧ w.cell? ⟨W.heap.size + 1 + 1, 1, none⟩ = some (.int .i64 0) ∧ w.cell? ⟨W.heap.size + 1 + 1, 2, none⟩ = some (.int .i64 0) ∧ w.cell? ⟨W.heap.size + 1 + 1, 3, none⟩ = some (.slice none 0 0) ∧ w.cell? ⟨W.heap.size + 1 + 1, 4, none⟩ = some (.slice none 0 0)
    ∧ w.cell? ⟨W.heap.size + 1 + 1 + 1, 0, none⟩ = some (.slice none 0 0) ∧ w.cell? ⟨W.heap.size + 1 + 1 + 1, 1, none⟩ = some (.slice none 0 0) ∧ w.cell? ⟨W.heap.size + 1 + 1 + 1, 2, none⟩ = some (.bool false) :=
  ⟨h.br.cell 0, h.br.cell 1, h.br.cell 2, h.br.cell 3, h.br.cell 4, h.bp.cell 0, h.bp.cell 1, h.bp.cell 2⟩
theorem DnW.fro {W w : World} {cs : Array Value} {now : Int} (h : DnW W w cs now) : w.frozen? ⟨W.heap.size + 1 + 1, 0, none⟩ = false ∧ w.frozen? ⟨W.heap.size + 1 + 1, 1, none⟩ = false ∧ w.frozen? ⟨W.heap.size + 1 + 1, 2, none⟩ = false ∧ w.frozen? ⟨W.heap.size + 1 + 1, 3, none⟩ = false ∧ w.frozen? ⟨W.heap.size + 1 + 1, 4, none⟩ = false
    ∧ w.frozen? ⟨W.heap.size + 1 + 1 + 1, 0, none⟩ = false ∧ w.frozen? ⟨W.heap.size + 1 + 1 + 1, 1, none⟩ = false ∧ w.frozen? ⟨W.heap.size + 1 + 1 + 1, 2, none⟩ = false :=
  ⟨h.br.frozen 0, h.br.frozen 1, h.br.frozen 2, h.br.frozen 3, h.br.frozen 4, h.bp.frozen 0, h.bp.frozen 1, h.bp.frozen 2⟩
/-- The two results stored, cell by cell. -/
def setRes (W w : World) (a b c d e s t u : Value) : World :=
  (((((((w.setCell ⟨W.heap.size + 1 + 1, 0, none⟩ a).setCell ⟨W.heap.size + 1 + 1, 1, none⟩ b).setCell ⟨W.heap.size + 1 + 1, 2, none⟩ c).setCell ⟨W.heap.size + 1 + 1, 3, none⟩ d).setCell ⟨W.heap.size + 1 + 1, 4, none⟩ e).setCell ⟨W.heap.size + 1 + 1 + 1, 0, none⟩ s).setCell ⟨W.heap.size + 1 + 1 + 1, 1, none⟩ t).setCell ⟨W.heap.size + 1 + 1 + 1, 2, none⟩ u
theorem setRes_br {W w : World} {cs : Array Value} {now : Int} (h : DnW W w cs now) (a b c d e s t u : Value) : Box (setRes W w a b c d e s t u) (W.heap.size + 2) 215 #[a, b, c, d, e] := by
  have h1 := (((((h.br.set 0 a).set 1 b).set 2 c).set 3 d).set 4 e)
  have h2 := ((h1.far (p := ⟨W.heap.size + 1 + 1 + 1, 0, none⟩) (by simp) s).far (p := ⟨W.heap.size + 1 + 1 + 1, 1, none⟩) (by simp) t).far (p := ⟨W.heap.size + 1 + 1 + 1, 2, none⟩) (by simp) u
  simpa [setRes] using h2
theorem setRes_bp {W w : World} {cs : Array Value} {now : Int} (h : DnW W w cs now) (a b c d e s t u : Value) : Box (setRes W w a b c d e s t u) (W.heap.size + 3) 220 #[s, t, u] := by
  have h1 := ((((h.bp.far (p := ⟨W.heap.size + 1 + 1, 0, none⟩) (by simp) a).far (p := ⟨W.heap.size + 1 + 1, 1, none⟩) (by simp) b).far (p := ⟨W.heap.size + 1 + 1, 2, none⟩) (by simp) c).far (p := ⟨W.heap.size + 1 + 1, 3, none⟩) (by simp) d).far (p := ⟨W.heap.size + 1 + 1, 4, none⟩) (by simp) e
  have h2 := (((h1.set 0 s).set 1 t).set 2 u)
  simpa [setRes] using h2
theorem setRes_only (W w : World) (a b c d e s t u : Value) : Only (fun x => x = W.heap.size + 2 ∨ x = W.heap.size + 3) w (setRes W w a b c d e s t u) :=
  ((((((((Only.refl _ w).set (p := ⟨W.heap.size + 1 + 1, 0, none⟩) (.inl rfl) a).set (p := ⟨W.heap.size + 1 + 1, 1, none⟩) (.inl rfl) b).set (p := ⟨W.heap.size + 1 + 1, 2, none⟩) (.inl rfl) c).set (p := ⟨W.heap.size + 1 + 1, 3, none⟩) (.inl rfl) d).set (p := ⟨W.heap.size + 1 + 1, 4, none⟩) (.inl rfl) e).set (p := ⟨W.heap.size + 1 + 1 + 1, 0, none⟩) (.inr rfl) s).set (p := ⟨W.heap.size + 1 + 1 + 1, 1, none⟩) (.inr rfl) t).set (p := ⟨W.heap.size + 1 + 1 + 1, 2, none⟩) (.inr rfl) u
theorem enters_down1 : Enters 182 := fun _ _ => by kernel_rfl
set_option maxHeartbeats 1000000 in
theorem down1_any (gn gw : Nat) (t now win : Int) (w : World) (hn : w.cell? ⟨gn, 0, none⟩ = some (.int .i64 now)) (hw : w.cell? ⟨gw, 2, none⟩ = some (.int .i64 win)) (h1 : 0 ≤ now) (h2 : now ≤ 1099511627776) (h3 : 1 ≤ win) (h4 : win ≤ 1099511627776) :
    Calls Try.prog 182 #[.int .i64 t, .pointer (some ⟨gn, 0, none⟩), .pointer (some ⟨gw, 0, none⟩)] w fun e w' => e = .returned (.bool (decide (t ≤ now - win))) ∧ Below w.heap.size w w' := by
  have hk1 := lt_of_cell hn
  have hk2 := lt_of_cell hw
  dsimp only at hk1 hk2
  go_enter Try.func182, Try.ntmps182
  go_wp2_with fail
  go_ret
  exact ⟨rfl, Below.refl _ _⟩

set_option maxRecDepth 100000 in
set_option maxHeartbeats 8000000 in
theorem downW_gave (x : WA) (v : Wd) (id : Int) (failed : Bool) (now : Int) (W : World) (i : Nat) (h : WIn W x v) (ho : FallOk v id now i) (hq : quietB (v.ch.getD i (0, 0, false)) failed = false) (hm : v.most ≤ (keptT v now).length) :
    Calls Try.prog 118 #[wardV x v, .int .i64 id, .bool failed, .int .i64 now] W (FallPost (⟨v.how, v.most, v.win, (stopL 0 v.ch.length (v.ch.set i (deadC (v.ch.getD i (0, 0, false))))).1, keptT v now⟩, (stopL 0 v.ch.length (v.ch.set i (deadC (v.ch.getD i (0, 0, false))))).2, [], true) 0 W) := by
  have HMO := Lib.hid hm
  clear hm
  obtain ⟨hw, hidx, hil, hlive, ht1, ht2⟩ := ho
  obtain ⟨_, HTM, h20, h50, hhow, hmost, hwin⟩ := wardF_zero hw
  have hlp := lastT_pos HTM
  have hn0 : 0 ≤ now := by omega
  have HC := Lib.hid (fun w => checkW x v w)
  rw [hw] at HC
  have HCP := Lib.hid (fun w h => copyW x v w h h20 h50)
  have HLT := Lib.hid ht1
  clear hw HTM hlp ht1
  have HIN := Lib.hid h
  obtain ⟨A, c, B, d⟩ := x
  obtain ⟨how, most, win, ch, tm⟩ := v
  have HD0 := Lib.hid (dn_start W #[.int .i64 how, .int .i64 most, .int .i64 win, .slice A ch.length c, .slice B tm.length d] now)
  have HI0 := Lib.hid (HIN.out.below HD0.out.bb)
  unfold wardV at *
  dsimp only at *
  have hg : W.heap.size + 3 < ((((W.alloc (.cells #[.int .i64 how, .int .i64 most, .int .i64 win, .slice A ch.length c, .slice B tm.length d] 215)).alloc (.cells #[.int .i64 now] 3)).alloc (.cells zW 215)).alloc (.cells zP 220)).heap.size := HD0.out.lt
  clear h
  go_enter Try.func118, Try.ntmps118
  go_upto_region 1 with fail
  generalize (((W.alloc (.cells #[.int .i64 how, .int .i64 most, .int .i64 win, .slice A ch.length c, .slice B tm.length d] 215)).alloc (.cells #[.int .i64 now] 3)).alloc (.cells #[.int .i64 0, .int .i64 0, .int .i64 0, .slice none 0 0, .slice none 0 0] 215)).alloc (.cells #[.slice none 0 0, .slice none 0 0, .bool false] 220) = w1 at *
  have HR0 := Lib.hid HD0.out.bx
  go_wp2_with (guard_target =~ wpList _ _ _ ({ dst := some 19, op := _, type := _, pos := _, after := _, guard := _ } :: _) _ _; refine wpList_load_box rfl 215 (.tmp 4) rfl W.heap.size rfl #[.int .i64 how, .int .i64 most, .int .i64 win, .slice A ch.length c, .slice B tm.length d] _ HR0 Try.underlying215 rfl (by rw [ward_info]; rfl) ?_)
  refine (HC.out w1 HI0.out).mono ?_
  rintro e w2 ⟨rfl, hb2⟩
  have HD2 := Lib.hid (HD0.out.below hb2)
  have HI2 := Lib.hid (HI0.out.below hb2)
  clear hb2 hg
  have k3 := HD2.out.bx.cell 3
  simp only [List.getElem?_toArray, List.getElem?_cons_zero, List.getElem?_cons_succ] at k3
  go_wp2_with fail
  refine (find_any id A c ch w2 HI2.out.ch (by unfold maxLen; omega)).mono ?_
  rintro e w3 ⟨rfl, hb3⟩
  have HD3 := Lib.hid (HD2.out.below hb3)
  have HI3 := Lib.hid (HI2.out.below hb3)
  clear hb3 k3
  rw [hidx]
  obtain ⟨bA, oA, rfl, hbA, c0, c1, cl⟩ := HI3.out.ch.wc hil (0, 0, false)
  rw [hlive] at cl
  have hc63 : c ≤ 9223372036854775807 := by have := HIN.out.c2; unfold maxLen at this; exact this
  have hd63 : d ≤ 9223372036854775807 := by have := HIN.out.d2; unfold maxLen at this; exact this
  have d1 : decide ((i : Int) < 0) = false := decide_eq_false (by omega)
  have hi20 : i < 20 := by omega
  have k3 := HD3.out.bx.cell 3
  simp only [List.getElem?_toArray, List.getElem?_cons_zero, List.getElem?_cons_succ] at k3
  clear hidx c0 c1 hlive
  go_upto_region 9 with fail
  go_cut [45] (fun s wx => s = .bool false ∧ Below w3.heap.size w3 wx)
  case first =>
    have k7 := HD3.out.bn.cell 0
    have k4 := HD3.out.bx.cell 4
    simp only [List.getElem?_toArray, List.getElem?_cons_zero, List.getElem?_cons_succ] at k4 k7
    have e2 : decide (now < 0) = false := decide_eq_false (by omega)
    have e3 : decide (1099511627776 < now) = false := decide_eq_false (by omega)
    by_cases hz : 0 < tm.length
    · have d4 : decide ((0 : Int) < (tm.length : Int)) = true := decide_eq_true (by omega)
      have d4' : decide (0 < tm.length) = true := decide_eq_true hz
      rw [lastT_at] at HLT
      obtain ⟨bB, oB, rfl, hbB, ct⟩ := HI3.out.tm.int (show tm.length - 1 < tm.length by omega)
      have d5 : decide (now < tm.getD (tm.length - 1) 0) = false := decide_eq_false (by have := HLT.out; omega)
      have ei : ((tm.length : Int) - 1) = ((tm.length - 1 : Nat) : Int) := by omega
      clear HLT
      generalize tm.getD (tm.length - 1) 0 = lt at *
      go_region
      go_wp2_with fail
      go_meet
      exact ⟨rfl, below_drewN (Below.refl _ _) 1⟩
    · have d4 : decide ((0 : Int) < (tm.length : Int)) = false := decide_eq_false (by omega)
      have d4' : decide (0 < tm.length) = false := decide_eq_false hz
      go_region
      go_wp2_with fail
      go_meet
      exact ⟨rfl, below_drewN (Below.refl _ _) 1⟩
  case rest =>
    obtain ⟨rfl, hbc⟩ := hcut
    have HDc := Lib.hid (HD3.out.below hbc)
    have HIc := Lib.hid (HI3.out.below hbc)
    have HRx := Lib.hid HDc.out.bx
    clear hbc k3 cl hbA
    go_wp2_with (guard_target =~ wpList _ _ _ ({ dst := some 72, op := _, type := _, pos := _, after := _, guard := _ } :: _) _ _; refine wpList_load_box rfl 215 (.tmp 4) rfl W.heap.size rfl #[.int .i64 how, .int .i64 most, .int .i64 win, .slice (some ⟨bA, oA, none⟩) ch.length c, .slice B tm.length d] _ HRx Try.underlying215 rfl (by rw [ward_info]; rfl) ?_)
    refine (HCP.out wc HIc.out).mono ?_
    rintro e w4 ⟨⟨A2, c2, B2, d2⟩, rfl, ho4, hb4⟩
    have HD4 := Lib.hid (HDc.out.below hb4)
    have HX4 := Lib.hid HD4.out.bx
    have hlc := HDc.out.lt
    have HO4 := Lib.hid ho4
    clear ho4 hb4
    go_upto_region 12 with (guard_target =~ wpList _ _ _ ({ dst := none, op := _, type := _, pos := _, after := _, guard := _ } :: _) _ _; refine wpList_store_box rfl 215 (.tmp 4) (.tmp 73) rfl W.heap.size rfl #[.int .i64 how, .int .i64 most, .int .i64 win, .slice (some ⟨bA, oA, none⟩) ch.length c, .slice B tm.length d] #[.int .i64 how, .int .i64 most, .int .i64 win, .slice A2 ch.length c2, .slice B2 tm.length d2] rfl HX4 rfl (by rw [ward_info]; rfl) (by simp [Value.oneCell']) ?_; intro w5 hs5)
    have HD5 := Lib.hid (HD4.out.stored hs5.out)
    obtain ⟨hoc, hot⟩ := HO4.out.only hs5.out.only (fun b hb => by omega)
    dsimp only at hoc hot
    clear hs5
    obtain ⟨gA, oA2, rfl, hnc⟩ := hoc.some_of (by omega)
    obtain ⟨y, hy⟩ : ∃ y, ch.getD i (0, 0, false) = y := ⟨_, rfl⟩
    have HY := Lib.hid hy
    have hgA := hoc.lt
    have k2 := hoc.cells (i * 3 + 2) _ (flat_get wcC_len (j := 2) (getD_some (0, 0, false) hil) rfl)
    rw [← Nat.add_assoc] at k2
    have f2 := hoc.frozen (oA2 + i * 3 + 2)
    have HPUT := Lib.hid (own_put hoc hil false)
    rw [hy] at k2 HPUT hq
    have hcap := hoc.cap_le
    have hc263 : c2 ≤ 9223372036854775807 := by have := hcap.2; unfold maxLen at this; omega
    have k3 := HD5.out.bx.cell 3
    simp only [List.getElem?_toArray, List.getElem?_cons_zero, List.getElem?_cons_succ] at k3
    have HT6 := Lib.hid (hot.only ((Only.refl (fun b => b = gA) w5).set (p := ⟨gA, oA2 + i * 3 + 2, none⟩) rfl (.bool false)) (fun b hb hb2 => own_apart hot hoc (by decide) b hb (by simp; exact hb2.symm)))
    have HD6 := Lib.hid (HD5.out.only ((Only.refl (fun b => b = gA) w5).set (p := ⟨gA, oA2 + i * 3 + 2, none⟩) rfl (.bool false)) (fun b hb => by omega))
    have hgA1 := hgA.1
    clear hcap hoc hot hy
    obtain ⟨y0, y1, y2⟩ := y
    dsimp only at k2 HPUT
    go_upto_region 13 with fail
    have hgA6 : gA < (w5.setCell ⟨gA, oA2 + i * 3 + 2, none⟩ (.bool false)).heap.size := HPUT.out.lt.2
    clear k2 f2 k3 hgA
    generalize w5.setCell ⟨gA, oA2 + i * 3 + 2, none⟩ (.bool false) = w6 at *
    have k1 := HPUT.out.cells (i * 3 + 1) _ (flat_get wcC_len (j := 1) (x := (y0, y1, false)) (by rw [List.getElem?_set_self hil]) rfl)
    rw [← Nat.add_assoc] at k1
    dsimp only at k1
    have k3 := HD6.out.bx.cell 3
    simp only [List.getElem?_toArray, List.getElem?_cons_zero, List.getElem?_cons_succ] at k3
    go_upto_region 14 with fail
    go_cut [94] (fun s wx => s = .bool (quietB (y0, y1, y2) failed) ∧ w6 = wx)
    case first =>
      clear hq
      by_cases n1 : y1 = 3
      · have e1 : (y1 == 3) = true := by simpa using n1
        have e1' : decide (y1 = 3) = true := decide_eq_true n1
        have HE := Lib.hid (show quietB (y0, y1, y2) failed = true by simp [quietB, e1])
        clear n1
        go_wp2_with fail
        go_meet
        exact ⟨by rw [HE.out], rfl⟩
      · have e1 : (y1 == 3) = false := by simpa using n1
        have e1' : decide (y1 = 3) = false := decide_eq_false n1
        by_cases n2 : y1 = 2
        · have e2 : (y1 == 2) = true := by simpa using n2
          have e2' : decide (y1 = 2) = true := decide_eq_true n2
          have HE := Lib.hid (show quietB (y0, y1, y2) failed = !failed by simp [quietB, e1, e2])
          clear n1 n2
          go_wp2_with fail
          go_meet
          exact ⟨by rw [HE.out], rfl⟩
        · have e2 : (y1 == 2) = false := by simpa using n2
          have e2' : decide (y1 = 2) = false := decide_eq_false n2
          have HE := Lib.hid (show quietB (y0, y1, y2) failed = false by simp [quietB, e1, e2])
          clear n1 n2
          go_wp2_with fail
          go_meet
          exact ⟨by rw [HE.out], rfl⟩
    case rest =>
      obtain ⟨rfl, rfl⟩ := hcut
      rw [hq]
      clear hq k1 k3
      have HDF := Lib.hid (deleteFunc_any wc.heap.size B2 d2 tm 182 #[.pointer (some ⟨W.heap.size + 1, 0, none⟩), .pointer (some ⟨W.heap.size, 0, none⟩)] (fun t => decide (t ≤ now - win)) w6 enters_down1 h50 HT6.out (fun t u hu => by
        have hd := HD6.out.only hu (fun b hb => by have := own_min HT6.out b hb; omega)
        exact down1_any (W.heap.size + 1) W.heap.size t now win u (hd.bn.cell 0) (hd.bx.cell 2) hn0 ht2 hwin.1 hwin.2))
      obtain ⟨kt, hkt⟩ : ∃ kt, tm.filter (fun t => !decide (t ≤ now - win)) = kt := ⟨_, rfl⟩
      rw [hkt] at HDF
      have hkl : kt.length ≤ tm.length := by rw [← hkt]; exact List.length_filter_le _ _
      have HKT := Lib.hid hkt
      clear hkt
      have k4 := HD6.out.bx.cell 4
      simp only [List.getElem?_toArray, List.getElem?_cons_zero, List.getElem?_cons_succ] at k4
      go_wp2_with fail
      refine HDF.out.mono ?_
      rintro e w7 ⟨rfl, ho7, hn7⟩
      have HD7 := Lib.hid (HD6.out.only hn7 (fun b hb => by have := own_min HT6.out b hb; omega))
      have HC7 := Lib.hid (HPUT.out.only hn7 (fun b hb hb2 => own_apart HPUT.out HT6.out (by decide) b hb hb2))
      have HT7 := Lib.hid ho7
      have hs7 := hn7.size
      clear ho7 hn7 k4
      have k4 := HD7.out.bx.cell 4
      simp only [List.getElem?_toArray, List.getElem?_cons_zero, List.getElem?_cons_succ] at k4
      have f4 := HD7.out.bx.frozen 4
      go_upto_region 17 with fail
      have HD8 := Lib.hid (HD7.out.put4 (.slice B2 kt.length d2))
      have HC8 := Lib.hid (HC7.out.far (p := ⟨W.heap.size, 4, none⟩) (fun g o e => by injection e with e; injection e with e; subst e; dsimp only; omega) (.slice B2 kt.length d2))
      have HT8 := Lib.hid (HT7.out.far (p := ⟨W.heap.size, 4, none⟩) (fun g o e => by have := own_min HT7.out g (by rw [e]; rfl); dsimp only; omega) (.slice B2 kt.length d2))
      clear k4 f4
      generalize w7.setCell ⟨W.heap.size, 4, none⟩ (.slice B2 kt.length d2) = w8 at *
      have k4 := HD8.out.bx.cell 4
      have k1 := HD8.out.bx.cell 1
      simp only [List.getElem?_toArray, List.getElem?_cons_zero, List.getElem?_cons_succ] at k4 k1
      have hmo : most ≤ (kt.length : Int) := by
        have := HMO.out
        unfold keptT at this
        dsimp only at this
        rw [HKT.out] at this
        exact this
      have dm : decide (most ≤ (kt.length : Int)) = true := decide_eq_true hmo
      clear hmo
      go_upto_region 18 with fail
      clear k4 k1
      obtain ⟨k0, k1, k2, k3, k4⟩ := cells5 HD8.out.bx
      have HST := Lib.hid (fun (w : World) (hb : Box w W.heap.size 215 #[.int .i64 how, .int .i64 most, .int .i64 win, .slice (some ⟨gA, oA2, none⟩) ch.length c2, .slice B2 kt.length d2]) (ho : OwnAt w wc.heap.size 230 3 (some ⟨gA, oA2, none⟩) (ch.set i (y0, y1, false)).length c2 (flat wcC (ch.set i (y0, y1, false)))) => by
        have h := stopW W.heap.size wc.heap.size ⟨some ⟨gA, oA2, none⟩, c2, B2, d2⟩ ⟨how, most, win, ch.set i (y0, y1, false), kt⟩ 0 ch.length w (by dsimp only; rw [List.length_set]; exact hb) ho (by dsimp only; rw [List.length_set]; omega) (by dsimp only; rw [List.length_set]; exact h20)
        dsimp only at h
        rw [Nat.zero_add] at h
        exact h)
      obtain ⟨q, hqe⟩ : ∃ q, stopL 0 ch.length (ch.set i (y0, y1, false)) = q := ⟨_, rfl⟩
      rw [hqe] at HST
      have HQE := Lib.hid hqe
      have hql : q.1.length = ch.length := by rw [← hqe, stopL_len _ _ _ (by simp), List.length_set]
      clear hqe
      go_region_law ((first
        | (go_simp; go_at_call 183; refine (HST.out _ HD8.out.drew.bx HC8.out.drew).mono ?_; rintro e w9 ⟨C9, kc9, rfl, hoc9, hoi9, hon9⟩; have hda := HD8.out.drew.only hon9 (fun b hb => by simp at hb; omega); obtain ⟨z0, z1, z2, z3, z4⟩ := cells5 hda.bx; obtain ⟨r0, r1, r2, r3, r4, p0, p1, p2⟩ := hda.res; obtain ⟨g0, g1, g2, g3, g4, q0, q1, q2⟩ := hda.fro)
      ))
      all_goals
        have HD9 := Lib.hid hda
        have hdr : w8.drew.heap.size = w8.heap.size := rfl
        have hw89 := hon9.size
        have HT9 := Lib.hid (HT8.out.drew.only hon9 (fun b hb hb2 => own_apart HT8.out HC8.out (by decide) b hb hb2))
        have HC9 := Lib.hid hoc9
        have HI9 := Lib.hid hoi9
        have h8 := HD8.out.lt
        have h68 : wc.heap.size ≤ w8.heap.size := by have := HC8.out.lt; omega
        have HSR := Lib.hid (setRes_only W w9 (.int .i64 how) (.int .i64 most) (.int .i64 win) (.slice (some ⟨gA, oA2, none⟩) ch.length c2) (.slice B2 kt.length d2) (.slice C9 q.2.length kc9) (.slice none 0 0) (.bool true))
        have HBB := Lib.hid (HSR.out.to_below hda.bb hda.bb.size (fun i hi => by omega))
        have HRL := Lib.hid (run_load_box (P := Try.prog) (setRes_br hda (.int .i64 how) (.int .i64 most) (.int .i64 win) (.slice (some ⟨gA, oA2, none⟩) ch.length c2) (.slice B2 kt.length d2) (.slice C9 q.2.length kc9) (.slice none 0 0) (.bool true)) Try.underlying215 rfl (by rw [ward_info]; rfl))
        have HPL := Lib.hid (run_load_box (P := Try.prog) (setRes_bp hda (.int .i64 how) (.int .i64 most) (.int .i64 win) (.slice (some ⟨gA, oA2, none⟩) ch.length c2) (.slice B2 kt.length d2) (.slice C9 q.2.length kc9) (.slice none 0 0) (.bool true)) Try.underlying220 rfl (by rw [plan_info]; rfl))
        clear hda hon9 hoc9 hoi9 k0 k1 k2 k3 k4 z0 z1 z2 z3 z4 r0 r1 r2 r3 r4 p0 p1 p2 g0 g1 g2 g3 g4 q0 q1 q2
        go_wp2_with fail
        refine bodyPost_ret (v := .tuple #[.agg #[.int .i64 how, .int .i64 most, .int .i64 win, .slice (some ⟨gA, oA2, none⟩) ch.length c2, .slice B2 kt.length d2], .agg #[.slice C9 q.2.length kc9, .slice none 0 0, .bool true], .int .i64 0]) (res_c2_t1 Try.results118 rfl HRL.out rfl HPL.out rfl) rfl ?_
        refine ⟨⟨some ⟨gA, oA2, none⟩, c2, B2, d2⟩, ⟨C9, kc9, none, 0⟩, ?_, ⟨?_, ?_⟩, ⟨?_, OwnAt.nil⟩, HBB.out⟩
        · dsimp only
          rw [HY.out, show deadC (y0, y1, y2) = (y0, y1, false) from rfl, HQE.out]
          unfold wardV planV keptT
          dsimp only
          rw [HKT.out, hql]
          rfl
        · dsimp only
          rw [HY.out, show deadC (y0, y1, y2) = (y0, y1, false) from rfl, HQE.out]
          exact (HC9.out.only HSR.out (fun b hb ht => by have := own_min HC9.out b hb; omega)).lower (by omega)
        · unfold keptT
          dsimp only
          rw [HKT.out]
          exact (HT9.out.only HSR.out (fun b hb ht => by have := own_min HT9.out b hb; omega)).lower (by omega)
        · dsimp only
          rw [HY.out, show deadC (y0, y1, y2) = (y0, y1, false) from rfl, HQE.out]
          exact (HI9.out.only HSR.out (fun b hb ht => by have := own_min HI9.out b hb; omega)).lower (by omega)
end Go.Proofs.Ytcmkkfpcdebfkaa
