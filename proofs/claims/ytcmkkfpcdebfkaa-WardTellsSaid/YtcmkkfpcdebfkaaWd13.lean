/-
  A fall after which children are started again (ward.Down).
-/
import Derived.Test.YtcmkkfpcdebfkaaWd12
import Derived.Test.YtcmkkfpcdebfkaaCatInts
import Derived.Deep.CutBlock
namespace Go.Proofs.Ytcmkkfpcdebfkaa
open Go.RowKit

/-- One number appended, in a region that draws its order. -/
theorem step_push_w {ops : Array Oper} {o : Oper} {a : Act} {w : World} {K : Act → World → Prop} {Q : Exit → Act → World → Prop} {E : Prop} (hgd : o.guard = none) (s x : Operand)
    (ho : o.op = .call { callee := .builtin .append, args := #[s, x], argTypes := #[33, 33] })
    (base : Nat) (A : Option Addr) (c : Nat) (zs : List Int) (hs : a.eval s = .slice A zs.length c) (hown : OwnAt w base 3 1 A zs.length c (ints zs)) (g : Nat) (y : Int) (hx : a.eval x = .slice (some ⟨g, 0, none⟩) 1 1) (hy : w.cell? ⟨g, 0, none⟩ = some (.int .i64 y))
    (hb : (zs.length + 1) * 8 ≤ 140737488355328) (hbase : base ≤ w.heap.size)
    (h : ∀ A' c' w', OwnAt w' base 3 1 A' (zs.length + 1) c' (ints (zs ++ [y])) → Only (fun b => A.map (·.block) = some b) w w' → K (a.put o.dst (.slice A' (zs.length + 1) c')) w') :
    if Region.wanted o (yielded ops a.tmps) = true then Oper.wp Try.prog o a w K Q else E := by
  obtain ⟨i0, hi0, hz0, hz1, hz2⟩ := info_parts int_info
  refine step_append_q hgd s x _ ho base 3 i0 (.int .i64 0) 1 8 Try.underlying33 hi0 hz0 hz1 hz2 rfl (by decide) A zs.length c (ints zs) hs hown ⟨g, 0, none⟩ 1 1 (ints [y]) hx rfl ?_ ?_ (by unfold maxLen; omega) hb hbase (by decide) ?_
  · intro j u hu
    rw [addr_add, Nat.zero_add]
    match j, hu with
    | 0, hu => simp [ints] at hu; subst hu; exact hy
    | j + 1, hu => simp [ints] at hu
  · intro u hu
    simp only [ints, List.mem_map] at hu
    obtain ⟨x, _, rfl⟩ := hu
    rfl
  · intro g' o' c' w' h1 h2 _
    exact h _ c' w' (by rw [show ints (zs ++ [y]) = ints zs ++ ints [y] by simp [ints]]; exact h1) ⟨h2.os, h2.tape, h2.output, h2.size, fun i hi hne => h2.block i hi (fun e => hne e.symm)⟩
theorem box_drew {w : World} {g : Nat} {t : TypeId} {cs : Array Value} (h : Box w g t cs) : Box w.drew g t cs := h
set_option maxRecDepth 100000 in
set_option maxHeartbeats 8000000 in
theorem downW_again (x : WA) (v : Wd) (id : Int) (failed : Bool) (now : Int) (W : World) (i : Nat) (h : WIn W x v) (ho : FallOk v id now i) (hq : quietB (v.ch.getD i (0, 0, false)) failed = false) (hm : ¬ v.most ≤ (keptT v now).length) :
    Calls Try.prog 118 #[wardV x v, .int .i64 id, .bool failed, .int .i64 now] W (FallPost (⟨v.how, v.most, v.win, v.ch, keptT v now ++ [now]⟩, (stopL (rngF v.how i) (rngN v.how i v.ch.length) (v.ch.set i (deadC (v.ch.getD i (0, 0, false))))).2, liveIds ((v.ch.drop (rngF v.how i)).take (rngN v.how i v.ch.length)), false) 0 W) := by
  have HMO := Lib.hid hm
  have HUQ := Lib.hid (uniq_of (wardF_zero ho.right).1)
  have HLI := Lib.hid ho.live
  clear hm
  obtain ⟨hw, hidx, hil, hlive, ht1, ht2⟩ := ho
  obtain ⟨_, HTM, h20, h50, hhow, hmost, hwin⟩ := wardF_zero hw
  have hlp := lastT_pos HTM
  have hn0 : 0 ≤ now := by omega
  have HC := Lib.hid (fun w => checkW x v w)
  rw [hw] at HC
  have HCP := Lib.hid (fun w h => copyW x v w h h20 h50)
  have HLT := Lib.hid ht1
  clear hw HTM hlp ht1
  have HIN := Lib.hid h
  obtain ⟨A, c, B, d⟩ := x
  obtain ⟨how, most, win, ch, tm⟩ := v
  have HD0 := Lib.hid (dn_start W #[.int .i64 how, .int .i64 most, .int .i64 win, .slice A ch.length c, .slice B tm.length d] now)
  have HI0 := Lib.hid (HIN.out.below HD0.out.bb)
  unfold wardV at *
  dsimp only at *
  have hg : W.heap.size + 3 < ((((W.alloc (.cells #[.int .i64 how, .int .i64 most, .int .i64 win, .slice A ch.length c, .slice B tm.length d] 215)).alloc (.cells #[.int .i64 now] 3)).alloc (.cells zW 215)).alloc (.cells zP 220)).heap.size := HD0.out.lt
  clear h
  go_enter Try.func118, Try.ntmps118
  go_upto_region 1 with fail
  generalize (((W.alloc (.cells #[.int .i64 how, .int .i64 most, .int .i64 win, .slice A ch.length c, .slice B tm.length d] 215)).alloc (.cells #[.int .i64 now] 3)).alloc (.cells #[.int .i64 0, .int .i64 0, .int .i64 0, .slice none 0 0, .slice none 0 0] 215)).alloc (.cells #[.slice none 0 0, .slice none 0 0, .bool false] 220) = w1 at *
  have HR0 := Lib.hid HD0.out.bx
  go_wp2_with (guard_target =~ wpList _ _ _ ({ dst := some 19, op := _, type := _, pos := _, after := _, guard := _ } :: _) _ _; refine wpList_load_box rfl 215 (.tmp 4) rfl W.heap.size rfl #[.int .i64 how, .int .i64 most, .int .i64 win, .slice A ch.length c, .slice B tm.length d] _ HR0 Try.underlying215 rfl (by rw [ward_info]; rfl) ?_)
  refine (HC.out w1 HI0.out).mono ?_
  rintro e w2 ⟨rfl, hb2⟩
  have HD2 := Lib.hid (HD0.out.below hb2)
  have HI2 := Lib.hid (HI0.out.below hb2)
  clear hb2 hg
  have k3 := HD2.out.bx.cell 3
  simp only [List.getElem?_toArray, List.getElem?_cons_zero, List.getElem?_cons_succ] at k3
  go_wp2_with fail
  refine (find_any id A c ch w2 HI2.out.ch (by unfold maxLen; omega)).mono ?_
  rintro e w3 ⟨rfl, hb3⟩
  have HD3 := Lib.hid (HD2.out.below hb3)
  have HI3 := Lib.hid (HI2.out.below hb3)
  clear hb3 k3
  rw [hidx]
  obtain ⟨bA, oA, rfl, hbA, c0, c1, cl⟩ := HI3.out.ch.wc hil (0, 0, false)
  rw [hlive] at cl
  have hc63 : c ≤ 9223372036854775807 := by have := HIN.out.c2; unfold maxLen at this; exact this
  have hd63 : d ≤ 9223372036854775807 := by have := HIN.out.d2; unfold maxLen at this; exact this
  have d1 : decide ((i : Int) < 0) = false := decide_eq_false (by omega)
  have hi20 : i < 20 := by omega
  have k3 := HD3.out.bx.cell 3
  simp only [List.getElem?_toArray, List.getElem?_cons_zero, List.getElem?_cons_succ] at k3
  clear hidx c0 c1 hlive
  go_upto_region 9 with fail
  go_cut [45] (fun s wx => s = .bool false ∧ Below w3.heap.size w3 wx)
  case first =>
    have k7 := HD3.out.bn.cell 0
    have k4 := HD3.out.bx.cell 4
    simp only [List.getElem?_toArray, List.getElem?_cons_zero, List.getElem?_cons_succ] at k4 k7
    have e2 : decide (now < 0) = false := decide_eq_false (by omega)
    have e3 : decide (1099511627776 < now) = false := decide_eq_false (by omega)
    by_cases hz : 0 < tm.length
    · have d4 : decide ((0 : Int) < (tm.length : Int)) = true := decide_eq_true (by omega)
      have d4' : decide (0 < tm.length) = true := decide_eq_true hz
      rw [lastT_at] at HLT
      obtain ⟨bB, oB, rfl, hbB, ct⟩ := HI3.out.tm.int (show tm.length - 1 < tm.length by omega)
      have d5 : decide (now < tm.getD (tm.length - 1) 0) = false := decide_eq_false (by have := HLT.out; omega)
      have ei : ((tm.length : Int) - 1) = ((tm.length - 1 : Nat) : Int) := by omega
      clear HLT
      generalize tm.getD (tm.length - 1) 0 = lt at *
      go_region
      go_wp2_with fail
      go_meet
      exact ⟨rfl, below_drewN (Below.refl _ _) 1⟩
    · have d4 : decide ((0 : Int) < (tm.length : Int)) = false := decide_eq_false (by omega)
      have d4' : decide (0 < tm.length) = false := decide_eq_false hz
      go_region
      go_wp2_with fail
      go_meet
      exact ⟨rfl, below_drewN (Below.refl _ _) 1⟩
  case rest =>
    obtain ⟨rfl, hbc⟩ := hcut
    have HDc := Lib.hid (HD3.out.below hbc)
    have HIc := Lib.hid (HI3.out.below hbc)
    have HRx := Lib.hid HDc.out.bx
    clear hbc k3 cl hbA
    go_wp2_with (guard_target =~ wpList _ _ _ ({ dst := some 72, op := _, type := _, pos := _, after := _, guard := _ } :: _) _ _; refine wpList_load_box rfl 215 (.tmp 4) rfl W.heap.size rfl #[.int .i64 how, .int .i64 most, .int .i64 win, .slice (some ⟨bA, oA, none⟩) ch.length c, .slice B tm.length d] _ HRx Try.underlying215 rfl (by rw [ward_info]; rfl) ?_)
    refine (HCP.out wc HIc.out).mono ?_
    rintro e w4 ⟨⟨A2, c2, B2, d2⟩, rfl, ho4, hb4⟩
    have HD4 := Lib.hid (HDc.out.below hb4)
    have HX4 := Lib.hid HD4.out.bx
    have hlc := HDc.out.lt
    have HO4 := Lib.hid ho4
    clear ho4 hb4
    go_upto_region 12 with (guard_target =~ wpList _ _ _ ({ dst := none, op := _, type := _, pos := _, after := _, guard := _ } :: _) _ _; refine wpList_store_box rfl 215 (.tmp 4) (.tmp 73) rfl W.heap.size rfl #[.int .i64 how, .int .i64 most, .int .i64 win, .slice (some ⟨bA, oA, none⟩) ch.length c, .slice B tm.length d] #[.int .i64 how, .int .i64 most, .int .i64 win, .slice A2 ch.length c2, .slice B2 tm.length d2] rfl HX4 rfl (by rw [ward_info]; rfl) (by simp [Value.oneCell']) ?_; intro w5 hs5)
    have HD5 := Lib.hid (HD4.out.stored hs5.out)
    obtain ⟨hoc, hot⟩ := HO4.out.only hs5.out.only (fun b hb => by omega)
    dsimp only at hoc hot
    clear hs5
    obtain ⟨gA, oA2, rfl, hnc⟩ := hoc.some_of (by omega)
    obtain ⟨y, hy⟩ : ∃ y, ch.getD i (0, 0, false) = y := ⟨_, rfl⟩
    have HY := Lib.hid hy
    have hgA := hoc.lt
    have k2 := hoc.cells (i * 3 + 2) _ (flat_get wcC_len (j := 2) (getD_some (0, 0, false) hil) rfl)
    rw [← Nat.add_assoc] at k2
    have f2 := hoc.frozen (oA2 + i * 3 + 2)
    have HPUT := Lib.hid (own_put hoc hil false)
    rw [hy] at k2 HPUT hq
    have hcap := hoc.cap_le
    have hc263 : c2 ≤ 9223372036854775807 := by have := hcap.2; unfold maxLen at this; omega
    have k3 := HD5.out.bx.cell 3
    simp only [List.getElem?_toArray, List.getElem?_cons_zero, List.getElem?_cons_succ] at k3
    have HT6 := Lib.hid (hot.only ((Only.refl (fun b => b = gA) w5).set (p := ⟨gA, oA2 + i * 3 + 2, none⟩) rfl (.bool false)) (fun b hb hb2 => own_apart hot hoc (by decide) b hb (by simp; exact hb2.symm)))
    have HD6 := Lib.hid (HD5.out.only ((Only.refl (fun b => b = gA) w5).set (p := ⟨gA, oA2 + i * 3 + 2, none⟩) rfl (.bool false)) (fun b hb => by omega))
    have hgA1 := hgA.1
    clear hcap hoc hot hy
    obtain ⟨y0, y1, y2⟩ := y
    dsimp only at k2 HPUT
    go_upto_region 13 with fail
    have hgA6 : gA < (w5.setCell ⟨gA, oA2 + i * 3 + 2, none⟩ (.bool false)).heap.size := HPUT.out.lt.2
    clear k2 f2 k3 hgA
    generalize w5.setCell ⟨gA, oA2 + i * 3 + 2, none⟩ (.bool false) = w6 at *
    have k1 := HPUT.out.cells (i * 3 + 1) _ (flat_get wcC_len (j := 1) (x := (y0, y1, false)) (by rw [List.getElem?_set_self hil]) rfl)
    rw [← Nat.add_assoc] at k1
    dsimp only at k1
    have k3 := HD6.out.bx.cell 3
    simp only [List.getElem?_toArray, List.getElem?_cons_zero, List.getElem?_cons_succ] at k3
    go_upto_region 14 with fail
    go_cut [94] (fun s wx => s = .bool (quietB (y0, y1, y2) failed) ∧ w6 = wx)
    case first =>
      clear hq
      by_cases n1 : y1 = 3
      · have e1 : (y1 == 3) = true := by simpa using n1
        have e1' : decide (y1 = 3) = true := decide_eq_true n1
        have HE := Lib.hid (show quietB (y0, y1, y2) failed = true by simp [quietB, e1])
        clear n1
        go_wp2_with fail
        go_meet
        exact ⟨by rw [HE.out], rfl⟩
      · have e1 : (y1 == 3) = false := by simpa using n1
        have e1' : decide (y1 = 3) = false := decide_eq_false n1
        by_cases n2 : y1 = 2
        · have e2 : (y1 == 2) = true := by simpa using n2
          have e2' : decide (y1 = 2) = true := decide_eq_true n2
          have HE := Lib.hid (show quietB (y0, y1, y2) failed = !failed by simp [quietB, e1, e2])
          clear n1 n2
          go_wp2_with fail
          go_meet
          exact ⟨by rw [HE.out], rfl⟩
        · have e2 : (y1 == 2) = false := by simpa using n2
          have e2' : decide (y1 = 2) = false := decide_eq_false n2
          have HE := Lib.hid (show quietB (y0, y1, y2) failed = false by simp [quietB, e1, e2])
          clear n1 n2
          go_wp2_with fail
          go_meet
          exact ⟨by rw [HE.out], rfl⟩
    case rest =>
      obtain ⟨rfl, rfl⟩ := hcut
      rw [hq]
      clear hq k1 k3
      have HDF := Lib.hid (deleteFunc_any wc.heap.size B2 d2 tm 182 #[.pointer (some ⟨W.heap.size + 1, 0, none⟩), .pointer (some ⟨W.heap.size, 0, none⟩)] (fun t => decide (t ≤ now - win)) w6 enters_down1 h50 HT6.out (fun t u hu => by
        have hd := HD6.out.only hu (fun b hb => by have := own_min HT6.out b hb; omega)
        exact down1_any (W.heap.size + 1) W.heap.size t now win u (hd.bn.cell 0) (hd.bx.cell 2) hn0 ht2 hwin.1 hwin.2))
      obtain ⟨kt, hkt⟩ : ∃ kt, tm.filter (fun t => !decide (t ≤ now - win)) = kt := ⟨_, rfl⟩
      rw [hkt] at HDF
      have hkl : kt.length ≤ tm.length := by rw [← hkt]; exact List.length_filter_le _ _
      have HKT := Lib.hid hkt
      clear hkt
      have k4 := HD6.out.bx.cell 4
      simp only [List.getElem?_toArray, List.getElem?_cons_zero, List.getElem?_cons_succ] at k4
      go_wp2_with fail
      refine HDF.out.mono ?_
      rintro e w7 ⟨rfl, ho7, hn7⟩
      have HD7 := Lib.hid (HD6.out.only hn7 (fun b hb => by have := own_min HT6.out b hb; omega))
      have HC7 := Lib.hid (HPUT.out.only hn7 (fun b hb hb2 => own_apart HPUT.out HT6.out (by decide) b hb hb2))
      have HT7 := Lib.hid ho7
      have hs7 := hn7.size
      clear ho7 hn7 k4
      have k4 := HD7.out.bx.cell 4
      simp only [List.getElem?_toArray, List.getElem?_cons_zero, List.getElem?_cons_succ] at k4
      have f4 := HD7.out.bx.frozen 4
      go_upto_region 17 with fail
      have HD8 := Lib.hid (HD7.out.put4 (.slice B2 kt.length d2))
      have HC8 := Lib.hid (HC7.out.far (p := ⟨W.heap.size, 4, none⟩) (fun g o e => by injection e with e; injection e with e; subst e; dsimp only; omega) (.slice B2 kt.length d2))
      have HT8 := Lib.hid (HT7.out.far (p := ⟨W.heap.size, 4, none⟩) (fun g o e => by have := own_min HT7.out g (by rw [e]; rfl); dsimp only; omega) (.slice B2 kt.length d2))
      clear k4 f4
      generalize w7.setCell ⟨W.heap.size, 4, none⟩ (.slice B2 kt.length d2) = w8 at *
      have k4 := HD8.out.bx.cell 4
      have k1 := HD8.out.bx.cell 1
      simp only [List.getElem?_toArray, List.getElem?_cons_zero, List.getElem?_cons_succ] at k4 k1
      have hmo : (kt.length : Int) < most := by
        have := HMO.out
        unfold keptT at this
        dsimp only at this
        rw [HKT.out] at this
        omega
      have dm : decide (most ≤ (kt.length : Int)) = false := decide_eq_false (by omega)
      clear hmo
      have k7 := HD8.out.bn.cell 0
      simp only [List.getElem?_toArray, List.getElem?_cons_zero] at k7
      go_upto_region 19 with fail
      have HT8a := Lib.hid (HT8.out.alloc (.cells #[.int .i64 now] 3))
      have HNC := Lib.hid (show (w8.alloc (.cells #[.int .i64 now] 3)).cell? ⟨w8.heap.size, 0, none⟩ = some (.int .i64 now) from (Box.new w8 3 #[.int .i64 now]).cell 0)
      have hb68 : wc.heap.size ≤ w8.heap.size := by have := HC8.out.lt; omega
      have hbd : (kt.length + 1) * 8 ≤ 140737488355328 := by omega
      have hl8 := HD8.out.lt
      have f4 : ∀ w', Only (fun b => B2.map (·.block) = some b) (w8.alloc (.cells #[.int .i64 now] 3)) w' → DnW W w' #[.int .i64 how, .int .i64 most, .int .i64 win, .slice (some ⟨gA, oA2, none⟩) ch.length c2, .slice B2 kt.length d2] now := fun w' hw => (HD8.out.only ((Only.refl (fun b => False) w8).alloc _) (fun b hb => hb.elim)).only hw (fun b hb => by have := own_min HT8.out b hb; omega)
      have HF4 := Lib.hid f4
      clear f4 k1
      go_upto_region 20 with (at_builtin; refine wpList_push_w rfl (.tmp 115) (.tmp 117) rfl wc.heap.size B2 d2 kt rfl HT8a.out w8.heap.size now rfl HNC.out hbd (by simp; omega) ?_; intro B3 d3 w9 hown9 ho9; have k49 := (HF4.out w9 ho9).bx.cell 4; have f49 := (HF4.out w9 ho9).bx.frozen 4; simp only [List.getElem?_toArray, List.getElem?_cons_zero, List.getElem?_cons_succ] at k49)
      obtain ⟨kn, hkn⟩ : ∃ kn, kt ++ [now] = kn := ⟨_, rfl⟩
      have hknl : kn.length = kt.length + 1 := by rw [← hkn]; simp
      rw [hkn, ← hknl] at hown9
      rw [← hknl]
      have HKN := Lib.hid hkn
      have HKL := Lib.hid hknl
      have HD9 := Lib.hid ((HF4.out w9 ho9).put4 (.slice B3 kn.length d3))
      have hoa : Only (fun b => B2.map (·.block) = some b) w8 w9 := ((Only.refl _ w8).alloc _).trans ho9
      have hC9 := HC8.out.only hoa (fun b hb hb2 => own_apart HC8.out HT8.out (by decide) b hb hb2)
      have HC9 := Lib.hid (hC9.far (p := ⟨W.heap.size, 4, none⟩) (fun g o e => by injection e with e; injection e with e; subst e; dsimp only; omega) (.slice B3 kn.length d3))
      have HT9 := Lib.hid (hown9.far (p := ⟨W.heap.size, 4, none⟩) (fun g o e => by have := own_min hown9 g (by rw [e]; rfl); dsimp only; omega) (.slice B3 kn.length d3))
      clear k49 f49 hkn hknl ho9 hoa hC9 hown9 k4 k7
      generalize w9.setCell ⟨W.heap.size, 4, none⟩ (.slice B3 kn.length d3) = w10 at *
      have k0 := HD9.out.bx.cell 0
      have k3 := HD9.out.bx.cell 3
      simp only [List.getElem?_toArray, List.getElem?_cons_zero, List.getElem?_cons_succ] at k0 k3
      have hrl := rng_le how hil
      obtain ⟨f, hf⟩ : ∃ f, rngF how i = f := ⟨_, rfl⟩
      obtain ⟨n, hn⟩ : ∃ n, rngN how i ch.length = n := ⟨_, rfl⟩
      rw [hf, hn] at hrl
      have HFN := Lib.hid (And.intro hf hn)
      go_upto_block 1 with fail
      go_cut [14, 15] (fun v14 v15 wx => v14 = .int .i64 f ∧ v15 = .int .i64 ((f + n : Nat) : Int) ∧ ∃ k, w10.drewN k = wx)
      case first =>
        unfold rngF at hf
        unfold rngN at hn
        by_cases n1 : how = 2
        · have e1 : (how == 2) = true := by simpa using n1
          have e1' : decide (how = 2) = true := decide_eq_true n1
          rw [if_pos n1] at hf hn
          subst hf hn
          clear n1
          go_wp2_with fail
          go_quiet (fail)
          go_wp2_with fail
          go_meet
          exact ⟨rfl, by rw [Nat.zero_add], _, rfl⟩
        · have e1 : (how == 2) = false := by simpa using n1
          have e1' : decide (how = 2) = false := decide_eq_false n1
          rw [if_neg n1] at hf hn
          subst hf
          by_cases n2 : how = 3
          · have e2 : (how == 3) = true := by simpa using n2
            have e2' : decide (how = 3) = true := decide_eq_true n2
            rw [if_pos n2] at hn
            have hfn : i + n = ch.length := by omega
            clear n1 n2
            go_wp2_with fail
            go_meet
            exact ⟨rfl, by rw [hfn], 0, rfl⟩
          · have e2 : (how == 3) = false := by simpa using n2
            have e2' : decide (how = 3) = false := decide_eq_false n2
            rw [if_neg n2] at hn
            subst hn
            clear n1 n2
            go_wp2_with fail
            go_meet
            exact ⟨rfl, by simp, 0, rfl⟩
      case rest =>
        obtain ⟨rfl, rfl, kq, rfl⟩ := hcut
        have hbk : Below w10.heap.size w10 (w10.drewN kq) := below_drewN (Below.refl _ _) kq
        have HD11 := Lib.hid (HD9.out.below hbk)
        have HC11 := Lib.hid (HC9.out.below hbk)
        have HT11 := Lib.hid (HT9.out.below hbk)
        clear hbk k0 k3 hf hn
        generalize w10.drewN kq = w11 at *
        obtain ⟨q, hqe⟩ : ∃ q, stopL f n (ch.set i (y0, y1, false)) = q := ⟨_, rfl⟩
        have hql : q.1.length = ch.length := by rw [← hqe, stopL_len _ _ _ (by simp; omega), List.length_set]
        have hst := stopW W.heap.size wc.heap.size ⟨some ⟨gA, oA2, none⟩, c2, B3, d3⟩ ⟨how, most, win, ch.set i (y0, y1, false), kn⟩ f n w11 (by dsimp only; rw [List.length_set]; exact HD11.out.bx) HC11.out (by dsimp only; rw [List.length_set]; omega) (by dsimp only; rw [List.length_set]; exact h20)
        dsimp only at hst
        rw [hqe] at hst
        have HST := Lib.hid hst
        have HQE := Lib.hid hqe
        clear hst hqe
        go_wp2_with fail
        refine HST.out.mono ?_
        rintro e w12 ⟨C, kc, rfl, hoc, hoi, hon⟩
        have hs12 := hon.size
        have h11 := HD11.out.lt
        have hgA11 : gA < w11.heap.size := HC11.out.lt.2
        have HD12 := Lib.hid (HD11.out.only hon (fun b hb => by simp at hb; omega))
        have HT12 := Lib.hid (HT11.out.only hon (fun b hb hb2 => own_apart HT11.out HC11.out (by decide) b hb hb2))
        have HPB := Lib.hid (Box.new w12 220 zP)
        have HC12 := Lib.hid (hoc.alloc (.cells zP 220))
        have HI12 := Lib.hid (hoi.alloc (.cells zP 220))
        have HT12a := Lib.hid (HT12.out.alloc (.cells zP 220))
        have HD12a := Lib.hid (HD12.out.below ((Below.refl w12.heap.size w12).alloc (Nat.le_refl _) (.cells zP 220)))
        clear hoc hoi hon
        go_upto_region 27 with (guard_target =~ wpList _ _ _ ({ dst := none, op := _, type := _, pos := _, after := _, guard := _ } :: _) _ _; refine wpList_store_box rfl 220 (.tmp 16) (.tmp 138) rfl w12.heap.size rfl zP #[.slice C q.2.length kc, .slice none 0 0, .bool false] rfl HPB rfl (by rw [plan_info]; rfl) (by simp [Value.oneCell']) ?_; intro w13 hsp)
        have hg12 : gA < w12.heap.size := by omega
        have HPX := Lib.hid hsp.out.box
        have HC13 := Lib.hid (HC12.out.only hsp.out.only (fun b hb => by simp at hb; omega))
        have HI13 := Lib.hid (HI12.out.only hsp.out.only (fun b hb hb2 => by
          subst hb2
          have := ownW_ne HI12.out HPB.out (by decide)
          exact this hb))
        have HT13 := Lib.hid (HT12a.out.only hsp.out.only (fun b hb hb2 => by
          subst hb2
          have := ownW_ne HT12a.out HPB.out (by decide)
          exact this hb))
        have HD13 := Lib.hid (HD12a.out.only hsp.out.only (fun b hb => by have := HD12.out.lt; omega))
        have hsz13 := hsp.out.size
        rw [show (w12.alloc (.cells zP 220)).heap.size = w12.heap.size + 1 by simp] at hsz13
        clear hsp
        obtain ⟨pb, hpb⟩ : ∃ pb, w12.heap.size = pb := ⟨_, rfl⟩
        rw [hpb] at HPX
        have hgp : gA ≠ pb := by omega
        have hpb3 : pb < w13.heap.size := by omega
        have hwp : W.heap.size + 3 < pb := by have := HD12.out.lt; omega
        have HPB2 := Lib.hid hpb
        rw [show (⟨w12.heap.size, 0, none⟩ : Addr) = ⟨pb, 0, none⟩ by rw [hpb]]
        clear hpb
        obtain ⟨hf0, hn0'⟩ := HFN.out
        have h1f : f ≤ i := hrl.1
        have h2f : i < f + n := hrl.2.1
        have h3f : f + n ≤ ch.length := hrl.2.2
        obtain ⟨s, hse⟩ : ∃ s, stC ch i f n = s := ⟨_, rfl⟩
        have hq1 : q.1 = s := by rw [← hse, ← HQE.out]; unfold stC; rw [HY.out]; rfl
        have hsl : s.length = ch.length := by rw [← hse]; exact stC_len h3f
        have HIN2 := Lib.hid (fun k (h1 : f ≤ k) (h2 : k < f + n) => (stC_in (ch := ch) (i := i) h1f h2f h3f h1 h2))
        have HMF := Lib.hid (mixC_first (ch := ch) (i := i) h1f h2f h3f)
        have HML := Lib.hid (mixC_last (ch := ch) (i := i) h1f h2f h3f)
        have HLV := Lib.hid (show ∀ k, f ≤ k → k < f + n → k ≠ i → (q.2.any (fun y => (ch.getD k (0, 0, false)).1 == y)) = (ch.getD k (0, 0, false)).2.2 from fun k h1 h2 h3 => by
          have e1 : q.2 = (liveIds (((ch.set i (y0, y1, false)).drop f).take n)).reverse := by rw [← HQE.out, stopL_seg _ _ _ (by rw [List.length_set]; exact h3f)]
          have e2 : (ch.set i (y0, y1, false))[k]? = some (ch.getD k (0, 0, false)) := by
            rw [List.getElem?_set, if_neg (fun e => h3 e.symm)]
            exact getD_some _ (by omega)
          rw [e1]
          exact live_in (HUQ.out.set (getD_some (0, 0, false) hil) (by rw [HY.out])) e2 h1 h2)
        rw [hse] at HIN2 HMF HML
        rw [hq1] at HC13
        clear hf0 hn0' hrl hse hq1
        have hnl : n ≤ 20 := by omega
        rw [← hsl] at hql
        clear hql
        go_wp2_with fail
        go_loopg [17] n (fun gk v17 wr => ∃ (k : Nat) (acc : List Int) (D : Option Addr) (kd : Nat), gk = f + n - k ∧ f ≤ k ∧ k ≤ f + n ∧ v17 = .int .i64 k ∧ acc = liveIds ((ch.drop f).take (k - f)) ∧ OwnAt wr wc.heap.size 230 3 (some ⟨gA, oA2, none⟩) (mixC ch s k).length c2 (flat wcC (mixC ch s k)) ∧ Box wr pb 220 #[.slice C q.2.length kc, .slice D acc.length kd, .bool false] ∧ OwnAt wr w13.heap.size 3 1 D acc.length kd (ints acc) ∧ Only (fun b => b = gA ∨ b = pb) w13 wr)
        case atStart => exact ⟨f, [], none, 0, by omega, by omega, by omega, rfl, by simp [liveIds], by rw [HMF.out]; exact HC13.out, HPX.out, OwnAt.nil, Only.refl _ _⟩
        case round =>
          obtain ⟨k, acc, D, kd, hgk, hk1, hk2, rfl, hacc, hol, hpx, hoa, hon⟩ := hrel
          have HON := Lib.hid hon
          have HOL := Lib.hid hol
          have HPR := Lib.hid hpx
          have HOA := Lib.hid hoa
          have HAC := Lib.hid hacc
          have HGK := Lib.hid hgk
          have hdr := HD13.out.only hon (fun b hb => by have := own_min HC13.out gA rfl; omega)
          have HDR := Lib.hid hdr
          have hws := hon.size
          have hal : acc.length ≤ n := by
            rw [hacc]
            refine Nat.le_trans (liveIds_len _) ?_
            rw [List.length_take]
            omega
          rcases Nat.eq_or_lt_of_le hk2 with rfl | hlt
          · have e1 : decide (((f + n : Nat) : Int) < ((f + n : Nat) : Int)) = false := decide_eq_false (by omega)
            have e1' : decide (f + n < f + n) = false := decide_eq_false (by omega)
            clear hgk hol hpx hoa hon hdr hacc
            go_upto_region 34 with fail
            obtain ⟨k0, k1, k2, k3, k4⟩ := cells5 HDR.out.bx
            obtain ⟨r0, r1, r2, r3, r4, p0, p1, p2⟩ := HDR.out.res
            obtain ⟨g0, g1, g2, g3, g4, q0, q1, q2⟩ := HDR.out.fro
            have b0 := HPR.out.cell 0
            have b1 := HPR.out.cell 1
            have b2 := HPR.out.cell 2
            simp only [List.getElem?_toArray, List.getElem?_cons_zero, List.getElem?_cons_succ] at b0 b1 b2
            have HSR := Lib.hid ((setRes_only W wr (.int .i64 how) (.int .i64 most) (.int .i64 win) (.slice (some ⟨gA, oA2, none⟩) ch.length c2) (.slice B3 kn.length d3) (.slice C q.2.length kc) (.slice D acc.length kd) (.bool false)).drew)
            have HBB := Lib.hid (HSR.out.to_below HDR.out.bb HDR.out.bb.size (fun i hi => by omega))
            have HRL := Lib.hid (run_load_box (P := Try.prog) (box_drew (setRes_br HDR.out (.int .i64 how) (.int .i64 most) (.int .i64 win) (.slice (some ⟨gA, oA2, none⟩) ch.length c2) (.slice B3 kn.length d3) (.slice C q.2.length kc) (.slice D acc.length kd) (.bool false))) Try.underlying215 rfl (by rw [ward_info]; rfl))
            have HPL := Lib.hid (run_load_box (P := Try.prog) (box_drew (setRes_bp HDR.out (.int .i64 how) (.int .i64 most) (.int .i64 win) (.slice (some ⟨gA, oA2, none⟩) ch.length c2) (.slice B3 kn.length d3) (.slice C q.2.length kc) (.slice D acc.length kd) (.bool false))) Try.underlying220 rfl (by rw [plan_info]; rfl))
            have hlc13 : W.heap.size + 3 < w13.heap.size := by omega
            go_region
            clear k0 k1 k2 k3 k4 r0 r1 r2 r3 r4 p0 p1 p2 g0 g1 g2 g3 g4 q0 q1 q2 b0 b1 b2
            go_wp2_with fail
            refine bodyPost_ret (v := .tuple #[.agg #[.int .i64 how, .int .i64 most, .int .i64 win, .slice (some ⟨gA, oA2, none⟩) ch.length c2, .slice B3 kn.length d3], .agg #[.slice C q.2.length kc, .slice D acc.length kd, .bool false], .int .i64 0]) (res_c2_t1 Try.results118 rfl HRL.out rfl HPL.out rfl) rfl ?_
            have HE : ((⟨how, most, win, ch, keptT ⟨how, most, win, ch, tm⟩ now ++ [now]⟩ : Wd), (stopL (rngF how i) (rngN how i ch.length) (ch.set i (deadC (ch.getD i (0, 0, false))))).2, liveIds ((ch.drop (rngF how i)).take (rngN how i ch.length)), false) = ((⟨how, most, win, ch, kn⟩ : Wd), ((q.2, acc, false) : PlV)) := by
              rw [HFN.out.1, HFN.out.2, HY.out, show deadC (y0, y1, y2) = (y0, y1, false) from rfl, HQE.out, HAC.out, Nat.add_sub_cancel_left]
              unfold keptT
              dsimp only
              rw [HKT.out, HKN.out]
            rw [HE]
            have HOL2 := Lib.hid HOL.out
            rw [HML.out] at HOL2
            refine ⟨⟨some ⟨gA, oA2, none⟩, c2, B3, d3⟩, ⟨C, kc, D, kd⟩, rfl, ⟨?_, ?_⟩, ⟨?_, ?_⟩, HBB.out⟩
            · exact (HOL2.out.only HSR.out (fun b hb ht => by have := own_min HOL2.out b hb; omega)).lower (by omega)
            · have h1 := HT13.out.only HON.out (fun b hb ht => by
                rcases ht with rfl | rfl
                · exact own_apart HT13.out HC13.out (by decide) _ hb rfl
                · exact ownW_ne HT13.out HPX.out (by decide) hb)
              exact (h1.only HSR.out (fun b hb ht => by have := own_min h1 b hb; omega)).lower (by omega)
            · have h1 := HI13.out.only HON.out (fun b hb ht => by
                rcases ht with rfl | rfl
                · exact own_apart HI13.out HC13.out (by decide) _ hb rfl
                · exact ownW_ne HI13.out HPX.out (by decide) hb)
              exact (h1.only HSR.out (fun b hb ht => by have := own_min h1 b hb; omega)).lower (by omega)
            · exact (HOA.out.only HSR.out (fun b hb ht => by have := own_min HOA.out b hb; omega)).lower (by omega)
          · have e1 : decide ((k : Int) < ((f + n : Nat) : Int)) = true := decide_eq_true (by omega)
            have e1' : decide (k < f + n) = true := decide_eq_true hlt
            have hkc : k < ch.length := by omega
            have hml : (mixC ch s k).length = ch.length := mixC_len hsl k
            obtain ⟨z, hz⟩ : ∃ z, ch.getD k (0, 0, false) = z := ⟨_, rfl⟩
            have hat : (mixC ch s k).getD k (0, 0, false) = deadC z := by rw [mixC_at hsl hkc, HIN2.out k hk1 hlt, hz]
            have HSE := Lib.hid (show z.2.2 = true → (mixC ch s k).set k (z.1, z.2.1, true) = mixC ch s (k + 1) ∧ liveIds ((ch.drop f).take (k + 1 - f)) = acc ++ [z.1] from fun h => by
              refine ⟨?_, ?_⟩
              · rw [← mixC_set hsl hkc, hz]
                obtain ⟨a, b, c⟩ := z
                dsimp only at h
                subst h
                rfl
              · rw [seg_snoc ch hk1 hkc hlt, hz, if_pos h, hacc])
            have HSA := Lib.hid (show z.2.2 = false → mixC ch s k = mixC ch s (k + 1) ∧ liveIds ((ch.drop f).take (k + 1 - f)) = acc from fun h => by
              refine ⟨mixC_same hsl hkc ?_, ?_⟩
              · rw [HIN2.out k hk1 hlt, hz, deadC_eq h]
              · rw [seg_snoc ch hk1 hkc hlt, hz, if_neg (by rw [h]; decide), hacc, List.append_nil])
            have HLK := Lib.hid (HLV.out k hk1 hlt)
            have HKI := Lib.hid (show k = i → z.2.2 = true from fun e => by rw [← hz, e]; exact HLI.out)
            rw [hz] at HLK
            have kk0 := hol.cells (k * 3) _ (flat_get wcC_len (j := 0) (getD_some (0, 0, false) (show k < (mixC ch s k).length by omega)) rfl)
            have kk2 := hol.cells (k * 3 + 2) _ (flat_get wcC_len (j := 2) (getD_some (0, 0, false) (show k < (mixC ch s k).length by omega)) rfl)
            rw [← Nat.add_assoc] at kk2
            have ff2 := hol.frozen (oA2 + k * 3 + 2)
            rw [hat] at kk0 kk2
            have HAT := Lib.hid hat
            have hgAr := hol.lt
            have k3 := HDR.out.bx.cell 3
            have b0 := HPR.out.cell 0
            simp only [List.getElem?_toArray, List.getElem?_cons_zero, List.getElem?_cons_succ] at k3 b0
            have hki : Row wr wr.heap.size C (ints q.2) := (HI13.out.only HON.out (fun b hb ht => by
                rcases ht with rfl | rfl
                · exact own_apart HI13.out HC13.out (by decide) _ hb rfl
                · exact ownW_ne HI13.out HPX.out (by decide) hb)).row
            have hqm : q.2.length ≤ maxLen := by have := HI13.out.cap_le; omega
            obtain ⟨z0, z1, z2⟩ := z
            dsimp only [deadC] at kk0 kk2 HSE HSA HLK HKI
            have HCO := Lib.hid (fun j => (contains_ints C kc q.2 z0 wr.heap.size (wr.drewN j) (hki.below (below_drewN (Below.refl _ _) j)) hqm).mono (fun e w' h => And.intro h.1 h.2.symm))
            have hk20 : k < 20 := by omega
            clear hgk hol hpx hoa hon hdr hacc hz hat hki hqm
            go_upto_region 31 with fail
            go_cut [160] (fun s wx => s = .bool z2 ∧ ∃ j, wr.drewN j = wx)
            case first =>
              by_cases hik : k = i
              · subst hik
                obtain rfl : z2 = true := HKI.out rfl
                clear HCO
                go_quiet (fail)
                go_wp2_with fail
                go_meet
                exact ⟨rfl, _, rfl⟩
              · have i1 : ((k : Int) == (i : Int)) = false := beq_eq_false_iff_ne.2 (by omega)
                have i2 : (k == i) = false := by simpa using hik
                have i3 : decide ((k : Int) = (i : Int)) = false := decide_eq_false (by omega)
                have i4 : decide (k = i) = false := decide_eq_false hik
                have HL2 := Lib.hid (HLK.out hik)
                clear hik
                rw [HL2.out] at HCO
                go_quiet ((go_at_call 184; exact Calls.quiet_of_same (HCO.out _)))
                go_wp2_with fail
                go_meet
                exact ⟨rfl, _, rfl⟩
            case rest =>
              obtain ⟨rfl, jq, rfl⟩ := hcut
              have hbj : Below wr.heap.size wr (wr.drewN jq) := below_drewN (Below.refl _ _) jq
              have HON1 := Lib.hid (HON.out.below hbj)
              have HOL1 := Lib.hid (HOL.out.below hbj)
              have HPR1 := Lib.hid (HPR.out.below hbj HPR.out.lt)
              have HOA1 := Lib.hid (HOA.out.below hbj)
              have HDR1 := Lib.hid (HDR.out.below hbj)
              clear hbj HCO HLK HKI b0 k3 kk0 kk2 ff2 hgAr
              generalize wr.drewN jq = wo at *
              cases z2 with
              | false =>
                obtain ⟨HE1, HE2⟩ := HSA.out rfl
                have HS1 := Lib.hid HE1
                have HS2 := Lib.hid HE2
                clear HE1 HE2
                go_wp2_with fail
                go_roundg (f + n - (k + 1))
                case measure => have := HGK.out; omega
                case rel => exact ⟨k + 1, acc, D, kd, rfl, by omega, by omega, by go_num, HS2.out.symm, by rw [← HS1.out]; exact HOL1.out, HPR1.out, HOA1.out, HON1.out⟩
              | true =>
                obtain ⟨HE1, HE2⟩ := HSE.out rfl
                have HS1 := Lib.hid HE1
                have HS2 := Lib.hid HE2
                clear HE1 HE2
                have hol1 := HOL1.out
                have hkm : k < (mixC ch s k).length := by omega
                have kk0 := hol1.cells (k * 3) _ (flat_get wcC_len (j := 0) (getD_some (0, 0, false) hkm) rfl)
                have kk2 := hol1.cells (k * 3 + 2) _ (flat_get wcC_len (j := 2) (getD_some (0, 0, false) hkm) rfl)
                rw [← Nat.add_assoc] at kk2
                have ff2 := hol1.frozen (oA2 + k * 3 + 2)
                have HPT := Lib.hid (own_put hol1 hkm true)
                rw [HAT.out] at kk0 kk2 HPT
                dsimp only [deadC] at kk0 kk2 HPT
                have hgAo := hol1.lt
                have HONo := Lib.hid (HON1.out.set (p := ⟨gA, oA2 + k * 3 + 2, none⟩) (.inl rfl) (.bool true))
                have HPRo := Lib.hid (HPR1.out.far (p := ⟨gA, oA2 + k * 3 + 2, none⟩) (fun e => hgp e.symm) (.bool true))
                have HOAo := Lib.hid (HOA1.out.far (p := ⟨gA, oA2 + k * 3 + 2, none⟩) (fun g o e => by have := own_min HOA1.out g (by rw [e]; rfl); dsimp only; omega) (.bool true))
                clear hol1
                go_upto_region 33 with fail
                have kid := HPT.out.cells (k * 3) _ (flat_get wcC_len (j := 0) (x := (z0, z1, true)) (by rw [List.getElem?_set_self hkm]) rfl)
                have hgA7 : gA < (wo.setCell ⟨gA, oA2 + k * 3 + 2, none⟩ (.bool true)).heap.size := HPT.out.lt.2
                clear kk0 kk2 ff2 hgAo
                generalize wo.setCell ⟨gA, oA2 + k * 3 + 2, none⟩ (.bool true) = wp at *
                dsimp only at kid
                have b1 := HPRo.out.cell 1
                simp only [List.getElem?_toArray, List.getElem?_cons_zero, List.getElem?_cons_succ] at b1
                have hwp13 : w13.heap.size ≤ wp.heap.size := HONo.out.size
                have hbd : (acc.length + 1) * 8 ≤ 140737488355328 := by omega
                have HZC := Lib.hid (show (wp.alloc (.cells #[.int .i64 z0] 3)).drew.cell? ⟨wp.heap.size, 0, none⟩ = some (.int .i64 z0) from (box_drew (Box.new wp 3 #[.int .i64 z0])).cell 0)
                have hpbw : pb < wp.heap.size := by omega
                have HPX2 := Lib.hid (fun w' (hw : Only (fun b => D.map (·.block) = some b) ((wp.alloc (.cells #[.int .i64 z0] 3)).drew) w') => (hw.box (box_drew (HPRo.out.alloc _)) (fun e => by have := own_min HOAo.out _ e; omega)))
                go_region_law ((refine step_push_w rfl (.tmp 165) (.tmp 170) rfl w13.heap.size D kd acc rfl (HOAo.out.alloc _).drew wp.heap.size z0 rfl HZC.out hbd (by simp; omega) ?_; intro D2 kd2 w20 hown20 ho20; have c1 := (HPX2.out w20 ho20).cell 1; have fr1 := (HPX2.out w20 ho20).frozen 1; simp only [List.getElem?_toArray, List.getElem?_cons_zero, List.getElem?_cons_succ] at c1))
                all_goals
                  have hoo : Only (fun b => D.map (·.block) = some b) wp w20 := ((Only.refl _ wp).alloc _).drew.trans ho20
                  have HC20 := Lib.hid ((HPT.out.only hoo (fun b hb hb2 => by injection hb with hb; dsimp only at hb; have := own_min HOAo.out b hb2; omega)).far (p := ⟨pb, 1, none⟩) (fun g o e => by injection e with e; injection e with e; subst e; exact hgp) (.slice D2 (acc.length + 1) kd2))
                  have HP20 := Lib.hid ((HPX2.out w20 ho20).set 1 (.slice D2 (acc.length + 1) kd2))
                  have HD20 := Lib.hid (hown20.far (p := ⟨pb, 1, none⟩) (fun g o e => by have := own_min hown20 g (by rw [e]; rfl); dsimp only; omega) (.slice D2 (acc.length + 1) kd2))
                  have HO20 := Lib.hid ((HONo.out.fresh hoo (fun i hi => own_min HOAo.out i hi)).set (p := ⟨pb, 1, none⟩) (.inr rfl) (.slice D2 (acc.length + 1) kd2))
                  clear hown20 ho20 hoo c1 fr1 b1 kid
                  go_wp2_with fail
                  go_roundg (f + n - (k + 1))
                  case measure => have := HGK.out; omega
                  case rel =>
                    refine ⟨k + 1, acc ++ [z0], D2, kd2, rfl, by omega, by omega, by go_num, HS2.out.symm, ?_, ?_, ?_, HO20.out⟩
                    · rw [← HS1.out]
                      exact HC20.out
                    · have := HP20.out
                      rw [List.length_append]
                      exact this
                    · rw [List.length_append]
                      exact HD20.out
end Go.Proofs.Ytcmkkfpcdebfkaa
