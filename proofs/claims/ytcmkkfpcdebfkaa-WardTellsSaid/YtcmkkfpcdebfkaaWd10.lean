/-
  A fall that is refused (ward.Down).
-/
import Derived.Test.YtcmkkfpcdebfkaaWd9
namespace Go.Proofs.Ytcmkkfpcdebfkaa
open Go.RowKit

set_option maxRecDepth 100000 in
set_option maxHeartbeats 8000000 in
theorem downW_bad (x : WA) (v : Wd) (id : Int) (failed : Bool) (now : Int) (W : World) (h : WIn W x v) (hp : fallE v id now ≠ 0) :
    Calls Try.prog 118 #[wardV x v, .int .i64 id, .bool failed, .int .i64 now] W (FallPost (wd0, pl0) (fallE v id now) W) := by
  obtain ⟨pb, hpb⟩ : ∃ pb, fallE v id now = pb := ⟨_, rfl⟩
  have HPB := Lib.hid hpb
  rw [hpb] at hp ⊢
  by_cases hw : wardF v = 0
  case neg =>
    have q1 : (pb != 0) = true := by simpa using hp
    rw [fallE_bad id now hw] at hpb
    subst hpb
    clear HPB hp hw
    generalize hpb : wardF v = pb at *
    have HC := Lib.hid (fun w => checkW x v w)
    rw [hpb] at HC
    clear hpb
    have HIN := Lib.hid h
    obtain ⟨A, c, B, d⟩ := x
    obtain ⟨how, most, win, ch, tm⟩ := v
    have HD0 := Lib.hid (dn_start W #[.int .i64 how, .int .i64 most, .int .i64 win, .slice A ch.length c, .slice B tm.length d] now)
    have HI0 := Lib.hid (HIN.out.below HD0.out.bb)
    unfold wardV at *
    dsimp only at *
    have hg : W.heap.size + 3 < ((((W.alloc (.cells #[.int .i64 how, .int .i64 most, .int .i64 win, .slice A ch.length c, .slice B tm.length d] 215)).alloc (.cells #[.int .i64 now] 3)).alloc (.cells zW 215)).alloc (.cells zP 220)).heap.size := HD0.out.lt
    clear h
    go_enter Try.func118, Try.ntmps118
    go_upto_region 1 with fail
    generalize (((W.alloc (.cells #[.int .i64 how, .int .i64 most, .int .i64 win, .slice A ch.length c, .slice B tm.length d] 215)).alloc (.cells #[.int .i64 now] 3)).alloc (.cells #[.int .i64 0, .int .i64 0, .int .i64 0, .slice none 0 0, .slice none 0 0] 215)).alloc (.cells #[.slice none 0 0, .slice none 0 0, .bool false] 220) = w1 at *
    have HR0 := Lib.hid HD0.out.bx
    go_wp2_with (guard_target =~ wpList _ _ _ ({ dst := some 19, op := _, type := _, pos := _, after := _, guard := _ } :: _) _ _; refine wpList_load_box rfl 215 (.tmp 4) rfl W.heap.size rfl #[.int .i64 how, .int .i64 most, .int .i64 win, .slice A ch.length c, .slice B tm.length d] _ HR0 Try.underlying215 rfl (by rw [ward_info]; rfl) ?_)
    refine (HC.out w1 HI0.out).mono ?_
    rintro e w2 ⟨rfl, hb2⟩
    have HD2 := Lib.hid (HD0.out.below hb2)
    have HI2 := Lib.hid (HI0.out.below hb2)
    clear hb2 hg
    have HRz := Lib.hid HD2.out.br
    have HPz := Lib.hid HD2.out.bp
    go_wp2_with (first | (guard_target =~ wpList _ _ _ ({ dst := none, op := _, type := _, pos := _, after := _, guard := _ } :: _) _ _; refine wpList_store_box rfl 215 (.tmp 8) (.tmp 23) rfl (W.heap.size + 2) rfl zW zW rfl HRz rfl (by rw [ward_info]; rfl) (by simp [Value.oneCell']) ?_; intro w8 hs8; have HP8 := Lib.hid (hs8.out.only.box HPz.out (by omega))) | (guard_target =~ wpList _ _ _ ({ dst := none, op := _, type := _, pos := _, after := _, guard := _ } :: _) _ _; refine wpList_store_box rfl 220 (.tmp 9) (.tmp 24) rfl (W.heap.size + 3) rfl zP zP rfl HP8 rfl (by rw [plan_info]; rfl) (by simp [Value.oneCell']) ?_; intro w9 hs9))
    refine bodyPost_ret (v := .tuple #[.agg zW, .agg zP, .int .i64 pb]) (res_c2_t1 Try.results118 rfl (run_load_box (hs9.out.only.box hs8.out.box (by omega)) Try.underlying215 rfl (by rw [ward_info]; rfl)) rfl (run_load_box hs9.out.box Try.underlying220 rfl (by rw [plan_info]; rfl)) rfl) rfl ?_
    exact ⟨⟨none, 0, none, 0⟩, ⟨none, 0, none, 0⟩, rfl, (fallen0 _ _).1, (fallen0 _ _).2, hs9.out.only.to_below (hs8.out.only.to_below HD2.out.bb HD2.out.bb.size (fun i hi => by omega)) (by have := hs8.out.size; have := HD2.out.bb.size; omega) (fun i hi => by omega)⟩
  case pos =>
    have hne : ¬ pb = 0 := hp
    obtain ⟨_, HTM, h20, h50, _⟩ := wardF_zero hw
    have HLP := Lib.hid (lastT_pos HTM)
    have HC := Lib.hid (fun w => checkW x v w)
    rw [hw] at HC
    have HE4 := Lib.hid (fun h => HPB.out.symm.trans (fallE_none (id := id) now hw h))
    have HE8 := Lib.hid (fun i h1 h2 => HPB.out.symm.trans (fallE_dead (id := id) now (i := i) hw h1 h2))
    have HE21 := Lib.hid (fun i h1 h2 h3 => HPB.out.symm.trans (fallE_time (id := id) (now := now) (i := i) hw h1 h2 h3))
    have HE0 := Lib.hid (fun i h1 h2 h3 h4 => hne (HPB.out.symm.trans (fallE_ok (id := id) (now := now) (i := i) hw h1 h2 h3 h4)))
    have HSP := Lib.hid (idxAt_spec (isId id) (0, 0, false) v.ch 0)
    clear HPB hp hne hw HTM hpb
    have HIN := Lib.hid h
    obtain ⟨A, c, B, d⟩ := x
    obtain ⟨how, most, win, ch, tm⟩ := v
    have HD0 := Lib.hid (dn_start W #[.int .i64 how, .int .i64 most, .int .i64 win, .slice A ch.length c, .slice B tm.length d] now)
    have HI0 := Lib.hid (HIN.out.below HD0.out.bb)
    unfold wardV at *
    dsimp only at *
    have hg : W.heap.size + 3 < ((((W.alloc (.cells #[.int .i64 how, .int .i64 most, .int .i64 win, .slice A ch.length c, .slice B tm.length d] 215)).alloc (.cells #[.int .i64 now] 3)).alloc (.cells zW 215)).alloc (.cells zP 220)).heap.size := HD0.out.lt
    clear h
    go_enter Try.func118, Try.ntmps118
    go_upto_region 1 with fail
    generalize (((W.alloc (.cells #[.int .i64 how, .int .i64 most, .int .i64 win, .slice A ch.length c, .slice B tm.length d] 215)).alloc (.cells #[.int .i64 now] 3)).alloc (.cells #[.int .i64 0, .int .i64 0, .int .i64 0, .slice none 0 0, .slice none 0 0] 215)).alloc (.cells #[.slice none 0 0, .slice none 0 0, .bool false] 220) = w1 at *
    have HR0 := Lib.hid HD0.out.bx
    go_wp2_with (guard_target =~ wpList _ _ _ ({ dst := some 19, op := _, type := _, pos := _, after := _, guard := _ } :: _) _ _; refine wpList_load_box rfl 215 (.tmp 4) rfl W.heap.size rfl #[.int .i64 how, .int .i64 most, .int .i64 win, .slice A ch.length c, .slice B tm.length d] _ HR0 Try.underlying215 rfl (by rw [ward_info]; rfl) ?_)
    refine (HC.out w1 HI0.out).mono ?_
    rintro e w2 ⟨rfl, hb2⟩
    have HD2 := Lib.hid (HD0.out.below hb2)
    have HI2 := Lib.hid (HI0.out.below hb2)
    clear hb2 hg
    have k3 := HD2.out.bx.cell 3
    simp only [List.getElem?_toArray, List.getElem?_cons_zero, List.getElem?_cons_succ] at k3
    go_wp2_with fail
    refine (find_any id A c ch w2 HI2.out.ch (by unfold maxLen; omega)).mono ?_
    rintro e w3 ⟨rfl, hb3⟩
    have HD3 := Lib.hid (HD2.out.below hb3)
    have HI3 := Lib.hid (HI2.out.below hb3)
    clear hb3 k3
    rcases HSP.out with h1 | ⟨i, hi, h1, h2⟩
    · obtain rfl := HE4.out h1
      change idxAt (isId id) ch 0 = -1 at h1
      rw [h1]
      clear h1
      have HRz := Lib.hid HD3.out.br
      have HPz := Lib.hid HD3.out.bp
      go_wp2_with (first | (guard_target =~ wpList _ _ _ ({ dst := none, op := _, type := _, pos := _, after := _, guard := _ } :: _) _ _; refine wpList_store_box rfl 215 (.tmp 8) (.tmp 33) rfl (W.heap.size + 2) rfl zW zW rfl HRz rfl (by rw [ward_info]; rfl) (by simp [Value.oneCell']) ?_; intro w8 hs8; have HP8 := Lib.hid (hs8.out.only.box HPz.out (by omega))) | (guard_target =~ wpList _ _ _ ({ dst := none, op := _, type := _, pos := _, after := _, guard := _ } :: _) _ _; refine wpList_store_box rfl 220 (.tmp 9) (.tmp 34) rfl (W.heap.size + 3) rfl zP zP rfl HP8 rfl (by rw [plan_info]; rfl) (by simp [Value.oneCell']) ?_; intro w9 hs9))
      refine bodyPost_ret (v := .tuple #[.agg zW, .agg zP, .int .i64 4]) (res_c2_t1 Try.results118 rfl (run_load_box (hs9.out.only.box hs8.out.box (by omega)) Try.underlying215 rfl (by rw [ward_info]; rfl)) rfl (run_load_box hs9.out.box Try.underlying220 rfl (by rw [plan_info]; rfl)) rfl) rfl ?_
      exact ⟨⟨none, 0, none, 0⟩, ⟨none, 0, none, 0⟩, rfl, (fallen0 _ _).1, (fallen0 _ _).2, hs9.out.only.to_below (hs8.out.only.to_below HD3.out.bb HD3.out.bb.size (fun i hi => by omega)) (by have := hs8.out.size; have := HD3.out.bb.size; omega) (fun i hi => by omega)⟩
    · rw [Nat.zero_add] at h1
      change idxAt (isId id) ch 0 = (i : Int) at h1
      rw [h1]
      obtain ⟨bA, oA, rfl, hbA, c0, c1, c2⟩ := HI3.out.ch.wc hi (0, 0, false)
      have hc63 : c ≤ 9223372036854775807 := by have := HIN.out.c2; unfold maxLen at this; exact this
      have d1 : decide ((i : Int) < 0) = false := decide_eq_false (by omega)
      have hi20 : i < 20 := by omega
      have k3 := HD3.out.bx.cell 3
      simp only [List.getElem?_toArray, List.getElem?_cons_zero, List.getElem?_cons_succ] at k3
      have H81 := Lib.hid (HE8.out i h1)
      have H21 := Lib.hid (HE21.out i h1)
      have H00 := Lib.hid (HE0.out i h1)
      clear h1 c0 c1 HE8 HE21 HE0 HE4 h2
      generalize hy : (ch.getD i (0, 0, false)).2.2 = y at *
      cases y with
      | false =>
        obtain rfl := H81.out rfl
        have HRz := Lib.hid HD3.out.br
        have HPz := Lib.hid HD3.out.bp
        go_wp2_with (first | (guard_target =~ wpList _ _ _ ({ dst := none, op := _, type := _, pos := _, after := _, guard := _ } :: _) _ _; refine wpList_store_box rfl 215 (.tmp 8) (.tmp 43) rfl (W.heap.size + 2) rfl zW zW rfl HRz rfl (by rw [ward_info]; rfl) (by simp [Value.oneCell']) ?_; intro w8 hs8; have HP8 := Lib.hid (hs8.out.only.box HPz.out (by omega))) | (guard_target =~ wpList _ _ _ ({ dst := none, op := _, type := _, pos := _, after := _, guard := _ } :: _) _ _; refine wpList_store_box rfl 220 (.tmp 9) (.tmp 44) rfl (W.heap.size + 3) rfl zP zP rfl HP8 rfl (by rw [plan_info]; rfl) (by simp [Value.oneCell']) ?_; intro w9 hs9))
        refine bodyPost_ret (v := .tuple #[.agg zW, .agg zP, .int .i64 8]) (res_c2_t1 Try.results118 rfl (run_load_box (hs9.out.only.box hs8.out.box (by omega)) Try.underlying215 rfl (by rw [ward_info]; rfl)) rfl (run_load_box hs9.out.box Try.underlying220 rfl (by rw [plan_info]; rfl)) rfl) rfl ?_
        exact ⟨⟨none, 0, none, 0⟩, ⟨none, 0, none, 0⟩, rfl, (fallen0 _ _).1, (fallen0 _ _).2, hs9.out.only.to_below (hs8.out.only.to_below HD3.out.bb HD3.out.bb.size (fun i hi => by omega)) (by have := hs8.out.size; have := HD3.out.bb.size; omega) (fun i hi => by omega)⟩
      | true =>
        have k7 := HD3.out.bn.cell 0
        have k4 := HD3.out.bx.cell 4
        simp only [List.getElem?_toArray, List.getElem?_cons_zero, List.getElem?_cons_succ] at k4 k7
        by_cases n1 : now < 0
        · have d2 : decide (now < 0) = true := decide_eq_true n1
          obtain rfl := H21.out rfl (.inl (by have := HLP.out; omega))
          clear n1
          go_upto_region 9 with fail
          go_region
          have HD4 := Lib.hid (HD3.out.below (show Below w3.heap.size w3 w3.drew from below_drewN (Below.refl _ _) 1))
          have HRz := Lib.hid HD4.out.br
          have HPz := Lib.hid HD4.out.bp
          go_wp2_with (first | (guard_target =~ wpList _ _ _ ({ dst := none, op := _, type := _, pos := _, after := _, guard := _ } :: _) _ _; refine wpList_store_box rfl 215 (.tmp 8) (.tmp 70) rfl (W.heap.size + 2) rfl zW zW rfl HRz rfl (by rw [ward_info]; rfl) (by simp [Value.oneCell']) ?_; intro w8 hs8; have HP8 := Lib.hid (hs8.out.only.box HPz.out (by omega))) | (guard_target =~ wpList _ _ _ ({ dst := none, op := _, type := _, pos := _, after := _, guard := _ } :: _) _ _; refine wpList_store_box rfl 220 (.tmp 9) (.tmp 71) rfl (W.heap.size + 3) rfl zP zP rfl HP8 rfl (by rw [plan_info]; rfl) (by simp [Value.oneCell']) ?_; intro w9 hs9))
          refine bodyPost_ret (v := .tuple #[.agg zW, .agg zP, .int .i64 21]) (res_c2_t1 Try.results118 rfl (run_load_box (hs9.out.only.box hs8.out.box (by omega)) Try.underlying215 rfl (by rw [ward_info]; rfl)) rfl (run_load_box hs9.out.box Try.underlying220 rfl (by rw [plan_info]; rfl)) rfl) rfl ?_
          exact ⟨⟨none, 0, none, 0⟩, ⟨none, 0, none, 0⟩, rfl, (fallen0 _ _).1, (fallen0 _ _).2, hs9.out.only.to_below (hs8.out.only.to_below HD4.out.bb HD4.out.bb.size (fun i hi => by omega)) (by have := hs8.out.size; have := HD4.out.bb.size; omega) (fun i hi => by omega)⟩
        have d2 : decide (now < 0) = false := decide_eq_false n1
        by_cases n2 : 1099511627776 < now
        · have d3 : decide (1099511627776 < now) = true := decide_eq_true n2
          obtain rfl := H21.out rfl (.inr n2)
          clear n1 n2
          go_upto_region 9 with fail
          go_region
          have HD4 := Lib.hid (HD3.out.below (show Below w3.heap.size w3 w3.drew from below_drewN (Below.refl _ _) 1))
          have HRz := Lib.hid HD4.out.br
          have HPz := Lib.hid HD4.out.bp
          go_wp2_with (first | (guard_target =~ wpList _ _ _ ({ dst := none, op := _, type := _, pos := _, after := _, guard := _ } :: _) _ _; refine wpList_store_box rfl 215 (.tmp 8) (.tmp 70) rfl (W.heap.size + 2) rfl zW zW rfl HRz rfl (by rw [ward_info]; rfl) (by simp [Value.oneCell']) ?_; intro w8 hs8; have HP8 := Lib.hid (hs8.out.only.box HPz.out (by omega))) | (guard_target =~ wpList _ _ _ ({ dst := none, op := _, type := _, pos := _, after := _, guard := _ } :: _) _ _; refine wpList_store_box rfl 220 (.tmp 9) (.tmp 71) rfl (W.heap.size + 3) rfl zP zP rfl HP8 rfl (by rw [plan_info]; rfl) (by simp [Value.oneCell']) ?_; intro w9 hs9))
          refine bodyPost_ret (v := .tuple #[.agg zW, .agg zP, .int .i64 21]) (res_c2_t1 Try.results118 rfl (run_load_box (hs9.out.only.box hs8.out.box (by omega)) Try.underlying215 rfl (by rw [ward_info]; rfl)) rfl (run_load_box hs9.out.box Try.underlying220 rfl (by rw [plan_info]; rfl)) rfl) rfl ?_
          exact ⟨⟨none, 0, none, 0⟩, ⟨none, 0, none, 0⟩, rfl, (fallen0 _ _).1, (fallen0 _ _).2, hs9.out.only.to_below (hs8.out.only.to_below HD4.out.bb HD4.out.bb.size (fun i hi => by omega)) (by have := hs8.out.size; have := HD4.out.bb.size; omega) (fun i hi => by omega)⟩
        have d3 : decide (1099511627776 < now) = false := decide_eq_false n2
        by_cases n3 : lastT tm ≤ now
        · exact (H00.out rfl n3 (by omega)).elim
        · have hpos : 0 < tm.length := by
            rcases Nat.eq_zero_or_pos tm.length with h | h
            · rw [lastT_nil h] at n3
              omega
            · exact h
          have d4 : decide ((0 : Int) < (tm.length : Int)) = true := decide_eq_true (by omega)
          have d4' : decide (0 < tm.length) = true := decide_eq_true hpos
          rw [lastT_at] at n3 H21
          obtain rfl := H21.out rfl (.inl (by omega))
          obtain ⟨bB, oB, rfl, hbB, ct⟩ := HI3.out.tm.int (show tm.length - 1 < tm.length by omega)
          have d5 : decide (now < tm.getD (tm.length - 1) 0) = true := decide_eq_true (by omega)
          have hd63 : d ≤ 9223372036854775807 := by have := HIN.out.d2; unfold maxLen at this; exact this
          have ei : ((tm.length : Int) - 1) = ((tm.length - 1 : Nat) : Int) := by omega
          clear n1 n2 n3 H21 H00 H81
          generalize tm.getD (tm.length - 1) 0 = lt at *
          go_upto_region 9 with fail
          go_region
          have HD4 := Lib.hid (HD3.out.below (show Below w3.heap.size w3 w3.drew from below_drewN (Below.refl _ _) 1))
          have HRz := Lib.hid HD4.out.br
          have HPz := Lib.hid HD4.out.bp
          go_wp2_with (first | (guard_target =~ wpList _ _ _ ({ dst := none, op := _, type := _, pos := _, after := _, guard := _ } :: _) _ _; refine wpList_store_box rfl 215 (.tmp 8) (.tmp 70) rfl (W.heap.size + 2) rfl zW zW rfl HRz rfl (by rw [ward_info]; rfl) (by simp [Value.oneCell']) ?_; intro w8 hs8; have HP8 := Lib.hid (hs8.out.only.box HPz.out (by omega))) | (guard_target =~ wpList _ _ _ ({ dst := none, op := _, type := _, pos := _, after := _, guard := _ } :: _) _ _; refine wpList_store_box rfl 220 (.tmp 9) (.tmp 71) rfl (W.heap.size + 3) rfl zP zP rfl HP8 rfl (by rw [plan_info]; rfl) (by simp [Value.oneCell']) ?_; intro w9 hs9))
          refine bodyPost_ret (v := .tuple #[.agg zW, .agg zP, .int .i64 21]) (res_c2_t1 Try.results118 rfl (run_load_box (hs9.out.only.box hs8.out.box (by omega)) Try.underlying215 rfl (by rw [ward_info]; rfl)) rfl (run_load_box hs9.out.box Try.underlying220 rfl (by rw [plan_info]; rfl)) rfl) rfl ?_
          exact ⟨⟨none, 0, none, 0⟩, ⟨none, 0, none, 0⟩, rfl, (fallen0 _ _).1, (fallen0 _ _).2, hs9.out.only.to_below (hs8.out.only.to_below HD4.out.bb HD4.out.bb.size (fun i hi => by omega)) (by have := hs8.out.size; have := HD4.out.bb.size; omega) (fun i hi => by omega)⟩
end Go.Proofs.Ytcmkkfpcdebfkaa
