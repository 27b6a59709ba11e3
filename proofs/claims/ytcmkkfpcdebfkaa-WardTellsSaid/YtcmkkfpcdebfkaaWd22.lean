/-
  What the law itself says of a fall (roadlaw3.fallen).
-/
import Derived.Test.YtcmkkfpcdebfkaaWd21
namespace Go.Proofs.Ytcmkkfpcdebfkaa
open Go.RowKit

theorem enters_fallen1 : Enters 187 := fun _ _ => by kernel_rfl
set_option maxHeartbeats 400000 in
theorem fallen1_any (x : Ch) (id : Int) (gk : Nat) (w : World) (hk : w.cell? ⟨gk, 0, none⟩ = some (.int .i64 id)) :
    Calls Try.prog 187 #[wcV x, .pointer (some ⟨gk, 0, none⟩)] w fun e w' => e = .returned (.bool (isId id x)) ∧ Below w.heap.size w w' := by
  obtain ⟨x1, x2, x3⟩ := x
  have hk1 := lt_of_cell hk
  dsimp only at hk1
  unfold wcV
  dsimp only
  have HI := Lib.hid (show isId id (x1, x2, x3) = (x1 == id) from rfl)
  generalize isId id (x1, x2, x3) = r at *
  go_enter Try.func187, Try.ntmps187
  go_wp2_with fail
  go_ret
  exact ⟨by rw [HI.out]; rfl, (Below.refl _ _).alloc (Nat.le_refl _) _⟩
/-- The memory of a call of fallen. -/
structure FlW (W w : World) (cs ys : Array Value) : Prop where
  bx : Box w W.heap.size 215 cs
  bn : Box w (W.heap.size + 1) 233 ys
  br : Box w (W.heap.size + 2) 215 zW
  bp : Box w (W.heap.size + 3) 220 zP
  bb : Below W.heap.size W w
theorem FlW.lt {W w : World} {cs ys : Array Value} (h : FlW W w cs ys) : W.heap.size + 3 < w.heap.size := h.bp.lt
theorem FlW.below {W w w' : World} {cs ys : Array Value} (h : FlW W w cs ys) (hb : Below w.heap.size w w') : FlW W w' cs ys :=
  ⟨h.bx.below hb h.bx.lt, h.bn.below hb h.bn.lt, h.br.below hb h.br.lt, h.bp.below hb h.bp.lt, h.bb.trans (hb.mono h.bb.size)⟩
theorem fl_start (W : World) (cs ys : Array Value) : FlW W ((((W.alloc (.cells cs 215)).alloc (.cells ys 233)).alloc (.cells zW 215)).alloc (.cells zP 220)) cs ys := by
  have h1 := Box.new (W.alloc (.cells cs 215)) 233 ys
  have h2 := Box.new ((W.alloc (.cells cs 215)).alloc (.cells ys 233)) 215 zW
  have h3 := Box.new (((W.alloc (.cells cs 215)).alloc (.cells ys 233)).alloc (.cells zW 215)) 220 zP
  rw [show (W.alloc (.cells cs 215)).heap.size = W.heap.size + 1 by simp] at h1
  rw [show ((W.alloc (.cells cs 215)).alloc (.cells ys 233)).heap.size = W.heap.size + 2 by simp] at h2
  rw [show (((W.alloc (.cells cs 215)).alloc (.cells ys 233)).alloc (.cells zW 215)).heap.size = W.heap.size + 3 by simp] at h3
  exact ⟨(((Box.new W 215 cs).alloc _).alloc _).alloc _, (h1.alloc _).alloc _, h2.alloc _, h3, ((((Below.refl W.heap.size W).alloc (Nat.le_refl _) _).alloc (by simp) _).alloc (by simp; omega) _).alloc (by simp; omega) _⟩
/-- It is a call of Down in all but the memory between. -/
theorem FlW.dn {W w : World} {cs ys : Array Value} (h : FlW W w cs ys) : Box w (W.heap.size + 1 + 1) 215 zW ∧ Box w (W.heap.size + 1 + 1 + 1) 220 zP := ⟨h.br, h.bp⟩
theorem setR_br {W w : World} {cs ys : Array Value} (h : FlW W w cs ys) (a b c d e s t u : Value) : Box (setRes W w a b c d e s t u) (W.heap.size + 2) 215 #[a, b, c, d, e] := by
  have h1 := (((((h.br.set 0 a).set 1 b).set 2 c).set 3 d).set 4 e)
  have h2 := ((h1.far (p := ⟨W.heap.size + 1 + 1 + 1, 0, none⟩) (by simp) s).far (p := ⟨W.heap.size + 1 + 1 + 1, 1, none⟩) (by simp) t).far (p := ⟨W.heap.size + 1 + 1 + 1, 2, none⟩) (by simp) u
  simpa [setRes] using h2
theorem setR_bp {W w : World} {cs ys : Array Value} (h : FlW W w cs ys) (a b c d e s t u : Value) : Box (setRes W w a b c d e s t u) (W.heap.size + 3) 220 #[s, t, u] := by
  have h1 := ((((h.bp.far (p := ⟨W.heap.size + 1 + 1, 0, none⟩) (by simp) a).far (p := ⟨W.heap.size + 1 + 1, 1, none⟩) (by simp) b).far (p := ⟨W.heap.size + 1 + 1, 2, none⟩) (by simp) c).far (p := ⟨W.heap.size + 1 + 1, 3, none⟩) (by simp) d).far (p := ⟨W.heap.size + 1 + 1, 4, none⟩) (by simp) e
  have h2 := (((h1.set 0 s).set 1 t).set 2 u)
  simpa [setRes] using h2
theorem box_cells {w : World} {g : Nat} {t : TypeId} {a b c d e : Value} (h : Box w g t #[a, b, c, d, e]) : w.cell? ⟨g, 0, none⟩ = some a ∧ w.cell? ⟨g, 1, none⟩ = some b ∧ w.cell? ⟨g, 2, none⟩ = some c ∧ w.cell? ⟨g, 3, none⟩ = some d ∧ w.cell? ⟨g, 4, none⟩ = some e := cells5 h
/-- A fall of the reference's, any way. -/
theorem fallenR (x : WA) (v : Wd) (id : Int) (failed : Bool) (now : Int) (W : World) (i : Nat) (h : WIn W x v) (ho : FallOk v id now i) :
    Calls Try.prog 188 #[wardV x v, .int .i64 id, .bool failed, .int .i64 now] W (Fall2Post (fallV v i failed now) W) := by
  cases hq : quietB (v.ch.getD i (0, 0, false)) failed with
  | true =>
    rw [fallV_quiet now hq]
    exact fallenR_quiet x v id failed now W i h ho hq
  | false => exact fallenR_loud x v id failed now W i h ho hq

set_option maxRecDepth 100000 in
set_option maxHeartbeats 8000000 in
theorem fallenL (x : WA) (v : Wd) (id : Int) (failed : Bool) (now : Int) (W : World) (h : WIn W x v) (hw : wardF v = 0) :
    Calls Try.prog 124 #[wardV x v, .agg #[.int .i64 id, .bool failed, .int .i64 now]] W (FallPost (fallQ v id failed now) (fallE v id now) W) := by
  obtain ⟨_, HTM, h20, h50, _⟩ := wardF_zero hw
  have HLP := Lib.hid (lastT_pos HTM)
  have HW := Lib.hid hw
  have HFR := Lib.hid (fun W' i h' ho => fallenR x v id failed now W' i h' ho)
  have hlm : v.ch.length ≤ maxLen := by unfold maxLen; omega
  have HSP := Lib.hid (idxAt_spec (isId id) (0, 0, false) v.ch 0)
  have HIN := Lib.hid h
  have hd0 := fl_start W #[.int .i64 v.how, .int .i64 v.most, .int .i64 v.win, .slice x.A v.ch.length x.c, .slice x.B v.tm.length x.d] #[.int .i64 id, .bool failed, .int .i64 now]
  have hn0 := h.below hd0.bb
  have HIX := Lib.hid (fun (u : World) (hu : Below ((((W.alloc (.cells #[.int .i64 v.how, .int .i64 v.most, .int .i64 v.win, .slice x.A v.ch.length x.c, .slice x.B v.tm.length x.d] 215)).alloc (.cells #[.int .i64 id, .bool failed, .int .i64 now] 233)).alloc (.cells zW 215)).alloc (.cells zP 220)).heap.size ((((W.alloc (.cells #[.int .i64 v.how, .int .i64 v.most, .int .i64 v.win, .slice x.A v.ch.length x.c, .slice x.B v.tm.length x.d] 215)).alloc (.cells #[.int .i64 id, .bool failed, .int .i64 now] 233)).alloc (.cells zW 215)).alloc (.cells zP 220)) u) => indexFunc_wc x.A x.c v.ch 187 #[.pointer (some ⟨W.heap.size + 1, 0, none⟩)] (isId id) ((((W.alloc (.cells #[.int .i64 v.how, .int .i64 v.most, .int .i64 v.win, .slice x.A v.ch.length x.c, .slice x.B v.tm.length x.d] 215)).alloc (.cells #[.int .i64 id, .bool failed, .int .i64 now] 233)).alloc (.cells zW 215)).alloc (.cells zP 220)).heap.size (fun u => Below ((((W.alloc (.cells #[.int .i64 v.how, .int .i64 v.most, .int .i64 v.win, .slice x.A v.ch.length x.c, .slice x.B v.tm.length x.d] 215)).alloc (.cells #[.int .i64 id, .bool failed, .int .i64 now] 233)).alloc (.cells zW 215)).alloc (.cells zP 220)).heap.size ((((W.alloc (.cells #[.int .i64 v.how, .int .i64 v.most, .int .i64 v.win, .slice x.A v.ch.length x.c, .slice x.B v.tm.length x.d] 215)).alloc (.cells #[.int .i64 id, .bool failed, .int .i64 now] 233)).alloc (.cells zW 215)).alloc (.cells zP 220)) u) u enters_fallen1 hlm
    (fun u hu => hn0.ch.below hu)
    (fun y _ u hu => (fallen1_any y id (W.heap.size + 1) u ((hd0.bn.below hu hd0.bn.lt).cell 0)).mono fun e w' ⟨h1, h2⟩ => ⟨h1, hu.trans (h2.mono hu.size)⟩) hu)
  have HD0 := Lib.hid hd0
  have HI0 := Lib.hid hn0
  clear hw HTM hd0 hn0 h
  obtain ⟨A, c, B, d⟩ := x
  obtain ⟨how, most, win, ch, tm⟩ := v
  unfold wardV
  dsimp only at HLP HW HFR h20 h50 hlm HSP HIN HIX HD0 HI0 ⊢
  have hg : W.heap.size + 3 < ((((W.alloc (.cells #[.int .i64 how, .int .i64 most, .int .i64 win, .slice A ch.length c, .slice B tm.length d] 215)).alloc (.cells #[.int .i64 id, .bool failed, .int .i64 now] 233)).alloc (.cells zW 215)).alloc (.cells zP 220)).heap.size := HD0.out.lt
  go_enter Try.func124, Try.ntmps124
  go_upto_region 1 with fail
  generalize (((W.alloc (.cells #[.int .i64 how, .int .i64 most, .int .i64 win, .slice A ch.length c, .slice B tm.length d] 215)).alloc (.cells #[.int .i64 id, .bool failed, .int .i64 now] 233)).alloc (.cells #[.int .i64 0, .int .i64 0, .int .i64 0, .slice none 0 0, .slice none 0 0] 215)).alloc (.cells #[.slice none 0 0, .slice none 0 0, .bool false] 220) = w1 at *
  have k3 := (cells5 HD0.out.bx).2.2.2.1
  go_wp2_with fail
  refine (HIX.out w1 (Below.refl _ _)).mono ?_
  rintro e w3 ⟨rfl, hb3⟩
  have HD3 := Lib.hid (HD0.out.below hb3)
  have HI3 := Lib.hid (HI0.out.below hb3)
  clear hb3 k3 HIX
  have k4 := (cells5 HD3.out.bx).2.2.2.2
  have hd63 : d ≤ 9223372036854775807 := by have := HIN.out.d2; unfold maxLen at this; exact this
  have hc63 : c ≤ 9223372036854775807 := by have := HIN.out.c2; unfold maxLen at this; exact this
  obtain ⟨lt, hlt⟩ : ∃ lt, lastT tm = lt := ⟨_, rfl⟩
  have HLT := Lib.hid hlt
  go_upto_if 20 with fail
  go_cut [8] (fun v8 wx => v8 = .int .i64 lt ∧ w3 = wx)
  case first =>
    by_cases hz : 0 < tm.length
    · have d4 : decide ((0 : Int) < (tm.length : Int)) = true := decide_eq_true (by omega)
      have d4' : decide (0 < tm.length) = true := decide_eq_true hz
      rw [lastT_at] at hlt
      obtain ⟨bB, oB, rfl, hbB, ct⟩ := HI3.out.tm.int (show tm.length - 1 < tm.length by omega)
      dsimp only at ct
      rw [hlt] at ct
      have ei : ((tm.length : Int) - 1) = ((tm.length - 1 : Nat) : Int) := by omega
      clear hlt
      go_wp2_with fail
      go_meet
      exact ⟨rfl, rfl⟩
    · have d4 : decide ((0 : Int) < (tm.length : Int)) = false := decide_eq_false (by omega)
      have d4' : decide (0 < tm.length) = false := decide_eq_false hz
      have hl0 : lt = 0 := by rw [← hlt]; exact lastT_nil (by omega)
      clear hlt
      subst hl0
      go_wp2_with fail
      go_meet
      exact ⟨rfl, rfl⟩
  case rest =>
    obtain ⟨rfl, rfl⟩ := hcut
    clear hlt k4
    rcases HSP.out with h1 | ⟨i, hi, h1, h2⟩
    · change idxAt (isId id) ch 0 = -1 at h1
      have HE := Lib.hid (fallE_none (v := ⟨how, most, win, ch, tm⟩) (id := id) now HW.out h1)
      rw [h1]
      clear h1
      have HRz := Lib.hid HD3.out.br
      have HPz := Lib.hid HD3.out.bp
      go_wp2_with (first | (guard_target =~ wpList _ _ _ ({ dst := none, op := _, type := _, pos := _, after := _, guard := _ } :: _) _ _; refine wpList_store_box rfl 215 (.tmp 4) (.tmp 30) rfl (W.heap.size + 2) rfl zW zW rfl HRz rfl (by rw [ward_info]; rfl) (by simp [Value.oneCell']) ?_; intro w8 hs8; have HP8 := Lib.hid (hs8.out.only.box HPz.out (by omega))) | (guard_target =~ wpList _ _ _ ({ dst := none, op := _, type := _, pos := _, after := _, guard := _ } :: _) _ _; refine wpList_store_box rfl 220 (.tmp 5) (.tmp 31) rfl (W.heap.size + 3) rfl zP zP rfl HP8 rfl (by rw [plan_info]; rfl) (by simp [Value.oneCell']) ?_; intro w9 hs9))
      refine bodyPost_ret (v := .tuple #[.agg zW, .agg zP, .int .i64 4]) (res_c2_t1 Try.results124 rfl (run_load_box (hs9.out.only.box hs8.out.box (by omega)) Try.underlying215 rfl (by rw [ward_info]; rfl)) rfl (run_load_box hs9.out.box Try.underlying220 rfl (by rw [plan_info]; rfl)) rfl) rfl ?_
      rw [fallQ_bad failed (by rw [HE.out]; decide), HE.out]
      exact ⟨⟨none, 0, none, 0⟩, ⟨none, 0, none, 0⟩, rfl, (fallen0 _ _).1, (fallen0 _ _).2, hs9.out.only.to_below (hs8.out.only.to_below HD3.out.bb HD3.out.bb.size (fun i hi => by omega)) (by have := hs8.out.size; have := HD3.out.bb.size; omega) (fun i hi => by omega)⟩
    · rw [Nat.zero_add] at h1
      change idxAt (isId id) ch 0 = (i : Int) at h1
      have HID := Lib.hid h1
      rw [h1]
      obtain ⟨bA, oA, rfl, hbA, c0, c1, c2⟩ := HI3.out.ch.wc hi (0, 0, false)
      have d1 : decide ((i : Int) < 0) = false := decide_eq_false (by omega)
      have hi20 : i < 20 := by omega
      have k3 := (cells5 HD3.out.bx).2.2.2.1
      obtain ⟨y, hy⟩ : ∃ y, ch.getD i (0, 0, false) = y := ⟨_, rfl⟩
      rw [hy] at c2
      have HY := Lib.hid hy
      clear h1 c0 c1 h2 hy
      obtain ⟨y0, y1, y2⟩ := y
      dsimp only at c2
      cases y2 with
      | false =>
        have HE := Lib.hid (fallE_dead (v := ⟨how, most, win, ch, tm⟩) (id := id) now HW.out HID.out (by dsimp only; rw [HY.out]))
        have HRz := Lib.hid HD3.out.br
        have HPz := Lib.hid HD3.out.bp
        go_wp2_with (first | (guard_target =~ wpList _ _ _ ({ dst := none, op := _, type := _, pos := _, after := _, guard := _ } :: _) _ _; refine wpList_store_box rfl 215 (.tmp 4) (.tmp 40) rfl (W.heap.size + 2) rfl zW zW rfl HRz rfl (by rw [ward_info]; rfl) (by simp [Value.oneCell']) ?_; intro w8 hs8; have HP8 := Lib.hid (hs8.out.only.box HPz.out (by omega))) | (guard_target =~ wpList _ _ _ ({ dst := none, op := _, type := _, pos := _, after := _, guard := _ } :: _) _ _; refine wpList_store_box rfl 220 (.tmp 5) (.tmp 41) rfl (W.heap.size + 3) rfl zP zP rfl HP8 rfl (by rw [plan_info]; rfl) (by simp [Value.oneCell']) ?_; intro w9 hs9))
        refine bodyPost_ret (v := .tuple #[.agg zW, .agg zP, .int .i64 8]) (res_c2_t1 Try.results124 rfl (run_load_box (hs9.out.only.box hs8.out.box (by omega)) Try.underlying215 rfl (by rw [ward_info]; rfl)) rfl (run_load_box hs9.out.box Try.underlying220 rfl (by rw [plan_info]; rfl)) rfl) rfl ?_
        rw [fallQ_bad failed (by rw [HE.out]; decide), HE.out]
        exact ⟨⟨none, 0, none, 0⟩, ⟨none, 0, none, 0⟩, rfl, (fallen0 _ _).1, (fallen0 _ _).2, hs9.out.only.to_below (hs8.out.only.to_below HD3.out.bb HD3.out.bb.size (fun i hi => by omega)) (by have := hs8.out.size; have := HD3.out.bb.size; omega) (fun i hi => by omega)⟩
      | true =>
        have n2 := (HD3.out.bn.cell 2)
        simp only [List.getElem?_toArray, List.getElem?_cons_zero, List.getElem?_cons_succ] at n2
        by_cases ht : now < lt ∨ 1099511627776 < now
        · have HE := Lib.hid (fallE_time (v := ⟨how, most, win, ch, tm⟩) (id := id) (now := now) HW.out HID.out (by dsimp only; rw [HY.out]) (by rw [HLT.out]; exact ht))
          have HINC := Lib.hid (fun w => inF now lt 1099511627776 w ht)
          clear ht
          go_wp2_with fail
          refine (HINC.out _).mono ?_
          rintro e w4 ⟨rfl, rfl⟩
          have HRz := Lib.hid HD3.out.br
          have HPz := Lib.hid HD3.out.bp
          go_wp2_with (first | (guard_target =~ wpList _ _ _ ({ dst := none, op := _, type := _, pos := _, after := _, guard := _ } :: _) _ _; refine wpList_store_box rfl 215 (.tmp 4) (.tmp 48) rfl (W.heap.size + 2) rfl zW zW rfl HRz rfl (by rw [ward_info]; rfl) (by simp [Value.oneCell']) ?_; intro w8 hs8; have HP8 := Lib.hid (hs8.out.only.box HPz.out (by omega))) | (guard_target =~ wpList _ _ _ ({ dst := none, op := _, type := _, pos := _, after := _, guard := _ } :: _) _ _; refine wpList_store_box rfl 220 (.tmp 5) (.tmp 49) rfl (W.heap.size + 3) rfl zP zP rfl HP8 rfl (by rw [plan_info]; rfl) (by simp [Value.oneCell']) ?_; intro w9 hs9))
          refine bodyPost_ret (v := .tuple #[.agg zW, .agg zP, .int .i64 21]) (res_c2_t1 Try.results124 rfl (run_load_box (hs9.out.only.box hs8.out.box (by omega)) Try.underlying215 rfl (by rw [ward_info]; rfl)) rfl (run_load_box hs9.out.box Try.underlying220 rfl (by rw [plan_info]; rfl)) rfl) rfl ?_
          rw [fallQ_bad failed (by rw [HE.out]; decide), HE.out]
          exact ⟨⟨none, 0, none, 0⟩, ⟨none, 0, none, 0⟩, rfl, (fallen0 _ _).1, (fallen0 _ _).2, hs9.out.only.to_below (hs8.out.only.to_below HD3.out.bb HD3.out.bb.size (fun i hi => by omega)) (by have := hs8.out.size; have := HD3.out.bb.size; omega) (fun i hi => by omega)⟩
        · have HE := Lib.hid (fallE_ok (v := ⟨how, most, win, ch, tm⟩) (id := id) (now := now) HW.out HID.out (by dsimp only; rw [HY.out]) (by rw [HLT.out]; omega) (by omega))
          have HQ := Lib.hid (fallQ_ok (failed := failed) HE.out HID.out)
          have HOK := Lib.hid (show FallOk ⟨how, most, win, ch, tm⟩ id now i from ⟨HW.out, HID.out, hi, by dsimp only; rw [HY.out], by rw [HLT.out]; omega, by omega⟩)
          have HINC := Lib.hid (fun w => inT now lt 1099511627776 w (by omega))
          clear ht
          go_wp2_with fail
          refine (HINC.out _).mono ?_
          rintro e w4 ⟨rfl, rfl⟩
          have n0 := (HD3.out.bn.cell 0)
          have n1 := (HD3.out.bn.cell 1)
          simp only [List.getElem?_toArray, List.getElem?_cons_zero, List.getElem?_cons_succ] at n0 n1
          have HX3 := Lib.hid HD3.out.bx
          go_wp2_with (guard_target =~ wpList _ _ _ ({ dst := some 51, op := _, type := _, pos := _, after := _, guard := _ } :: _) _ _; refine wpList_load_box rfl 215 (.tmp 2) rfl W.heap.size rfl #[.int .i64 how, .int .i64 most, .int .i64 win, .slice (some ⟨bA, oA, none⟩) ch.length c, .slice B tm.length d] _ HX3 Try.underlying215 rfl (by rw [ward_info]; rfl) ?_)
          refine (HFR.out w3 i HI3.out HOK.out).mono ?_
          rintro e w6 ⟨x2, p2, rfl, hwo, hpo, hb6⟩
          rw [← HQ.out] at hwo hpo ⊢
          obtain ⟨qq, hqq⟩ : ∃ qq, fallQ ⟨how, most, win, ch, tm⟩ id failed now = qq := ⟨_, rfl⟩
          rw [hqq] at hwo hpo ⊢
          have HQQ := Lib.hid hqq
          have HD6 := Lib.hid (HD3.out.below hb6)
          have h25 := HD3.out.lt
          have HW6 := Lib.hid (hwo.lower (show W.heap.size + 4 ≤ w3.heap.size by omega))
          have HP6 := Lib.hid (hpo.lower (show W.heap.size + 4 ≤ w3.heap.size by omega))
          have hs56 := hb6.size
          have HN1 := Lib.hid ((Box.new w6 215 zW).alloc (.cells zP 220))
          have HN2 := Lib.hid (Box.new (w6.alloc (.cells zW 215)) 220 zP)
          rw [show (w6.alloc (.cells zW 215)).heap.size = w6.heap.size + 1 by simp] at HN2
          clear hwo hpo hb6 n0 n1 n2 k3 c2 hqq
          go_upto_region 13 with (first | (guard_target =~ wpList _ _ _ ({ dst := none, op := _, type := _, pos := _, after := _, guard := _ } :: _) _ _; refine wpList_store_box rfl 215 (.tmp 10) (.tmp 59) rfl w6.heap.size rfl zW #[.int .i64 qq.1.how, .int .i64 qq.1.most, .int .i64 qq.1.win, .slice x2.A qq.1.ch.length x2.c, .slice x2.B qq.1.tm.length x2.d] rfl HN1 rfl (by rw [ward_info]; rfl) (by simp [Value.oneCell']) ?_; intro w8 hs8; have HP8 := Lib.hid (hs8.out.only.box HN2.out (by omega))) | (guard_target =~ wpList _ _ _ ({ dst := none, op := _, type := _, pos := _, after := _, guard := _ } :: _) _ _; refine wpList_store_box rfl 220 (.tmp 11) (.tmp 60) rfl (w6.heap.size + 1) rfl zP #[.slice p2.C qq.2.1.length p2.k, .slice p2.D qq.2.2.1.length p2.l, .bool qq.2.2.2] rfl HP8 rfl (by rw [plan_info]; rfl) (by simp [Value.oneCell']) ?_; intro w9 hs9))
          have hb69 : Below w6.heap.size w6 w9 := hs9.out.only.to_below (hs8.out.only.to_below (((Below.refl w6.heap.size w6).alloc (Nat.le_refl _) (.cells zW 215)).alloc (by simp) (.cells zP 220)) (by simp; omega) (fun i hi => by omega)) (by have := hs8.out.size; simp at this; omega) (fun i hi => by omega)
          have HX9 := Lib.hid (hs9.out.only.box hs8.out.box (by omega))
          have HP9 := Lib.hid hs9.out.box
          have HD9 := Lib.hid (HD6.out.below hb69)
          have HW9 := Lib.hid (HW6.out.below hb69)
          have HPO9 := Lib.hid (HP6.out.below hb69)
          clear hb69 hs8 hs9 HP8
          obtain ⟨k0, k1, k2, k3, k4⟩ := cells5 HX9.out
          obtain ⟨r0, r1, r2, r3, r4⟩ := cells5 HD9.out.dn.1
          have p0 := HD9.out.dn.2.cell 0
          have p1 := HD9.out.dn.2.cell 1
          have p2' := HD9.out.dn.2.cell 2
          have g0 := HD9.out.dn.1.frozen 0
          have g1 := HD9.out.dn.1.frozen 1
          have g2 := HD9.out.dn.1.frozen 2
          have g3 := HD9.out.dn.1.frozen 3
          have g4 := HD9.out.dn.1.frozen 4
          have q0 := HD9.out.dn.2.frozen 0
          have q1 := HD9.out.dn.2.frozen 1
          have q2 := HD9.out.dn.2.frozen 2
          have b0 := HP9.out.cell 0
          have b1 := HP9.out.cell 1
          have b2 := HP9.out.cell 2
          simp only [List.getElem?_toArray, List.getElem?_cons_zero, List.getElem?_cons_succ] at b0 b1 b2 p0 p1 p2'
          have HSR := Lib.hid ((setRes_only W w9 (.int .i64 qq.1.how) (.int .i64 qq.1.most) (.int .i64 qq.1.win) (.slice x2.A qq.1.ch.length x2.c) (.slice x2.B qq.1.tm.length x2.d) (.slice p2.C qq.2.1.length p2.k) (.slice p2.D qq.2.2.1.length p2.l) (.bool qq.2.2.2)).drew)
          have HBB := Lib.hid (HSR.out.to_below HD9.out.bb HD9.out.bb.size (fun i hi => by omega))
          have HRL := Lib.hid (run_load_box (P := Try.prog) (box_drew (setR_br HD9.out (.int .i64 qq.1.how) (.int .i64 qq.1.most) (.int .i64 qq.1.win) (.slice x2.A qq.1.ch.length x2.c) (.slice x2.B qq.1.tm.length x2.d) (.slice p2.C qq.2.1.length p2.k) (.slice p2.D qq.2.2.1.length p2.l) (.bool qq.2.2.2))) Try.underlying215 rfl (by rw [ward_info]; rfl))
          have HPL := Lib.hid (run_load_box (P := Try.prog) (box_drew (setR_bp HD9.out (.int .i64 qq.1.how) (.int .i64 qq.1.most) (.int .i64 qq.1.win) (.slice x2.A qq.1.ch.length x2.c) (.slice x2.B qq.1.tm.length x2.d) (.slice p2.C qq.2.1.length p2.k) (.slice p2.D qq.2.2.1.length p2.l) (.bool qq.2.2.2))) Try.underlying220 rfl (by rw [plan_info]; rfl))
          have m1 : ¬ w6.heap.size = W.heap.size + 1 + 1 := by omega
          have m2 : ¬ w6.heap.size = W.heap.size + 1 + 1 + 1 := by omega
          have m3 : ¬ w6.heap.size + 1 = W.heap.size + 1 + 1 := by omega
          have m4 : ¬ w6.heap.size + 1 = W.heap.size + 1 + 1 + 1 := by omega
          have m5 : ¬ W.heap.size + 1 + 1 = w6.heap.size := by omega
          have m6 : ¬ W.heap.size + 1 + 1 + 1 = w6.heap.size := by omega
          have m7 : ¬ W.heap.size + 1 + 1 = w6.heap.size + 1 := by omega
          have m8 : ¬ W.heap.size + 1 + 1 + 1 = w6.heap.size + 1 := by omega
          go_region
          all_goals
            clear k0 k1 k2 k3 k4 r0 r1 r2 r3 r4 p0 p1 p2' g0 g1 g2 g3 g4 q0 q1 q2 b0 b1 b2 m1 m2 m3 m4 m5 m6 m7 m8
            go_wp2_with fail
            refine bodyPost_ret (v := .tuple #[.agg #[.int .i64 qq.1.how, .int .i64 qq.1.most, .int .i64 qq.1.win, .slice x2.A qq.1.ch.length x2.c, .slice x2.B qq.1.tm.length x2.d], .agg #[.slice p2.C qq.2.1.length p2.k, .slice p2.D qq.2.2.1.length p2.l, .bool qq.2.2.2], .int .i64 0]) (res_c2_t1 Try.results124 rfl HRL.out rfl HPL.out rfl) rfl ?_
            rw [HE.out, HQQ.out]
            refine ⟨x2, p2, rfl, ⟨?_, ?_⟩, ⟨?_, ?_⟩, HBB.out⟩
            · exact (HW9.out.ch.only HSR.out (fun b hb ht => by have := own_min HW9.out.ch b hb; omega)).lower (by omega)
            · exact (HW9.out.tm.only HSR.out (fun b hb ht => by have := own_min HW9.out.tm b hb; omega)).lower (by omega)
            · exact (HPO9.out.stop.only HSR.out (fun b hb ht => by have := own_min HPO9.out.stop b hb; omega)).lower (by omega)
            · exact (HPO9.out.start.only HSR.out (fun b hb ht => by have := own_min HPO9.out.start b hb; omega)).lower (by omega)
end Go.Proofs.Ytcmkkfpcdebfkaa
