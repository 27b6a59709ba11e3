/-
  WardTells: for arbitrary arguments, every function of package ward returns what the reference returns (its walk, where the supervisor is right).
-/
import Derived.Test.YtcmkkfpcdebfkaaWd24
import Derived.Deep.RegionHeld3
namespace Go.Proofs.Ytcmkkfpcdebfkaa
open Go.RowKit

set_option maxRecDepth 100000 in
set_option maxHeartbeats 8000000 in
theorem wardTells_good (x : WA) (v : Wd) (id : Int) (failed : Bool) (now : Int) (F : Option Addr) (fc : Nat) (l : List Fl) (W : World) (h : WIn W x v) (hl : Row W W.heap.size F (flat wfC l)) (hfc : l.length ≤ fc) (hfm : fc ≤ maxLen) (hw : wardF v = 0) :
    Calls Try.prog 13 #[wardV x v, .int .i64 id, .bool failed, .int .i64 now, .slice F l.length fc] W fun e w' => e = .returned (.bool true) ∧ Below W.heap.size W w' := by
  obtain ⟨_, _, h20, h50, _⟩ := wardF_zero hw
  have HBG := Lib.hid (fun w (h : WIn w x v) => beginW_ok x v w h hw)
  have HDN := Lib.hid (fun w (h : WIn w x v) => downW x v id failed now w h)
  have HPY := Lib.hid (fun w (h : WIn w x v) (hl : Row w w.heap.size F (flat wfC l)) => playW x v F fc l w h hl hfc hfm)
  have HWF := Lib.hid (fun w (h : WIn w x v) => faultW x v w h)
  have HCK := Lib.hid (fun w (h : WIn w x v) => checkW x v w h)
  have HFL := Lib.hid (fun w (h : WIn w x v) => fallenL x v id failed now w h hw)
  rw [hw] at HWF HCK
  have HW := Lib.hid hw
  obtain ⟨n0, hn0⟩ : ∃ n0 : Int, 0 = n0 := ⟨_, rfl⟩
  obtain ⟨qa, hqa⟩ : ∃ qa, (⟨v.how, v.most, v.win, v.ch.map liveC, v.tm⟩ : Wd) = qa := ⟨_, rfl⟩
  obtain ⟨qb, hqb⟩ : ∃ qb, fallQ v id failed now = qb := ⟨_, rfl⟩
  obtain ⟨nb, hnb⟩ : ∃ nb, fallE v id now = nb := ⟨_, rfl⟩
  obtain ⟨qc, hqc⟩ : ∃ qc, playQ v l = qc := ⟨_, rfl⟩
  obtain ⟨ids, hids⟩ : ∃ ids, deadIds v.ch = ids := ⟨_, rfl⟩
  rw [hqa, hids, hn0] at HBG
  rw [hqb, hnb] at HDN HFL
  rw [hqc] at HPY
  have hfc63 : fc ≤ 9223372036854775807 := by unfold maxLen at hfm; exact hfm
  have HQA := Lib.hid hqa
  have HQC := Lib.hid hqc
  have HIDS := Lib.hid hids
  have HN0 := Lib.hid hn0
  rw [hn0] at HWF HCK
  clear hqa hqb hqc hids hn0 hnb hw hfm
  have HX1 := Lib.hid (Box.new W 215 #[.int .i64 v.how, .int .i64 v.most, .int .i64 v.win, .slice x.A v.ch.length x.c, .slice x.B v.tm.length x.d])
  have hb1 := (Below.refl W.heap.size W).alloc (Nat.le_refl _) (.cells #[.int .i64 v.how, .int .i64 v.most, .int .i64 v.win, .slice x.A v.ch.length x.c, .slice x.B v.tm.length x.d] 215)
  have HB1 := Lib.hid hb1
  have HI1 := Lib.hid (h.below hb1)
  have HF1 := Lib.hid ((hl.below hb1).more hb1.size)
  have HLL := Lib.hid hl
  unfold wardV
  clear hb1 h hl
  go_enter Try.func13, Try.ntmps13
  go_upto_region 1 with fail
  have hs1 : W.heap.size < (W.alloc (.cells #[.int .i64 v.how, .int .i64 v.most, .int .i64 v.win, .slice x.A v.ch.length x.c, .slice x.B v.tm.length x.d] 215)).heap.size := HX1.out.lt
  generalize W.alloc (.cells #[.int .i64 v.how, .int .i64 v.most, .int .i64 v.win, .slice x.A v.ch.length x.c, .slice x.B v.tm.length x.d] 215) = w1 at *
  go_wp2_with (guard_target =~ wpList _ _ _ ({ dst := some 36, op := _, type := _, pos := _, after := _, guard := _ } :: _) _ _; refine wpList_load_box rfl 215 (.tmp 5) rfl W.heap.size rfl #[.int .i64 v.how, .int .i64 v.most, .int .i64 v.win, .slice x.A v.ch.length x.c, .slice x.B v.tm.length x.d] _ HX1 Try.underlying215 rfl (by rw [ward_info]; rfl) ?_)
  refine (HBG.out w1 HI1.out).mono ?_
  rintro e w2 ⟨xa, Ci, ki, rfl, hwa, hid, hb2⟩
  have HZ := Lib.hid (Box.new w2 215 zW)
  go_upto_region 2 with (guard_target =~ wpList _ _ _ ({ dst := none, op := _, type := _, pos := _, after := _, guard := _ } :: _) _ _; refine wpList_store_box rfl 215 (.tmp 11) (.tmp 38) rfl w2.heap.size rfl zW #[.int .i64 qa.how, .int .i64 qa.most, .int .i64 qa.win, .slice xa.A qa.ch.length xa.c, .slice xa.B qa.tm.length xa.d] rfl HZ rfl (by rw [ward_info]; rfl) (by simp [Value.oneCell']) ?_; intro w3 hs3)
  obtain ⟨hx11, hb23, hz3⟩ := newStored hs3.out
  have HB3 := Lib.hid (HB1.out.trans ((hb2.trans (hb23.mono hb2.size)).mono HB1.out.size))
  have HX3 := Lib.hid ((HX1.out.below hb2 hs1).below hb23 (by have := hb2.size; omega))
  have HI3 := Lib.hid ((HI1.out.below hb2).below hb23)
  have HA3 := Lib.hid (hwa.win.below hb23)
  have HD3 := Lib.hid (((hid.below hb23).lower (show W.heap.size ≤ w1.heap.size by omega)))
  have HK3 := Lib.hid hx11
  obtain ⟨g11, hg11⟩ : ∃ g11, w2.heap.size = g11 := ⟨_, rfl⟩
  have hg11w : g11 < w3.heap.size := by omega
  rw [hg11] at HK3 ⊢
  clear hg11 hwa hid hb2 hx11 hb23 hz3 HZ hs3 HX1 HI1
  go_wp2_with (guard_target =~ wpList _ _ _ ({ dst := some 42, op := _, type := _, pos := _, after := _, guard := _ } :: _) _ _; refine wpList_load_box rfl 215 (.tmp 5) rfl W.heap.size rfl #[.int .i64 v.how, .int .i64 v.most, .int .i64 v.win, .slice x.A v.ch.length x.c, .slice x.B v.tm.length x.d] _ HX3 Try.underlying215 rfl (by rw [ward_info]; rfl) ?_)
  refine (HDN.out w3 HI3.out).mono ?_
  rintro e w4 ⟨xb, pb, rfl, hwb, hpb, hb4⟩
  have HZ1 := Lib.hid ((Box.new w4 215 zW).alloc (.cells zP 220))
  have HZ2 := Lib.hid (Box.new (w4.alloc (.cells zW 215)) 220 zP)
  rw [show (w4.alloc (.cells zW 215)).heap.size = w4.heap.size + 1 by simp] at HZ2
  go_upto_region 3 with (first | (guard_target =~ wpList _ _ _ ({ dst := none, op := _, type := _, pos := _, after := _, guard := _ } :: _) _ _; refine wpList_store_box rfl 215 (.tmp 14) (.tmp 47) rfl w4.heap.size rfl zW #[.int .i64 qb.1.how, .int .i64 qb.1.most, .int .i64 qb.1.win, .slice xb.A qb.1.ch.length xb.c, .slice xb.B qb.1.tm.length xb.d] rfl HZ1 rfl (by rw [ward_info]; rfl) (by simp [Value.oneCell']) ?_; intro w5 hs5; have HP5 := Lib.hid (hs5.out.only.box HZ2.out (by omega))) | (guard_target =~ wpList _ _ _ ({ dst := none, op := _, type := _, pos := _, after := _, guard := _ } :: _) _ _; refine wpList_store_box rfl 220 (.tmp 15) (.tmp 48) rfl (w4.heap.size + 1) rfl zP #[.slice pb.C qb.2.1.length pb.k, .slice pb.D qb.2.2.1.length pb.l, .bool qb.2.2.2] rfl HP5 rfl (by rw [plan_info]; rfl) (by simp [Value.oneCell']) ?_; intro w6 hs6))
  obtain ⟨hx14, hx15, hb46, hz6⟩ := newStored2 hs5.out hs6.out
  have hb36 := hb4.trans (hb46.mono hb4.size)
  have HB6 := Lib.hid (HB3.out.trans (hb36.mono HB3.out.size))
  have HX6 := Lib.hid (HX3.out.below hb36 HX3.out.lt)
  have HI6 := Lib.hid (HI3.out.below hb36)
  have HA6 := Lib.hid (HA3.out.below hb36)
  have HD6 := Lib.hid (HD3.out.below hb36)
  have HK6 := Lib.hid (HK3.out.below hb36 hg11w)
  have HWB6 := Lib.hid (hwb.win.below hb46)
  have HPB6 := Lib.hid (hpb.pin.below hb46)
  have HK14 := Lib.hid hx14
  have HK15 := Lib.hid hx15
  obtain ⟨g14, hg14⟩ : ∃ g14, w4.heap.size = g14 := ⟨_, rfl⟩
  rw [hg14] at HK14 HK15 ⊢
  have hg14w : g14 + 1 < w6.heap.size := by omega
  clear hg14 hwb hpb hb4 hx14 hx15 hb46 hz6 hb36 HZ1 HZ2 hs5 hs6 HP5 HB3 HX3 HI3 HA3 HD3 HK3
  go_wp2_with (guard_target =~ wpList _ _ _ ({ dst := some 51, op := _, type := _, pos := _, after := _, guard := _ } :: _) _ _; refine wpList_load_box rfl 215 (.tmp 5) rfl W.heap.size rfl #[.int .i64 v.how, .int .i64 v.most, .int .i64 v.win, .slice x.A v.ch.length x.c, .slice x.B v.tm.length x.d] _ HX6 Try.underlying215 rfl (by rw [ward_info]; rfl) ?_)
  refine (HPY.out w6 HI6.out ((HLL.out.below HB6.out).more HB6.out.size)).mono ?_
  rintro e w7 ⟨xc, C, kc, outs, rfl, hou, hwc, hpl, hb7⟩
  have HZ := Lib.hid (Box.new w7 215 zW)
  go_upto_region 4 with (guard_target =~ wpList _ _ _ ({ dst := none, op := _, type := _, pos := _, after := _, guard := _ } :: _) _ _; refine wpList_store_box rfl 215 (.tmp 17) (.tmp 54) rfl w7.heap.size rfl zW #[.int .i64 qc.2.1.how, .int .i64 qc.2.1.most, .int .i64 qc.2.1.win, .slice xc.A qc.2.1.ch.length xc.c, .slice xc.B qc.2.1.tm.length xc.d] rfl HZ rfl (by rw [ward_info]; rfl) (by simp [Value.oneCell']) ?_; intro w8 hs8)
  obtain ⟨hx17, hb78, hz8⟩ := newStored hs8.out
  have hb68 := hb7.trans (hb78.mono hb7.size)
  have hs8' : w6.heap.size ≤ w8.heap.size := hb68.size
  obtain ⟨g17, hg17⟩ : ∃ g17, w7.heap.size = g17 := ⟨_, rfl⟩
  have hg17w : g17 < w8.heap.size := by omega
  rw [hg17]
  have HOU := Lib.hid hou
  have HZ := Lib.hid (Box.new w8 215 zW)
  have HPRE := Lib.hid (show ∀ w9, Box w9 w8.heap.size 215 zW → Below w8.heap.size w8 w9 → LwS W w9 g11 g14 g17 w8.heap.size x v xa qa xb pb qb xc qc.2.1 Ci ki ids C kc outs from fun w9 hz hb => by
    have h69 := hb68.trans (hb.mono hb68.size)
    exact ⟨HX6.out.below h69 HX6.out.lt, HK6.out.below h69 HK6.out.lt, HK14.out.below h69 HK14.out.lt, HK15.out.below h69 HK15.out.lt, by rw [← hg17]; exact hx17.below hb (by omega), hz, HI6.out.below h69, HA6.out.below h69, HWB6.out.below h69, HPB6.out.below h69, (hwc.win.below hb78).below hb, HD6.out.below h69, ((hpl.below hb78).below hb).lower HB6.out.size, HB6.out.trans (h69.mono HB6.out.size)⟩)
  clear hg17 hou hwc hpl hb7 hx17 hb78 hz8 hb68 hs8 HX6 HI6 HA6 HD6 HK6 HWB6 HPB6 HK14 HK15
  go_upto_region 5 with (guard_target =~ wpList _ _ _ ({ dst := none, op := _, type := _, pos := _, after := _, guard := _ } :: _) _ _; refine wpList_store_box rfl 215 (.tmp 20) (.tmp 57) rfl w8.heap.size rfl zW zW rfl HZ rfl (by rw [ward_info]; rfl) (by simp [Value.oneCell']) ?_; intro w9 hs9)
  obtain ⟨hx20, hb89, hz9⟩ := newStored hs9.out
  have HS9 := Lib.hid (HPRE.out w9 hx20 hb89)
  obtain ⟨g20, hg20⟩ : ∃ g20, w8.heap.size = g20 := ⟨_, rfl⟩
  rw [hg20] at HS9 ⊢
  have hg20w : g20 < w9.heap.size := by omega
  clear hg20 hx20 hb89 hz9 hs9 HPRE HZ HB6 hs8' HF1 HB1
  have HXN := Lib.hid HS9.out.bx
  go_wp2_with (guard_target =~ wpList _ _ _ ({ dst := some 58, op := _, type := _, pos := _, after := _, guard := _ } :: _) _ _; refine wpList_load_box rfl 215 (.tmp 5) rfl W.heap.size rfl #[.int .i64 v.how, .int .i64 v.most, .int .i64 v.win, .slice x.A v.ch.length x.c, .slice x.B v.tm.length x.d] _ HXN Try.underlying215 rfl (by rw [ward_info]; rfl) ?_)
  refine (HWF.out w9 HS9.out.iv).mono ?_
  rintro e w10 ⟨rfl, hb10⟩
  have HS10 := Lib.hid (HS9.out.below hb10)
  clear hb10 HXN
  have HXN := Lib.hid HS10.out.bx
  go_wp2_with (guard_target =~ wpList _ _ _ ({ dst := some 60, op := _, type := _, pos := _, after := _, guard := _ } :: _) _ _; refine wpList_load_box rfl 215 (.tmp 5) rfl W.heap.size rfl #[.int .i64 v.how, .int .i64 v.most, .int .i64 v.win, .slice x.A v.ch.length x.c, .slice x.B v.tm.length x.d] _ HXN Try.underlying215 rfl (by rw [ward_info]; rfl) ?_)
  refine (HCK.out w10 HS10.out.iv).mono ?_
  rintro e w11 ⟨rfl, hb11⟩
  have HS11 := Lib.hid (HS10.out.below hb11)
  clear hb11 HXN HS9 HS10
  have q0 : (n0 != n0) = false := by simp
  obtain rfl := HN0.out
  obtain ⟨r, hr⟩ : ∃ r, qc = r := ⟨_, rfl⟩
  subst hr
  clear q0 HN0
  have c0 := (cells5 HS11.out.bx).1
  have c1 := (cells5 HS11.out.bx).2.1
  have c2 := (cells5 HS11.out.bx).2.2.1
  have c4 := (cells5 HS11.out.bx).2.2.2.2
  have HZ := Lib.hid (Box.new w11 215 zW)
  go_upto_region 11 with (guard_target =~ wpList _ _ _ ({ dst := none, op := _, type := _, pos := _, after := _, guard := _ } :: _) _ _; refine wpList_store_box rfl 215 (.tmp 22) (.tmp 117) rfl w11.heap.size rfl zW #[.int .i64 v.how, .int .i64 v.most, .int .i64 v.win, .slice none 0 0, .slice x.B v.tm.length x.d] rfl HZ rfl (by rw [ward_info]; rfl) (by simp [Value.oneCell']) ?_; intro w12 hs12)
  obtain ⟨hx22, hb1112, hz12⟩ := newStored hs12.out
  have HS12 := Lib.hid (HS11.out.below hb1112)
  have HX22 := Lib.hid hx22
  have HB12 := Lib.hid hb1112
  obtain ⟨g22, hg22⟩ : ∃ g22, w11.heap.size = g22 := ⟨_, rfl⟩
  rw [hg22] at HX22 ⊢
  have hg22w : g22 + 1 ≤ w12.heap.size := by omega
  have hg22x : w12.heap.size ≤ g22 + 1 := by omega
  have HG22 := Lib.hid hg22
  have hg22y : w11.heap.size ≤ g22 := Nat.le_of_eq hg22
  have hg22z : g22 ≤ w11.heap.size := Nat.le_of_eq hg22.symm
  clear hg22 hx22 hb1112 hz12 hs12 HZ c0 c1 c2 c4 hg11w hg14w hg17w hg20w hs1 HBG HDN HPY HWF HCK
  have c3 := (cells5 HS12.out.bx).2.2.2.1
  have hc63 : x.c ≤ 9223372036854775807 := by have := HS12.out.iv.c2; unfold maxLen at this; exact this
  have hcc := HS12.out.iv.c1
  go_wp2_with fail
  clear c3
  go_loopg [23, 121] v.ch.length (fun gk v23 v121 wr => ∃ (k : Nat) (C1 : Option Addr) (k1 : Nat) (D : Option Addr) (kD : Nat), gk = v.ch.length - k ∧ k ≤ v.ch.length ∧ v121 = .int .i64 k ∧ v23 = .slice D (deadIds (v.ch.take k)).length kD ∧ Box wr g22 215 #[.int .i64 v.how, .int .i64 v.most, .int .i64 v.win, .slice C1 k k1, .slice x.B v.tm.length x.d] ∧ OwnAt wr w12.heap.size 230 3 C1 k k1 (flat wcC ((v.ch.take k).map liveC)) ∧ OwnAt wr w12.heap.size 3 1 D (deadIds (v.ch.take k)).length kD (ints (deadIds (v.ch.take k))) ∧ Below w11.heap.size w11 wr)
  case atStart => exact ⟨0, none, 0, none, 0, rfl, by omega, rfl, rfl, HX22.out, OwnAt.nil, OwnAt.nil, HB12.out⟩
  case round =>
    obtain ⟨k, C1, k1, D, kD, hgk, hk, rfl, rfl, hx, hoc, hod, hbb⟩ := hrel
    have HX := Lib.hid hx
    have HOC := Lib.hid hoc
    have HOD := Lib.hid hod
    have HBB := Lib.hid hbb
    have HGK := Lib.hid hgk
    have HSr := Lib.hid (HS11.out.below hbb)
    have hwr11 := hbb.size
    rcases Nat.eq_or_lt_of_le hk with rfl | hlt
    · have e1 : decide ((v.ch.length : Int) < (v.ch.length : Int)) = false := decide_eq_false (by omega)
      have e1' : decide (v.ch.length < v.ch.length) = false := decide_eq_false (by omega)
      clear hgk hx hoc hod hbb HX22 HB12 HS12 HGK
      rw [List.take_of_length_le (Nat.le_refl _)] at HOC HOD
      rw [HIDS.out] at HOD
      rw [List.take_of_length_le (Nat.le_refl _), HIDS.out]
      have HXL := Lib.hid HX.out
      have hIB := (show WIn wr ⟨C1, k1, x.B, x.d⟩ qa from by
        rw [← HQA.out]
        have hco := HOC.out
        have hcap := hco.cap_le
        refine ⟨?_, HSr.out.iv.tm, by dsimp only; rw [List.length_map]; exact hcap.1, hcap.2, fun e => hco.nil_cap e, HSr.out.iv.d1, HSr.out.iv.d2, HSr.out.iv.d3⟩
        exact hco.row)
      have HIB := Lib.hid hIB
      have HXK := Lib.hid (show Box wr g22 215 (wcs ⟨C1, k1, x.B, x.d⟩ qa) from by
        rw [← HQA.out]
        have := HX.out
        unfold wcs
        dsimp only
        rw [List.length_map]
        exact this)
      have HA := Lib.hid HSr.out.b11
      clear hIB HX HXL
      go_wp2_with (first | (guard_target =~ wpList _ _ _ ({ dst := some 141, op := _, type := _, pos := _, after := _, guard := _ } :: _) _ _; refine wpList_load_box rfl 215 (.tmp 11) rfl g11 rfl #[.int .i64 qa.how, .int .i64 qa.most, .int .i64 qa.win, .slice xa.A qa.ch.length xa.c, .slice xa.B qa.tm.length xa.d] _ HA Try.underlying215 rfl (by rw [ward_info]; rfl) ?_) | (guard_target =~ wpList _ _ _ ({ dst := some 142, op := _, type := _, pos := _, after := _, guard := _ } :: _) _ _; refine wpList_load_box rfl 215 (.tmp 22) rfl g22 rfl (wcs ⟨C1, k1, x.B, x.d⟩ qa) _ HXK Try.underlying215 rfl (by rw [ward_info]; rfl) ?_))
      refine (sameWard_t xa ⟨C1, k1, x.B, x.d⟩ qa wr HSr.out.ia HIB.out).mono ?_
      rintro e w32 ⟨rfl, hb32⟩
      have HS32 := Lib.hid (HSr.out.below hb32)
      have HOD32 := Lib.hid (HOD.out.below hb32)
      clear hb32 HA HXK HIB HSr HOC HOD
      go_wp2_with fail
      refine (equal_any Ci D ki kD ids ids w32.heap.size w32.heap.size w32 HS32.out.id.row HOD32.out.row (by have := HS32.out.id.cap_le; omega) (by have := HS32.out.id.cap_le; omega)).mono ?_
      rintro e w33 ⟨he, n33, hw33⟩
      rw [show decide (ids = ids) = true by simp] at he
      subst he
      have hb33 : Below w32.heap.size w32 w33 := by rw [hw33]; exact below_drewN (Below.refl _ _) _
      have HS33 := Lib.hid (HS32.out.below hb33)
      clear hb33 hw33 HS32 HOD32 HBB HS11 HIDS
      have HXN := Lib.hid HS33.out.bx
      go_wp2_with (guard_target =~ wpList _ _ _ ({ dst := some 156, op := _, type := _, pos := _, after := _, guard := _ } :: _) _ _; refine wpList_load_box rfl 215 (.tmp 5) rfl W.heap.size rfl #[.int .i64 v.how, .int .i64 v.most, .int .i64 v.win, .slice x.A v.ch.length x.c, .slice x.B v.tm.length x.d] _ HXN Try.underlying215 rfl (by rw [ward_info]; rfl) ?_)
      refine (HFL.out w33 HS33.out.iv).mono ?_
      rintro e w34 ⟨x26, p27, rfl, hw26, hp27, hb34⟩
      have HZ1 := Lib.hid ((Box.new w34 215 zW).alloc (.cells zP 220))
      have HZ2 := Lib.hid (Box.new (w34.alloc (.cells zW 215)) 220 zP)
      rw [show (w34.alloc (.cells zW 215)).heap.size = w34.heap.size + 1 by simp] at HZ2
      go_upto_region 23 with (first | (guard_target =~ wpList _ _ _ ({ dst := none, op := _, type := _, pos := _, after := _, guard := _ } :: _) _ _; refine wpList_store_box rfl 215 (.tmp 26) (.tmp 162) rfl w34.heap.size rfl zW (wcs x26 qb.1) rfl HZ1 rfl (by rw [ward_info]; rfl) (by simp [Value.oneCell']) ?_; intro w35 hs35; have HP35 := Lib.hid (hs35.out.only.box HZ2.out (by omega))) | (guard_target =~ wpList _ _ _ ({ dst := none, op := _, type := _, pos := _, after := _, guard := _ } :: _) _ _; refine wpList_store_box rfl 220 (.tmp 27) (.tmp 163) rfl (w34.heap.size + 1) rfl zP (pcs p27 qb.2) rfl HP35 rfl (by rw [plan_info]; rfl) (by simp [Value.oneCell']) ?_; intro w36 hs36))
      obtain ⟨hx26, hx27, hb3436, hz36⟩ := newStored2 hs35.out hs36.out
      have hb3336 := hb34.trans (hb3436.mono hb34.size)
      have HS36 := Lib.hid (HS33.out.below hb3336)
      have HW26 := Lib.hid (hw26.win.below hb3436)
      have HP27 := Lib.hid (hp27.pin.below hb3436)
      have HX26 := Lib.hid hx26
      have HX27 := Lib.hid hx27
      obtain ⟨g26, hg26⟩ : ∃ g26, w34.heap.size = g26 := ⟨_, rfl⟩
      rw [hg26] at HX26 HX27 ⊢
      clear hg26
      clear hw26 hp27 hb34 hx26 hx27 hb3436 hz36 hb3336 HZ1 HZ2 hs35 hs36 HP35 HS33 HXN HFL
      have HA := Lib.hid HS36.out.b14
      go_wp2_with (first | (guard_target =~ wpList _ _ _ ({ dst := some 165, op := _, type := _, pos := _, after := _, guard := _ } :: _) _ _; refine wpList_load_box rfl 215 (.tmp 14) rfl g14 rfl #[.int .i64 qb.1.how, .int .i64 qb.1.most, .int .i64 qb.1.win, .slice xb.A qb.1.ch.length xb.c, .slice xb.B qb.1.tm.length xb.d] _ HA Try.underlying215 rfl (by rw [ward_info]; rfl) ?_) | (guard_target =~ wpList _ _ _ ({ dst := some 166, op := _, type := _, pos := _, after := _, guard := _ } :: _) _ _; refine wpList_load_box rfl 215 (.tmp 26) rfl g26 rfl (wcs x26 qb.1) _ HX26 Try.underlying215 rfl (by rw [ward_info]; rfl) ?_))
      refine (sameWard_t xb x26 qb.1 w36 HS36.out.ib HW26.out).mono ?_
      rintro e w37 ⟨rfl, hb37⟩
      have HS37 := Lib.hid (HS36.out.below hb37)
      have HX27' := Lib.hid (HX27.out.below hb37 HX27.out.lt)
      have HP27' := Lib.hid (HP27.out.below hb37)
      clear hb37 HA HS36 HX26 HX27 HP27 HW26
      have a0 := HS37.out.b15.cell 0
      have a1 := HS37.out.b15.cell 1
      have a2 := HS37.out.b15.cell 2
      have z0 := HX27'.out.cell 0
      have z1 := HX27'.out.cell 1
      have z2 := HX27'.out.cell 2
      simp only [List.getElem?_toArray, List.getElem?_cons_zero, List.getElem?_cons_succ] at a0 a1 a2 z0 z1 z2
      go_wp2_with fail
      refine (samePlan_t pb p27 qb.2 w37 HS37.out.ip HP27'.out).mono ?_
      rintro e w38 ⟨rfl, hb38⟩
      have HS38 := Lib.hid (HS37.out.below hb38)
      clear hb38 a0 a1 a2 z0 z1 z2 HS37 HX27' HP27'
      have qn : (nb != nb) = false := by simp
      by_cases h5 : 50 < l.length
      · have e5 : decide ((50 : Int) < (l.length : Int)) = true := decide_eq_true (by omega)
        have e5' : decide (50 < l.length) = true := decide_eq_true h5
        obtain rfl : qc = (2, wd0, []) := by
          rw [← HQC.out]
          unfold playQ
          rw [if_neg (by rw [HW.out]; decide), if_pos h5]
        obtain rfl : outs = [] := by have := HOU.out; simpa using this
        clear HOU HQC
        have HA := Lib.hid HS38.out.b17
        have HZ := Lib.hid HS38.out.b20
        go_wp2_with (first | (guard_target =~ wpList _ _ _ ({ dst := some 183, op := _, type := _, pos := _, after := _, guard := _ } :: _) _ _; refine wpList_load_box rfl 215 (.tmp 17) rfl g17 rfl (wcs xc wd0) _ HA Try.underlying215 rfl (by rw [ward_info]; rfl) ?_) | (guard_target =~ wpList _ _ _ ({ dst := some 184, op := _, type := _, pos := _, after := _, guard := _ } :: _) _ _; refine wpList_load_box rfl 215 (.tmp 20) rfl g20 rfl (wcs ⟨none, 0, none, 0⟩ wd0) _ HZ Try.underlying215 rfl (by rw [ward_info]; rfl) ?_))
        refine (sameWard_t xc ⟨none, 0, none, 0⟩ wd0 w38 HS38.out.ic (win0 _)).mono ?_
        rintro e w39 ⟨rfl, hb39⟩
        have HS39 := Lib.hid (HS38.out.below hb39)
        clear hb39 HA HZ HS38
        go_wp2_with fail
        go_ret
        exact ⟨rfl, HS39.out.bb⟩
      · have e5 : decide ((50 : Int) < (l.length : Int)) = false := decide_eq_false (by omega)
        have e5' : decide (50 < l.length) = false := decide_eq_false h5
        have h5l : l.length ≤ 50 := by omega
        have HQC2 := Lib.hid (show playF v l = qc from by
          rw [← HQC.out]
          unfold playQ
          rw [if_neg (by rw [HW.out]; decide), if_neg h5])
        have HAZ := Lib.hid ((ahead_zero v l).trans HQC2.out)
        have HXN := Lib.hid HS38.out.bx
        have HZ := Lib.hid (Box.new w38 215 zW)
        go_upto_region 28 with (first | (guard_target =~ wpList _ _ _ ({ dst := some 195, op := _, type := _, pos := _, after := _, guard := _ } :: _) _ _; refine wpList_load_box rfl 215 (.tmp 5) rfl W.heap.size rfl #[.int .i64 v.how, .int .i64 v.most, .int .i64 v.win, .slice x.A v.ch.length x.c, .slice x.B v.tm.length x.d] _ HXN Try.underlying215 rfl (by rw [ward_info]; rfl) ?_) | (guard_target =~ wpList _ _ _ ({ dst := none, op := _, type := _, pos := _, after := _, guard := _ } :: _) _ _; refine wpList_store_box rfl 215 (.tmp 28) (.tmp 195) rfl w38.heap.size rfl zW #[.int .i64 v.how, .int .i64 v.most, .int .i64 v.win, .slice x.A v.ch.length x.c, .slice x.B v.tm.length x.d] rfl HZ rfl (by rw [ward_info]; rfl) (by simp [Value.oneCell']) ?_; intro w40 hs40))
        obtain ⟨hx28, hb3840, hz40⟩ := newStored hs40.out
        have HX28 := Lib.hid hx28
        have HB40 := Lib.hid hb3840
        have HI40 := Lib.hid (HS38.out.iv.below hb3840)
        clear hx28 hb3840 hs40 HZ HXN HQC2 h5
        go_upto_block 2 with fail
        go_cut [29] (fun v29 wx => LawCut w38 qc v29 wx)
        case first =>
          go_wp2_with fail
          go_loopg [29, 198] l.length (fun gk v29 v198 wr => ∃ (k : Nat) (xq : WA) (q : Wd) (C2 : Option Addr) (kc2 : Nat) (outs2 : List (PA × PlV)), gk = l.length - k ∧ k ≤ l.length ∧ v198 = .int .i64 k ∧ v29 = .slice C2 outs2.length kc2 ∧ outs2.length ≤ k ∧ wardF q = 0 ∧ ahead (outs2.map (·.2)) (playF q (l.drop k)) = qc ∧ Box wr w38.heap.size 215 (wcs xq q) ∧ WIn wr xq q ∧ Plans wr (w38.heap.size + 1) C2 kc2 outs2 ∧ Below w38.heap.size w38 wr)
          case atStart => exact ⟨0, x, v, none, 0, [], rfl, by omega, rfl, rfl, by simp, HW.out, HAZ.out, HX28.out, HI40.out, Plans.nil _ _, HB40.out⟩
          case round =>
            obtain ⟨k, xq, q, C2, kc2, outs2, hgk, hk, rfl, rfl, hol, hwq, hah, hx, hi, hp, hb⟩ := hrel
            have HSr := Lib.hid (HS38.out.below hb)
            have HGK := Lib.hid hgk
            rcases Nat.eq_or_lt_of_le hk with rfl | hlt
            · have e2 : decide ((l.length : Int) < (l.length : Int)) = false := decide_eq_false (by omega)
              have e2' : decide (l.length < l.length) = false := decide_eq_false (by omega)
              rw [List.drop_of_length_le (Nat.le_refl _), ahead_nil] at hah
              have HRS := Lib.hid (show LawCut w38 qc (.slice C2 outs2.length kc2) wr from ⟨xq, q, C2, kc2, outs2, hah.symm, rfl, hx, hi, hp, hb⟩)
              clear hah hx hi hp hb hgk hk hwq
              go_wp2_with fail
              go_meet
              exact HRS.out
            · have e2 : decide ((k : Int) < (l.length : Int)) = true := decide_eq_true (by omega)
              have e2' : decide (k < l.length) = true := decide_eq_true hlt
              rw [drop_getD l (0, false, 0) hlt] at hah
              obtain ⟨bF, oF, hF, hbF, f0, f1, f2⟩ := Row.wf (HLL.out.below HSr.out.bb) hlt (0, false, 0)
              obtain ⟨y, hy⟩ : ∃ y, l.getD k (0, false, 0) = y := ⟨_, rfl⟩
              rw [hy] at f0 f1 f2 hah
              obtain ⟨y0, y1, y2⟩ := y
              dsimp only at f0 f1 f2
              have HAB := Lib.hid (fun h => (ahead_bad (v := q) (f := (y0, y1, y2)) (outs2.map (·.2)) (l.drop (k + 1)) h).symm.trans hah)
              have HAG := Lib.hid (fun h h2 => (ahead_gave (v := q) (f := (y0, y1, y2)) (outs2.map (·.2)) (l.drop (k + 1)) h h2).symm.trans hah)
              have HAN := Lib.hid (fun h h2 => (ahead_next (v := q) (f := (y0, y1, y2)) (outs2.map (·.2)) (l.drop (k + 1)) h h2).symm.trans hah)
              have HRT := Lib.hid (fun h => fallQ_right (v := q) (id := y0) (failed := y1) (now := y2) h)
              dsimp only at HAB HAG HAN
              have n0 : (0 : Int) ≤ (k : Int) := by omega
              have n1 : (k : Int) < (l.length : Int) := by omega
              have hba : Below wr.heap.size wr (wr.alloc (.cells #[.int .i64 y0, .bool y1, .int .i64 y2] 233)) := (Below.refl _ _).alloc (Nat.le_refl _) _
              have HXq := Lib.hid (hx.below hba hx.lt)
              have HIq := Lib.hid (hi.below hba)
              have HPq := Lib.hid (hp.below hba)
              have HBq := Lib.hid (hb.trans (hba.mono hb.size))
              have HSq := Lib.hid (HSr.out.below hba)
              have HYq := Lib.hid (Box.new wr 233 #[.int .i64 y0, .bool y1, .int .i64 y2])
              have HWQ := Lib.hid hwq
              have h38r : w38.heap.size < wr.heap.size := hx.lt
              have hsq : (wr.alloc (.cells #[.int .i64 y0, .bool y1, .int .i64 y2] 233)).heap.size = wr.heap.size + 1 := by simp
              have h38q : w38.heap.size < (wr.alloc (.cells #[.int .i64 y0, .bool y1, .int .i64 y2] 233)).heap.size := by omega
              clear hah hx hi hp hb hgk hy hba hwq HSr hsq
              subst hF
              go_upto_region 32 with fail
              generalize wr.alloc (.cells #[.int .i64 y0, .bool y1, .int .i64 y2] 233) = w41 at *
              have l0 := HYq.out.cell 0
              have l1 := HYq.out.cell 1
              have l2 := HYq.out.cell 2
              simp only [List.getElem?_toArray, List.getElem?_cons_zero, List.getElem?_cons_succ] at l0 l1 l2
              clear f0 f1 f2 hbF
              go_wp2_with (guard_target =~ wpList _ _ _ ({ dst := some 203, op := _, type := _, pos := _, after := _, guard := _ } :: _) _ _; refine wpList_load_box rfl 215 (.tmp 28) rfl w38.heap.size rfl (wcs xq q) _ HXq Try.underlying215 rfl (by rw [ward_info]; rfl) ?_)
              refine (fallenL xq q y0 y1 y2 w41 HIq.out HWQ.out).mono ?_
              rintro e w44 ⟨x2, p2, rfl, hw2, hp2, hb44⟩
              generalize fallQ q y0 y1 y2 = qq at *
              generalize fallE q y0 y2 = ee at *
              have HZ1 := Lib.hid ((Box.new w44 215 zW).alloc (.cells zP 220))
              have HZ2 := Lib.hid (Box.new (w44.alloc (.cells zW 215)) 220 zP)
              rw [show (w44.alloc (.cells zW 215)).heap.size = w44.heap.size + 1 by simp] at HZ2
              go_upto_region 33 with (first | (guard_target =~ wpList _ _ _ ({ dst := none, op := _, type := _, pos := _, after := _, guard := _ } :: _) _ _; refine wpList_store_box rfl 215 (.tmp 32) (.tmp 206) rfl w44.heap.size rfl zW (wcs x2 qq.1) rfl HZ1 rfl (by rw [ward_info]; rfl) (by simp [Value.oneCell']) ?_; intro w45 hs45; have HP45 := Lib.hid (hs45.out.only.box HZ2.out (by omega))) | (guard_target =~ wpList _ _ _ ({ dst := none, op := _, type := _, pos := _, after := _, guard := _ } :: _) _ _; refine wpList_store_box rfl 220 (.tmp 33) (.tmp 207) rfl (w44.heap.size + 1) rfl zP (pcs p2 qq.2) rfl HP45 rfl (by rw [plan_info]; rfl) (by simp [Value.oneCell']) ?_; intro w46 hs46))
              obtain ⟨hx32, hx33, hb4446, hz46⟩ := newStored2 hs45.out hs46.out
              have hb4146 := hb44.trans (hb4446.mono hb44.size)
              have HS46 := Lib.hid (HSq.out.below hb4146)
              have HX46 := Lib.hid (HXq.out.below hb4146 h38q)
              have HP46 := Lib.hid (HPq.out.below hb4146)
              have HB46 := Lib.hid (HBq.out.trans (hb4146.mono HBq.out.size))
              have HW2 := Lib.hid ((hw2.lower (show w38.heap.size + 1 ≤ w41.heap.size by omega)).below hb4446)
              have HP2 := Lib.hid ((hp2.lower (show w38.heap.size + 1 ≤ w41.heap.size by omega)).below hb4446)
              have HX32 := Lib.hid hx32
              have HX33 := Lib.hid hx33
              have h3844 : w38.heap.size < w44.heap.size := by have := hb44.size; omega
              have h4446 : w44.heap.size + 1 < w46.heap.size := by omega
              have HCO := Lib.hid (show ∀ b, C2.map (·.block) = some b → b < w44.heap.size from fun b hb => by have := own_max HPq.out.row b hb; have := hb44.size; omega)
              clear hw2 hp2 hb44 hx32 hx33 hb4446 hz46 hb4146 HZ1 HZ2 hs45 hs46 HP45 HXq HIq HPq HBq HSq HYq l0 l1 l2
              by_cases he : ee = 0
              · subst he
                have HA1 := Lib.hid (HAG.out rfl)
                have HA2 := Lib.hid (HAN.out rfl)
                have HR0 := Lib.hid (HRT.out rfl)
                clear HAB HAG HAN HRT
                go_wp2_with fail
                have hb4 : Below w46.heap.size w46 (w46.alloc (.cells #[.slice p2.C qq.2.1.length p2.k, .slice p2.D qq.2.2.1.length p2.l, .bool qq.2.2.2] 220)).drew := below_drewN (n := 1) ((Below.refl _ _).alloc (Nat.le_refl _) _)
                have HBD := Lib.hid hb4
                have HPA := Lib.hid (HP46.out.below hb4)
                have HP2A := Lib.hid (HP2.out.below hb4)
                have HW2A := Lib.hid (HW2.out.below hb4)
                have HYC := Lib.hid (show ∀ j u, (pnC (p2, qq.2))[j]? = some u → (w46.alloc (.cells #[.slice p2.C qq.2.1.length p2.k, .slice p2.D qq.2.2.1.length p2.l, .bool qq.2.2.2] 220)).drew.cell? ⟨w46.heap.size, j, none⟩ = some u from fun j u hu => by
                  have h1 := (Box.new w46 220 (pnC (p2, qq.2)).toArray).cell j
                  rw [List.getElem?_toArray] at h1
                  exact h1.trans hu)
                have hbd : (outs2.length + 1) * 56 ≤ 140737488355328 := by omega
                have hbs : w38.heap.size + 1 ≤ (w46.alloc (.cells #[.slice p2.C qq.2.1.length p2.k, .slice p2.D qq.2.2.1.length p2.l, .bool qq.2.2.2] 220)).drew.heap.size := by simp; omega
                have HCM := Lib.hid (fun b (hb : C2.map (·.block) = some b) => And.intro (own_min HPA.out.row b hb) (own_max HP46.out.row b hb))
                have HCN := Lib.hid (show ∀ b, C2.map (·.block) = some b → b ≠ w44.heap.size ∧ b ≠ w44.heap.size + 1 from fun b hb => by
                  have := HCO.out b hb
                  omega)
                have HO47 := Lib.hid (fun w' (h : Only (fun b => C2.map (·.block) = some b) (w46.alloc (.cells #[.slice p2.C qq.2.1.length p2.k, .slice p2.D qq.2.2.1.length p2.l, .bool qq.2.2.2] 220)).drew w') => show Only (fun b => C2.map (·.block) = some b) w46 w' from ((Only.refl _ w46).alloc _).drew.trans h)
                have HSK := Lib.hid (show ∀ w', Only (fun b => b = w38.heap.size ∨ C2.map (·.block) = some b) w46 w' → w'.cell? ⟨w44.heap.size, 0, none⟩ = some (.int .i64 qq.1.how) ∧ w'.cell? ⟨w44.heap.size, 1, none⟩ = some (.int .i64 qq.1.most) ∧ w'.cell? ⟨w44.heap.size, 2, none⟩ = some (.int .i64 qq.1.win) ∧ w'.cell? ⟨w44.heap.size, 3, none⟩ = some (.slice x2.A qq.1.ch.length x2.c) ∧ w'.cell? ⟨w44.heap.size, 4, none⟩ = some (.slice x2.B qq.1.tm.length x2.d) ∧ w'.cell? ⟨w44.heap.size + 1, 0, none⟩ = some (.slice p2.C qq.2.1.length p2.k) ∧ w'.cell? ⟨w44.heap.size + 1, 1, none⟩ = some (.slice p2.D qq.2.2.1.length p2.l) ∧ w'.cell? ⟨w44.heap.size + 1, 2, none⟩ = some (.bool qq.2.2.2) from fun w' h => by
                  obtain ⟨c0, c1, c2, c3, c4⟩ := cells5 (h.box HX32.out (fun e => by
                    rcases e with e | e
                    · omega
                    · exact (HCN.out _ e).1 rfl))
                  have hp := h.box HX33.out (fun e => by
                    rcases e with e | e
                    · omega
                    · exact (HCN.out _ e).2 rfl)
                  exact ⟨c0, c1, c2, c3, c4, hp.cell 0, hp.cell 1, hp.cell 2⟩)
                have HX47 := Lib.hid (fun w' (h : Only (fun b => C2.map (·.block) = some b) (w46.alloc (.cells #[.slice p2.C qq.2.1.length p2.k, .slice p2.D qq.2.2.1.length p2.l, .bool qq.2.2.2] 220)).drew w') => (HO47.out w' h).box HX46.out (fun e => by have := (HCM.out _ e).1; omega))
                go_region_held3 (fun w' => w'.cell? ⟨w44.heap.size, 0, none⟩ = some (.int .i64 qq.1.how) ∧ w'.cell? ⟨w44.heap.size, 1, none⟩ = some (.int .i64 qq.1.most) ∧ w'.cell? ⟨w44.heap.size, 2, none⟩ = some (.int .i64 qq.1.win) ∧ w'.cell? ⟨w44.heap.size, 3, none⟩ = some (.slice x2.A qq.1.ch.length x2.c) ∧ w'.cell? ⟨w44.heap.size, 4, none⟩ = some (.slice x2.B qq.1.tm.length x2.d) ∧ w'.cell? ⟨w44.heap.size + 1, 0, none⟩ = some (.slice p2.C qq.2.1.length p2.k) ∧ w'.cell? ⟨w44.heap.size + 1, 1, none⟩ = some (.slice p2.D qq.2.2.1.length p2.l) ∧ w'.cell? ⟨w44.heap.size + 1, 2, none⟩ = some (.bool qq.2.2.2))
                  ((first
                    | with_reducible exact HSK.out _ ((Only.refl _ w46).drew)
                    | with_reducible exact HSK.out _ (((Only.refl _ w46).alloc _).drew)
                    | with_reducible exact HSK.out _ ((HO47.out _ ho47).more (fun b hb => .inr hb))
                    | with_reducible exact HSK.out _ ((((((HO47.out _ ho47).more (fun b hb => .inr hb)).set (p := ⟨w38.heap.size, 0, none⟩) (.inl rfl) _).set (p := ⟨w38.heap.size, 1, none⟩) (.inl rfl) _).set (p := ⟨w38.heap.size, 2, none⟩) (.inl rfl) _).set (p := ⟨w38.heap.size, 3, none⟩) (.inl rfl) _ |>.set (p := ⟨w38.heap.size, 4, none⟩) (.inl rfl) _)
                    | go_keep))
                  ((refine step_pushq_pn rfl (.tmp 225) (.tmp 227) rfl (w38.heap.size + 1) C2 kc2 outs2 rfl HPA.out.row w46.heap.size (p2, qq.2) rfl HYC.out hbd hbs ?_; intro C3 kc3 w47 hown47 ho47; obtain ⟨y0', y1', y2', y3', y4'⟩ := cells5 (HX47.out w47 ho47); have z0 := (HX47.out w47 ho47).frozen 0; have z1 := (HX47.out w47 ho47).frozen 1; have z2 := (HX47.out w47 ho47).frozen 2; have z3 := (HX47.out w47 ho47).frozen 3; have z4 := (HX47.out w47 ho47).frozen 4))
                all_goals
                  have hS5 := (((((Only.refl (fun b => b = w38.heap.size) w47).set (p := ⟨w38.heap.size, 0, none⟩) rfl (.int .i64 qq.1.how)).set (p := ⟨w38.heap.size, 1, none⟩) rfl (.int .i64 qq.1.most)).set (p := ⟨w38.heap.size, 2, none⟩) rfl (.int .i64 qq.1.win)).set (p := ⟨w38.heap.size, 3, none⟩) rfl (.slice x2.A qq.1.ch.length x2.c)).set (p := ⟨w38.heap.size, 4, none⟩) rfl (.slice x2.B qq.1.tm.length x2.d)
                  have hX5 := (((((HX47.out w47 ho47).set 0 (.int .i64 qq.1.how)).set 1 (.int .i64 qq.1.most)).set 2 (.int .i64 qq.1.win)).set 3 (.slice x2.A qq.1.ch.length x2.c)).set 4 (.slice x2.B qq.1.tm.length x2.d)
                  simp only [List.setIfInBounds_toArray, List.set_cons_zero, List.set_cons_succ] at hX5
                  have HXF := Lib.hid hX5
                  have h47 := HO47.out w47 ho47
                  have HPF := Lib.hid ((HPA.out.push (y := (p2, qq.2)) HP2A.out hown47 ho47).only hS5 (fun b hb => by omega))
                  have hWF : WOwn w47 (w38.heap.size + 1) x2 qq.1 := ⟨HW2A.out.ch.only ho47 (fun b hb ht => own_apart HW2A.out.ch HPA.out.row (by decide) b hb ht), HW2A.out.tm.only ho47 (fun b hb ht => own_apart HW2A.out.tm HPA.out.row (by decide) b hb ht)⟩
                  have HWF2 := Lib.hid ((hWF.only hS5 (fun b hb => by omega)).win)
                  have HBF := Lib.hid (hS5.to_below (h47.to_below HB46.out HB46.out.size (fun b hb => by have := (HCM.out b hb).1; omega)) (by have := h47.size; have := HB46.out.size; omega) (fun b hb => by omega))
                  have hPX := h47.box HX33.out (fun e => (HCN.out _ e).2 rfl)
                  have b2 := (hS5.box hPX (by omega)).cell 2
                  simp only [List.getElem?_toArray, List.getElem?_cons_zero, List.getElem?_cons_succ] at b2
                  clear hown47 ho47 y0' y1' y2' y3' y4' z0 z1 z2 z3 z4 hS5 hX5 h47 hWF hPX hb4
                  generalize ((((w47.setCell ⟨w38.heap.size, 0, none⟩ (.int .i64 qq.1.how)).setCell ⟨w38.heap.size, 1, none⟩ (.int .i64 qq.1.most)).setCell ⟨w38.heap.size, 2, none⟩ (.int .i64 qq.1.win)).setCell ⟨w38.heap.size, 3, none⟩ (.slice x2.A qq.1.ch.length x2.c)).setCell ⟨w38.heap.size, 4, none⟩ (.slice x2.B qq.1.tm.length x2.d) = w48 at *
                  generalize hgv : qq.2.2.2 = gv at *
                  clear hgv
                  cases gv with
                  | true =>
                    have HR := Lib.hid (show LawCut w38 qc (.slice C3 (outs2.length + 1) kc3) w48 from ⟨x2, qq.1, C3, kc3, outs2 ++ [(p2, qq.2)], by rw [← HA1.out rfl]; simp, by rw [List.length_append]; rfl, HXF.out, HWF2.out, HPF.out, HBF.out⟩)
                    clear HA1 HA2
                    go_wp2_with fail
                    go_meet
                    exact HR.out
                  | false =>
                    have HR := Lib.hid (HA2.out rfl)
                    clear HA1 HA2
                    go_wp2_with fail
                    go_roundg (l.length - (k + 1))
                    case measure => have := HGK.out; omega
                    case rel => exact ⟨k + 1, x2, qq.1, C3, kc3, outs2 ++ [(p2, qq.2)], rfl, by omega, by go_num, by rw [List.length_append]; rfl, by rw [List.length_append]; simp; omega, HR0.out, by rw [List.map_append]; exact HR.out, HXF.out, HWF2.out, HPF.out, HBF.out⟩
              · have q1 : (ee != 0) = true := by simpa using he
                have q2 : (ee == ee) = true := by simp
                have hr := HAB.out he
                obtain rfl : qc = (ee, wd0, []) := hr.symm
                obtain rfl : outs = [] := by have := HOU.out; simpa using this
                have HA := Lib.hid HS46.out.b17
                have HZ := Lib.hid HS46.out.b20
                clear he HAB HAG HAN hr HOU
                go_wp2_with (first | (guard_target =~ wpList _ _ _ ({ dst := some 211, op := _, type := _, pos := _, after := _, guard := _ } :: _) _ _; refine wpList_load_box rfl 215 (.tmp 17) rfl g17 rfl (wcs xc wd0) _ HA Try.underlying215 rfl (by rw [ward_info]; rfl) ?_) | (guard_target =~ wpList _ _ _ ({ dst := some 212, op := _, type := _, pos := _, after := _, guard := _ } :: _) _ _; refine wpList_load_box rfl 215 (.tmp 20) rfl g20 rfl (wcs ⟨none, 0, none, 0⟩ wd0) _ HZ Try.underlying215 rfl (by rw [ward_info]; rfl) ?_))
                refine (sameWard_t xc ⟨none, 0, none, 0⟩ wd0 w46 HS46.out.ic (win0 _)).mono ?_
                rintro e w49 ⟨rfl, hb49⟩
                have HBZ := Lib.hid (HS46.out.bb.trans (hb49.mono HS46.out.bb.size))
                clear hb49 HA HZ HS46
                go_wp2_with fail
                go_ret
                exact ⟨rfl, HBZ.out⟩
        case rest =>
          obtain ⟨xq, q, C2, kc2, outs2, rfl, rfl, hx, hi, hp, hb⟩ := hcut
          have HSf := Lib.hid (HS38.out.below hb)
          have HA := Lib.hid HSf.out.b17
          have HXq := Lib.hid hx
          have HIq := Lib.hid hi
          have HPq := Lib.hid hp
          clear hx hi hp hb
          go_wp2_with (first | (guard_target =~ wpList _ _ _ ({ dst := some 232, op := _, type := _, pos := _, after := _, guard := _ } :: _) _ _; refine wpList_load_box rfl 215 (.tmp 17) rfl g17 rfl (wcs xc q) _ HA Try.underlying215 rfl (by rw [ward_info]; rfl) ?_) | (guard_target =~ wpList _ _ _ ({ dst := some 233, op := _, type := _, pos := _, after := _, guard := _ } :: _) _ _; refine wpList_load_box rfl 215 (.tmp 28) rfl w38.heap.size rfl (wcs xq q) _ HXq Try.underlying215 rfl (by rw [ward_info]; rfl) ?_))
          refine (sameWard_t xc xq q wc HSf.out.ic HIq.out).mono ?_
          rintro e w52 ⟨rfl, hb52⟩
          have HSg := Lib.hid (HSf.out.below hb52)
          have HPg := Lib.hid (HPq.out.below hb52)
          clear hb52 HA HXq HIq HPq HSf
          go_wp2_with fail
          refine (samePlans_t C C2 kc kc2 outs outs2 _ _ w52 HSg.out.pl HPg.out HOU.out).mono ?_
          rintro e w53 ⟨rfl, hb53⟩
          have HBF := Lib.hid (HSg.out.bb.trans (hb53.mono HSg.out.bb.size))
          clear hb53 HSg HPg
          go_wp2_with fail
          go_ret
          exact ⟨rfl, HBF.out⟩
    · have e1 : decide ((k : Int) < (v.ch.length : Int)) = true := decide_eq_true (by omega)
      have e1' : decide (k < v.ch.length) = true := decide_eq_true hlt
      obtain ⟨b, o, hA, hbA, k0, k1', k2⟩ := HSr.out.iv.ch.wc hlt (0, 0, false)
      have hto := take_getD v.ch (0, 0, false) hlt
      obtain ⟨y, hy⟩ : ∃ y, v.ch.getD k (0, 0, false) = y := ⟨_, rfl⟩
      rw [hy] at k0 k1' k2 hto
      have HTO := Lib.hid hto
      have hdT : y.2.2 = true → deadIds (v.ch.take (k + 1)) = deadIds (v.ch.take k) := fun hq => by
        rw [hto]
        unfold deadIds
        rw [List.filter_append, List.map_append]
        simp [hq]
      have hdF : y.2.2 = false → deadIds (v.ch.take (k + 1)) = deadIds (v.ch.take k) ++ [y.1] := fun hq => by
        rw [hto]
        unfold deadIds
        rw [List.filter_append, List.map_append]
        simp [hq]
      have HDT := Lib.hid hdT
      have HDF := Lib.hid hdF
      have hm1 : (v.ch.take (k + 1)).map liveC = (v.ch.take k).map liveC ++ [liveC y] := by rw [hto, List.map_append]; rfl
      have HM1 := Lib.hid hm1
      have hdl := deadIds_len (v.ch.take k)
      rw [List.length_take, Nat.min_eq_left hk] at hdl
      have hml : ((v.ch.take k).map liveC).length = k := by rw [List.length_map, List.length_take, Nat.min_eq_left hk]
      have HML := Lib.hid hml
      obtain ⟨dk, hdk⟩ : ∃ dk, deadIds (v.ch.take k) = dk := ⟨_, rfl⟩
      rw [hdk] at HDT HDF HOD hdl ⊢
      obtain ⟨y0, y1, y2⟩ := y
      dsimp only at k0 k1' k2 HDT HDF
      have n0 : (0 : Int) ≤ (k : Int) := by omega
      have n1 : (k : Int) < (v.ch.length : Int) := by omega
      clear hgk hx hoc hod hbb hto hdT hdF hm1 hml hy hdk
      go_upto_region 15 with fail
      clear hA
      have hba : Below wr.heap.size wr (wr.alloc (.cells #[.int .i64 y0, .int .i64 y1, .bool y2] 230)) := (Below.refl _ _).alloc (Nat.le_refl _) _
      have HXa := Lib.hid (HX.out.below hba HX.out.lt)
      have HOCa := Lib.hid (HOC.out.below hba)
      have HODa := Lib.hid (HOD.out.below hba)
      have HBa := Lib.hid (HBB.out.trans (hba.mono HBB.out.size))
      have HYa := Lib.hid (Box.new wr 230 #[.int .i64 y0, .int .i64 y1, .bool y2])
      have hgy : g22 < wr.heap.size := HX.out.lt
      have hsa : (wr.alloc (.cells #[.int .i64 y0, .int .i64 y1, .bool y2] 230)).heap.size = wr.heap.size + 1 := by simp
      have HNE0 := Lib.hid (show C1.map (·.block) ≠ some wr.heap.size from fun e => by have := own_max HOC.out _ e; omega)
      clear hba k0 k1' k2 HX HOC HOD HBB
      generalize wr.alloc (.cells #[.int .i64 y0, .int .i64 y1, .bool y2] 230) = wa at *
      obtain ⟨g25, hg25⟩ : ∃ g25, wr.heap.size = g25 := ⟨_, rfl⟩
      rw [hg25] at hgy hsa HYa hwr11 HNE0 ⊢
      clear hg25
      have HSA := Lib.hid hsa
      have l2 := HYa.out.cell 2
      simp only [List.getElem?_toArray, List.getElem?_cons_zero, List.getElem?_cons_succ] at l2
      have hwa : w11.heap.size ≤ g25 := by omega
      have hwg : g25 < wa.heap.size := by omega
      have hgs : w11.heap.size = g22 := HG22.out
      clear hsa hgs
      go_upto_if 127 with fail
      go_cut [23] (fun v23 wx => ∃ (D2 : Option Addr) (kD2 : Nat), v23 = .slice D2 (deadIds (v.ch.take (k + 1))).length kD2 ∧ OwnAt wx w12.heap.size 3 1 D2 (deadIds (v.ch.take (k + 1))).length kD2 (ints (deadIds (v.ch.take (k + 1)))) ∧ Only (fun b => D.map (·.block) = some b) wa wx)
      case first =>
        cases y2 with
        | true =>
          have HE := Lib.hid (HDT.out rfl)
          clear HDT HDF
          go_wp2_with fail
          go_meet
          rw [HE.out]
          exact ⟨D, kD, rfl, HODa.out, Only.refl _ _⟩
        | false =>
          have HE := Lib.hid (HDF.out rfl)
          clear HDT HDF
          have l0 := HYa.out.cell 0
          simp only [List.getElem?_toArray, List.getElem?_cons_zero] at l0
          have HDA := Lib.hid (HODa.out.alloc (.cells #[.int .i64 y0] 3))
          have HYC := Lib.hid (show (wa.alloc (.cells #[.int .i64 y0] 3)).cell? ⟨wa.heap.size, 0, none⟩ = some (.int .i64 y0) from (Box.new wa 3 #[.int .i64 y0]).cell 0)
          have hbd : (dk.length + 1) * 8 ≤ 140737488355328 := by omega
          have hbs2 : w12.heap.size ≤ (wa.alloc (.cells #[.int .i64 y0] 3)).heap.size := by simp; omega
          go_wp2_with (at_builtin; refine wpList_push_w rfl (.tmp 128) (.tmp 131) rfl w12.heap.size D kD dk rfl HDA.out wa.heap.size y0 rfl HYC.out hbd hbs2 ?_; intro D2 kD2 w22 hown22 ho22)
          go_meet
          rw [HE.out]
          exact ⟨D2, kD2, by rw [List.length_append]; rfl, by rw [List.length_append]; exact hown22, ((Only.refl _ wa).alloc _).trans ho22⟩
      case rest =>
        obtain ⟨D2, kD2, rfl, hod2, hon⟩ := hcut
        obtain ⟨wb, hwb⟩ : ∃ wb, wb = wc := ⟨_, rfl⟩
        subst hwb
        have hdb : ∀ b, D.map (·.block) = some b → w12.heap.size ≤ b ∧ b ≠ g25 := fun b hb => ⟨own_min HODa.out b hb, fun e => ownW_ne HODa.out HYa.out (by decide) (by rw [hb, e])⟩
        have hxb := hon.box HXa.out (fun e => by have := (hdb _ e).1; omega)
        have hyb := hon.box HYa.out (fun e => (hdb _ e).2 rfl)
        have HOCb := Lib.hid (HOCa.out.only hon (fun b hb hb2 => own_apart HOCa.out HODa.out (by decide) b hb hb2))
        have HBb := Lib.hid (hon.to_below HBa.out HBa.out.size (fun b hb => by have := (hdb b hb).1; omega))
        have hsb := hon.size
        have l2' := hyb.cell 2
        have f2' := hyb.frozen 2
        simp only [List.getElem?_toArray, List.getElem?_cons_zero, List.getElem?_cons_succ] at l2'
        have HXb := Lib.hid hxb
        have HYb := Lib.hid hyb
        have HOD2 := Lib.hid hod2
        clear hod2 hon hxb hyb l2 hdb HXa HYa HOCa HODa HBa
        go_upto_region 18 with fail
        have HYc := Lib.hid (show Box (wb.setCell ⟨g25, 2, none⟩ (.bool true)) g25 230 #[.int .i64 y0, .int .i64 y1, .bool true] from by
          have := HYb.out.set 2 (.bool true)
          simpa using this)
        have hon : Only (fun b => b = g25) wb (wb.setCell ⟨g25, 2, none⟩ (.bool true)) := (Only.refl (fun b => b = g25) wb).set (p := ⟨g25, 2, none⟩) rfl _
        have HXc := Lib.hid (hon.box HXb.out (by omega))
        have HOCc := Lib.hid (HOCb.out.only hon (fun b hb hb2 => by subst hb2; exact HNE0.out hb))
        have HODc := Lib.hid (HOD2.out.only hon (fun b hb hb2 => by subst hb2; exact ownW_ne HOD2.out HYb.out (by decide) hb))
        have HBc := Lib.hid (hon.to_below HBb.out HBb.out.size (fun b hb => by omega))
        have hsc : (wb.setCell ⟨g25, 2, none⟩ (.bool true)).heap.size = wb.heap.size := by simp [World.setCell]
        clear l2' f2' HXb HYb HOCb HOD2 HBb hon
        generalize wb.setCell ⟨g25, 2, none⟩ (.bool true) = wd at *
        have hwd : w12.heap.size ≤ wd.heap.size := by omega
        have hgd : g25 < wd.heap.size := HYc.out.lt
        clear hsc
        have o3 := (cells5 HXc.out).2.2.2.1
        have fo3 := HXc.out.frozen 3
        have l0 := HYc.out.cell 0
        have l1 := HYc.out.cell 1
        have l2 := HYc.out.cell 2
        simp only [List.getElem?_toArray, List.getElem?_cons_zero, List.getElem?_cons_succ] at l0 l1 l2
        obtain ⟨mk, hmk⟩ : ∃ mk, (v.ch.take k).map liveC = mk := ⟨_, rfl⟩
        rw [hmk] at HML HOCc HM1
        have HOC2 := Lib.hid (show OwnAt wd w12.heap.size 230 3 C1 mk.length k1 (flat wcC mk) from by rw [HML.out]; exact HOCc.out)
        clear hmk HOCc
        have HOA := Lib.hid (HOC2.out.alloc (.cells #[.int .i64 y0, .int .i64 y1, .bool true] 230))
        have HYC := Lib.hid (show ∀ j u, (wcC (y0, y1, true))[j]? = some u → (wd.alloc (.cells #[.int .i64 y0, .int .i64 y1, .bool true] 230)).cell? ⟨wd.heap.size, j, none⟩ = some u from fun j u hu => by
          have h1 := (Box.new wd 230 (wcC (y0, y1, true)).toArray).cell j
          rw [List.getElem?_toArray] at h1
          exact h1.trans hu)
        have hmk20 : mk.length ≤ 20 := by rw [HML.out]; omega
        have hbd : (mk.length + 1) * 24 ≤ 140737488355328 := by omega
        have hbs2 : w12.heap.size ≤ (wd.alloc (.cells #[.int .i64 y0, .int .i64 y1, .bool true] 230)).heap.size := by simp; omega
        have HOO := Lib.hid (fun w' (h : Only (fun b => C1.map (·.block) = some b) (wd.alloc (.cells #[.int .i64 y0, .int .i64 y1, .bool true] 230)) w') => show Only (fun b => C1.map (·.block) = some b) wd w' from ((Only.refl _ wd).alloc _).trans h)
        have HBX := Lib.hid (fun w' (h : Only (fun b => C1.map (·.block) = some b) (wd.alloc (.cells #[.int .i64 y0, .int .i64 y1, .bool true] 230)) w') => (HOO.out w' h).box HXc.out (fun e => ownW_ne HOC2.out HXc.out (by decide) e))
        have HCE := Lib.hid (fun w' (h : Only (fun b => C1.map (·.block) = some b) (wd.alloc (.cells #[.int .i64 y0, .int .i64 y1, .bool true] 230)) w') => show w'.cell? ⟨g22, 3, none⟩ = some (.slice C1 k k1) ∧ w'.frozen? ⟨g22, 3, none⟩ = false from ⟨(HBX.out w' h).cell 3, (HBX.out w' h).frozen 3⟩)
        have HKK := Lib.hid (show (Value.slice C1 k k1) = .slice C1 mk.length k1 by rw [HML.out])
        go_upto_region 19 with (at_builtin; refine wpList_pushq_wc rfl (.tmp 135) (.tmp 137) rfl w12.heap.size C1 k1 mk HKK.out HOA.out wd.heap.size (y0, y1, true) rfl HYC.out hbd hbs2 ?_; intro C2 k2 w23 hown23 ho23; obtain ⟨c3', f3'⟩ := HCE.out w23 ho23)
        have hx23 : Box (w23.setCell ⟨g22, 3, none⟩ (.slice C2 (mk.length + 1) k2)) g22 215 #[.int .i64 v.how, .int .i64 v.most, .int .i64 v.win, .slice C2 (mk.length + 1) k2, .slice x.B v.tm.length x.d] := by
          have := (HBX.out w23 ho23).set 3 (.slice C2 (mk.length + 1) k2)
          simpa using this
        have ho23' := hown23.far (p := ⟨g22, 3, none⟩) (fun g o e e2 => by have := own_min hown23 g (by rw [e]; rfl); dsimp only at e2; omega) (.slice C2 (mk.length + 1) k2)
        have hod3 := HODc.out.only (HOO.out w23 ho23) (fun b hb hb2 => own_apart HODc.out HOC2.out (by decide) b hb hb2)
        have HD23 := Lib.hid (hod3.far (p := ⟨g22, 3, none⟩) (fun g o e e2 => by have := own_min hod3 g (by rw [e]; rfl); dsimp only at e2; omega) (.slice C2 (mk.length + 1) k2))
        have HB23 := Lib.hid (((HOO.out w23 ho23).to_below HBc.out HBc.out.size (fun b hb => by have := own_min HOC2.out b hb; omega)).setCell (p := ⟨g22, 3, none⟩) (by dsimp only; omega) (.slice C2 (mk.length + 1) k2))
        clear hown23 ho23 c3' f3' o3 fo3 l0 l1 l2 hod3
        generalize w23.setCell ⟨g22, 3, none⟩ (.slice C2 (mk.length + 1) k2) = w24 at *
        rw [HML.out] at hx23 ho23'
        have HX23 := Lib.hid hx23
        have HO23 := Lib.hid ho23'
        clear hx23 ho23'
        go_wp2_with fail
        go_roundg (v.ch.length - (k + 1))
        case measure => have := HGK.out; omega
        case rel => exact ⟨k + 1, C2, k2, D2, kD2, rfl, hlt, by go_num, rfl, HX23.out, by rw [HM1.out]; exact HO23.out, HD23.out, HB23.out⟩
end Go.Proofs.Ytcmkkfpcdebfkaa
