/-
  WardTells: for arbitrary arguments, every function of package ward returns what the reference returns (its walk, where the supervisor is wrong).
-/
import Derived.Test.YtcmkkfpcdebfkaaWd23
namespace Go.Proofs.Ytcmkkfpcdebfkaa
open Go.RowKit

set_option maxRecDepth 100000 in
set_option maxHeartbeats 8000000 in
theorem wardTells_bad (x : WA) (v : Wd) (id : Int) (failed : Bool) (now : Int) (F : Option Addr) (fc : Nat) (l : List Fl) (W : World) (h : WIn W x v) (hl : Row W W.heap.size F (flat wfC l)) (hfc : l.length ≤ fc) (hfm : fc ≤ maxLen) (hw : wardF v ≠ 0) :
    Calls Try.prog 13 #[wardV x v, .int .i64 id, .bool failed, .int .i64 now, .slice F l.length fc] W fun e w' => e = .returned (.bool true) ∧ Below W.heap.size W w' := by
  have HBG := Lib.hid (fun w (h : WIn w x v) => beginW_bad x v w h hw)
  have HDN := Lib.hid (fun w (h : WIn w x v) => downW x v id failed now w h)
  have HPY := Lib.hid (fun w (h : WIn w x v) (hl : Row w w.heap.size F (flat wfC l)) => playW x v F fc l w h hl hfc hfm)
  have HWF := Lib.hid (fun w (h : WIn w x v) => faultW x v w h)
  have HCK := Lib.hid (fun w (h : WIn w x v) => checkW x v w h)
  have hp1 : playQ v l = (wardF v, wd0, []) := by unfold playQ; rw [if_pos hw]
  have hp2 : fallE v id now = wardF v := fallE_bad id now hw
  have hp3 : fallQ v id failed now = (wd0, pl0) := fallQ_bad failed (by rw [hp2]; exact hw)
  rw [hp1] at HPY
  rw [hp2, hp3] at HDN
  obtain ⟨n0, hn0'⟩ : ∃ n0, wardF v = n0 := ⟨_, rfl⟩
  rw [hn0'] at HBG HDN HPY HWF HCK hw
  have hn0 := hw
  obtain ⟨qa, hqa⟩ : ∃ qa, wd0 = qa := ⟨_, rfl⟩
  obtain ⟨qb, hqb⟩ : ∃ qb, (wd0, pl0) = qb := ⟨_, rfl⟩
  obtain ⟨qc, hqc⟩ : ∃ qc, (n0, wd0, ([] : List PlV)) = qc := ⟨_, rfl⟩
  obtain ⟨ids, hids⟩ : ∃ ids, ([] : List Int) = ids := ⟨_, rfl⟩
  have hbg : ∀ w, WIn w x v → Calls Try.prog 117 #[wardV x v] w (BegPost qa ids n0 w) := by rw [← hqa, ← hids]; exact HBG.out
  have hdn : ∀ w, WIn w x v → Calls Try.prog 118 #[wardV x v, .int .i64 id, .bool failed, .int .i64 now] w (FallPost qb n0 w) := by rw [← hqb]; exact HDN.out
  have hpy : ∀ w, WIn w x v → Row w w.heap.size F (flat wfC l) → Calls Try.prog 119 #[wardV x v, .slice F l.length fc] w (PlayPost qc w) := by rw [← hqc]; exact HPY.out
  clear HBG HDN HPY
  have HBG := Lib.hid hbg
  have HDN := Lib.hid hdn
  have HPY := Lib.hid hpy
  have HBAD := Lib.hid (And.intro hqa (And.intro hqb (And.intro hqc hids)))
  clear hbg hdn hpy hqa hqb hqc hids hn0' hw hp1 hp2 hp3
  have HX1 := Lib.hid (Box.new W 215 #[.int .i64 v.how, .int .i64 v.most, .int .i64 v.win, .slice x.A v.ch.length x.c, .slice x.B v.tm.length x.d])
  have hb1 := (Below.refl W.heap.size W).alloc (Nat.le_refl _) (.cells #[.int .i64 v.how, .int .i64 v.most, .int .i64 v.win, .slice x.A v.ch.length x.c, .slice x.B v.tm.length x.d] 215)
  have HB1 := Lib.hid hb1
  have HI1 := Lib.hid (h.below hb1)
  have HF1 := Lib.hid ((hl.below hb1).more hb1.size)
  have HLL := Lib.hid hl
  unfold wardV
  clear hb1 h hl
  go_enter Try.func13, Try.ntmps13
  go_upto_region 1 with fail
  have hs1 : W.heap.size < (W.alloc (.cells #[.int .i64 v.how, .int .i64 v.most, .int .i64 v.win, .slice x.A v.ch.length x.c, .slice x.B v.tm.length x.d] 215)).heap.size := HX1.out.lt
  generalize W.alloc (.cells #[.int .i64 v.how, .int .i64 v.most, .int .i64 v.win, .slice x.A v.ch.length x.c, .slice x.B v.tm.length x.d] 215) = w1 at *
  go_wp2_with (guard_target =~ wpList _ _ _ ({ dst := some 36, op := _, type := _, pos := _, after := _, guard := _ } :: _) _ _; refine wpList_load_box rfl 215 (.tmp 5) rfl W.heap.size rfl #[.int .i64 v.how, .int .i64 v.most, .int .i64 v.win, .slice x.A v.ch.length x.c, .slice x.B v.tm.length x.d] _ HX1 Try.underlying215 rfl (by rw [ward_info]; rfl) ?_)
  refine (HBG.out w1 HI1.out).mono ?_
  rintro e w2 ⟨xa, Ci, ki, rfl, hwa, hid, hb2⟩
  have HZ := Lib.hid (Box.new w2 215 zW)
  go_upto_region 2 with (guard_target =~ wpList _ _ _ ({ dst := none, op := _, type := _, pos := _, after := _, guard := _ } :: _) _ _; refine wpList_store_box rfl 215 (.tmp 11) (.tmp 38) rfl w2.heap.size rfl zW #[.int .i64 qa.how, .int .i64 qa.most, .int .i64 qa.win, .slice xa.A qa.ch.length xa.c, .slice xa.B qa.tm.length xa.d] rfl HZ rfl (by rw [ward_info]; rfl) (by simp [Value.oneCell']) ?_; intro w3 hs3)
  obtain ⟨hx11, hb23, hz3⟩ := newStored hs3.out
  have HB3 := Lib.hid (HB1.out.trans ((hb2.trans (hb23.mono hb2.size)).mono HB1.out.size))
  have HX3 := Lib.hid ((HX1.out.below hb2 hs1).below hb23 (by have := hb2.size; omega))
  have HI3 := Lib.hid ((HI1.out.below hb2).below hb23)
  have HA3 := Lib.hid (hwa.win.below hb23)
  have HD3 := Lib.hid (((hid.below hb23).lower (show W.heap.size ≤ w1.heap.size by omega)))
  have HK3 := Lib.hid hx11
  obtain ⟨g11, hg11⟩ : ∃ g11, w2.heap.size = g11 := ⟨_, rfl⟩
  have hg11w : g11 < w3.heap.size := by omega
  rw [hg11] at HK3 ⊢
  clear hg11 hwa hid hb2 hx11 hb23 hz3 HZ hs3 HX1 HI1
  go_wp2_with (guard_target =~ wpList _ _ _ ({ dst := some 42, op := _, type := _, pos := _, after := _, guard := _ } :: _) _ _; refine wpList_load_box rfl 215 (.tmp 5) rfl W.heap.size rfl #[.int .i64 v.how, .int .i64 v.most, .int .i64 v.win, .slice x.A v.ch.length x.c, .slice x.B v.tm.length x.d] _ HX3 Try.underlying215 rfl (by rw [ward_info]; rfl) ?_)
  refine (HDN.out w3 HI3.out).mono ?_
  rintro e w4 ⟨xb, pb, rfl, hwb, hpb, hb4⟩
  have HZ1 := Lib.hid ((Box.new w4 215 zW).alloc (.cells zP 220))
  have HZ2 := Lib.hid (Box.new (w4.alloc (.cells zW 215)) 220 zP)
  rw [show (w4.alloc (.cells zW 215)).heap.size = w4.heap.size + 1 by simp] at HZ2
  go_upto_region 3 with (first | (guard_target =~ wpList _ _ _ ({ dst := none, op := _, type := _, pos := _, after := _, guard := _ } :: _) _ _; refine wpList_store_box rfl 215 (.tmp 14) (.tmp 47) rfl w4.heap.size rfl zW #[.int .i64 qb.1.how, .int .i64 qb.1.most, .int .i64 qb.1.win, .slice xb.A qb.1.ch.length xb.c, .slice xb.B qb.1.tm.length xb.d] rfl HZ1 rfl (by rw [ward_info]; rfl) (by simp [Value.oneCell']) ?_; intro w5 hs5; have HP5 := Lib.hid (hs5.out.only.box HZ2.out (by omega))) | (guard_target =~ wpList _ _ _ ({ dst := none, op := _, type := _, pos := _, after := _, guard := _ } :: _) _ _; refine wpList_store_box rfl 220 (.tmp 15) (.tmp 48) rfl (w4.heap.size + 1) rfl zP #[.slice pb.C qb.2.1.length pb.k, .slice pb.D qb.2.2.1.length pb.l, .bool qb.2.2.2] rfl HP5 rfl (by rw [plan_info]; rfl) (by simp [Value.oneCell']) ?_; intro w6 hs6))
  obtain ⟨hx14, hx15, hb46, hz6⟩ := newStored2 hs5.out hs6.out
  have hb36 := hb4.trans (hb46.mono hb4.size)
  have HB6 := Lib.hid (HB3.out.trans (hb36.mono HB3.out.size))
  have HX6 := Lib.hid (HX3.out.below hb36 HX3.out.lt)
  have HI6 := Lib.hid (HI3.out.below hb36)
  have HA6 := Lib.hid (HA3.out.below hb36)
  have HD6 := Lib.hid (HD3.out.below hb36)
  have HK6 := Lib.hid (HK3.out.below hb36 hg11w)
  have HWB6 := Lib.hid (hwb.win.below hb46)
  have HPB6 := Lib.hid (hpb.pin.below hb46)
  have HK14 := Lib.hid hx14
  have HK15 := Lib.hid hx15
  obtain ⟨g14, hg14⟩ : ∃ g14, w4.heap.size = g14 := ⟨_, rfl⟩
  rw [hg14] at HK14 HK15 ⊢
  have hg14w : g14 + 1 < w6.heap.size := by omega
  clear hg14 hwb hpb hb4 hx14 hx15 hb46 hz6 hb36 HZ1 HZ2 hs5 hs6 HP5 HB3 HX3 HI3 HA3 HD3 HK3
  go_wp2_with (guard_target =~ wpList _ _ _ ({ dst := some 51, op := _, type := _, pos := _, after := _, guard := _ } :: _) _ _; refine wpList_load_box rfl 215 (.tmp 5) rfl W.heap.size rfl #[.int .i64 v.how, .int .i64 v.most, .int .i64 v.win, .slice x.A v.ch.length x.c, .slice x.B v.tm.length x.d] _ HX6 Try.underlying215 rfl (by rw [ward_info]; rfl) ?_)
  refine (HPY.out w6 HI6.out ((HLL.out.below HB6.out).more HB6.out.size)).mono ?_
  rintro e w7 ⟨xc, C, kc, outs, rfl, hou, hwc, hpl, hb7⟩
  have HZ := Lib.hid (Box.new w7 215 zW)
  go_upto_region 4 with (guard_target =~ wpList _ _ _ ({ dst := none, op := _, type := _, pos := _, after := _, guard := _ } :: _) _ _; refine wpList_store_box rfl 215 (.tmp 17) (.tmp 54) rfl w7.heap.size rfl zW #[.int .i64 qc.2.1.how, .int .i64 qc.2.1.most, .int .i64 qc.2.1.win, .slice xc.A qc.2.1.ch.length xc.c, .slice xc.B qc.2.1.tm.length xc.d] rfl HZ rfl (by rw [ward_info]; rfl) (by simp [Value.oneCell']) ?_; intro w8 hs8)
  obtain ⟨hx17, hb78, hz8⟩ := newStored hs8.out
  have hb68 := hb7.trans (hb78.mono hb7.size)
  have hs8' : w6.heap.size ≤ w8.heap.size := hb68.size
  obtain ⟨g17, hg17⟩ : ∃ g17, w7.heap.size = g17 := ⟨_, rfl⟩
  have hg17w : g17 < w8.heap.size := by omega
  rw [hg17]
  have HOU := Lib.hid hou
  have HZ := Lib.hid (Box.new w8 215 zW)
  have HPRE := Lib.hid (show ∀ w9, Box w9 w8.heap.size 215 zW → Below w8.heap.size w8 w9 → LwS W w9 g11 g14 g17 w8.heap.size x v xa qa xb pb qb xc qc.2.1 Ci ki ids C kc outs from fun w9 hz hb => by
    have h69 := hb68.trans (hb.mono hb68.size)
    exact ⟨HX6.out.below h69 HX6.out.lt, HK6.out.below h69 HK6.out.lt, HK14.out.below h69 HK14.out.lt, HK15.out.below h69 HK15.out.lt, by rw [← hg17]; exact hx17.below hb (by omega), hz, HI6.out.below h69, HA6.out.below h69, HWB6.out.below h69, HPB6.out.below h69, (hwc.win.below hb78).below hb, HD6.out.below h69, ((hpl.below hb78).below hb).lower HB6.out.size, HB6.out.trans (h69.mono HB6.out.size)⟩)
  clear hg17 hou hwc hpl hb7 hx17 hb78 hz8 hb68 hs8 HX6 HI6 HA6 HD6 HK6 HWB6 HPB6 HK14 HK15
  go_upto_region 5 with (guard_target =~ wpList _ _ _ ({ dst := none, op := _, type := _, pos := _, after := _, guard := _ } :: _) _ _; refine wpList_store_box rfl 215 (.tmp 20) (.tmp 57) rfl w8.heap.size rfl zW zW rfl HZ rfl (by rw [ward_info]; rfl) (by simp [Value.oneCell']) ?_; intro w9 hs9)
  obtain ⟨hx20, hb89, hz9⟩ := newStored hs9.out
  have HS9 := Lib.hid (HPRE.out w9 hx20 hb89)
  obtain ⟨g20, hg20⟩ : ∃ g20, w8.heap.size = g20 := ⟨_, rfl⟩
  rw [hg20] at HS9 ⊢
  have hg20w : g20 < w9.heap.size := by omega
  clear hg20 hx20 hb89 hz9 hs9 HPRE HZ HB6 hs8' HF1 HB1
  have HXN := Lib.hid HS9.out.bx
  go_wp2_with (guard_target =~ wpList _ _ _ ({ dst := some 58, op := _, type := _, pos := _, after := _, guard := _ } :: _) _ _; refine wpList_load_box rfl 215 (.tmp 5) rfl W.heap.size rfl #[.int .i64 v.how, .int .i64 v.most, .int .i64 v.win, .slice x.A v.ch.length x.c, .slice x.B v.tm.length x.d] _ HXN Try.underlying215 rfl (by rw [ward_info]; rfl) ?_)
  refine (HWF.out w9 HS9.out.iv).mono ?_
  rintro e w10 ⟨rfl, hb10⟩
  have HS10 := Lib.hid (HS9.out.below hb10)
  clear hb10 HXN
  have HXN := Lib.hid HS10.out.bx
  go_wp2_with (guard_target =~ wpList _ _ _ ({ dst := some 60, op := _, type := _, pos := _, after := _, guard := _ } :: _) _ _; refine wpList_load_box rfl 215 (.tmp 5) rfl W.heap.size rfl #[.int .i64 v.how, .int .i64 v.most, .int .i64 v.win, .slice x.A v.ch.length x.c, .slice x.B v.tm.length x.d] _ HXN Try.underlying215 rfl (by rw [ward_info]; rfl) ?_)
  refine (HCK.out w10 HS10.out.iv).mono ?_
  rintro e w11 ⟨rfl, hb11⟩
  have HS11 := Lib.hid (HS10.out.below hb11)
  clear hb11 HXN HS9 HS10
  have q0 : (n0 != n0) = false := by simp
  have q1 : (n0 != 0) = true := by simpa using hn0
  have q2 : (n0 == n0) = true := by simp
  obtain ⟨rfl, rfl, rfl, rfl⟩ := HBAD.out
  obtain rfl : outs = [] := by have := HOU.out; simpa using this
  clear HOU HBG HDN HPY
  have HA := Lib.hid HS11.out.b11
  have HZ := Lib.hid HS11.out.b20
  go_wp2_with (first | (guard_target =~ wpList _ _ _ ({ dst := some 66, op := _, type := _, pos := _, after := _, guard := _ } :: _) _ _; refine wpList_load_box rfl 215 (.tmp 11) rfl g11 rfl (wcs xa wd0) _ HA Try.underlying215 rfl (by rw [ward_info]; rfl) ?_) | (guard_target =~ wpList _ _ _ ({ dst := some 67, op := _, type := _, pos := _, after := _, guard := _ } :: _) _ _; refine wpList_load_box rfl 215 (.tmp 20) rfl g20 rfl (wcs ⟨none, 0, none, 0⟩ wd0) _ HZ Try.underlying215 rfl (by rw [ward_info]; rfl) ?_))
  refine (sameWard_t xa ⟨none, 0, none, 0⟩ wd0 w11 HS11.out.ia (win0 _)).mono ?_
  rintro e w12 ⟨rfl, hb12⟩
  have HS12 := Lib.hid (HS11.out.below hb12)
  clear hb12 HA HZ HS11
  obtain ⟨a0, a1, a2, a3, a4⟩ := cells5 HS12.out.b14
  obtain ⟨z0, z1, z2, z3, z4⟩ := cells5 HS12.out.b20
  go_wp2_with fail
  refine (sameWard_t xb ⟨none, 0, none, 0⟩ wd0 w12 HS12.out.ib (win0 _)).mono ?_
  rintro e w13 ⟨rfl, hb13⟩
  have HS13 := Lib.hid (HS12.out.below hb13)
  clear hb13 a0 a1 a2 a3 a4 z0 z1 z2 z3 z4 HS12
  have a0 := HS13.out.b15.cell 0
  have a1 := HS13.out.b15.cell 1
  have a2 := HS13.out.b15.cell 2
  simp only [List.getElem?_toArray, List.getElem?_cons_zero, List.getElem?_cons_succ] at a0 a1 a2
  go_wp2_with fail
  refine (samePlan_t pb ⟨none, 0, none, 0⟩ pl0 w13 HS13.out.ip (pin0 _)).mono ?_
  rintro e w14 ⟨rfl, hb14⟩
  have HS14 := Lib.hid (HS13.out.below hb14)
  clear hb14 a0 a1 a2 HS13
  obtain ⟨a0, a1, a2, a3, a4⟩ := cells5 HS14.out.b17
  obtain ⟨z0, z1, z2, z3, z4⟩ := cells5 HS14.out.b20
  go_wp2_with fail
  refine (sameWard_t xc ⟨none, 0, none, 0⟩ wd0 w14 HS14.out.ic (win0 _)).mono ?_
  rintro e w15 ⟨rfl, hb15⟩
  have HS15 := Lib.hid (HS14.out.below hb15)
  clear hb15 a0 a1 a2 a3 a4 z0 z1 z2 z3 z4 HS14
  go_wp2_with fail
  go_ret
  exact ⟨rfl, HS15.out.bb⟩
end Go.Proofs.Ytcmkkfpcdebfkaa
