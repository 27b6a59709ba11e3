
/-
  code.checkFun.
-/
import Derived.Test.YthglcnodoophaaaCk4
namespace Go.Proofs.Ythglcnodoophaaa
open Go.RowKit

theorem any_mem {α : Type} (l : List α) (d : α) {k : Nat} (h : k < l.length) : l.getD k d ∈ l := getD_mem d h
set_option maxRecDepth 100000 in
set_option maxHeartbeats 4000000 in
theorem checkFun_any (B n : Nat) (v : CkV) (P : CkP) (y : FcC) (f : FnP) (w : World) (h : CkIn w B n v P) (hf : FnIn w B y f) (hB : B ≤ w.heap.size) :
    Calls Try.prog 9 #[.agg (ckC v P), fcV y] w fun e w' => e = .returned (.int .i64 (funF P f)) ∧ Below w.heap.size w w' := by
  obtain ⟨r, hr⟩ : ∃ r, funF P f = r := ⟨_, rfl⟩
  rw [hr]
  unfold funF at hr
  have HC := Lib.hid h
  have HVD := Lib.hid (fun (x : InC) (t : Int) (w1 : World) (hb : Below w.heap.size w w1) (hok : InOk w1 B x) (ht0 : 0 ≤ t) (ht1 : t ≤ 1099511627776) => valid_any B n v P y x t w1 (h.below (hb.mono hB)) hok ht0 ht1)
  have HF := Lib.hid hf
  obtain ⟨e1, e2, e3, e4, hrow, hmax, hargs⟩ := hf
  obtain ⟨yn, yp, yh, yr, yA, yl, yc⟩ := y
  obtain ⟨fp, fh, fr, fi⟩ := f
  dsimp only at e1 e2 e3 e4 hrow hmax hargs hr
  subst e1 e2 e3 e4
  obtain ⟨fp, hfp⟩ : ∃ fp, fp = yp := ⟨_, rfl⟩
  obtain ⟨fh, hfh⟩ : ∃ fh, fh = yh := ⟨_, rfl⟩
  obtain ⟨fr, hfr⟩ : ∃ fr, fr = yr := ⟨_, rfl⟩
  subst hfp hfh hfr
  unfold ckC fcV inV at HVD
  unfold ckC fcV
  dsimp only at HVD ⊢
  have hb : Below w.heap.size w ((w.alloc (.cells #[.slice v.q0.A P.nT v.q0.cap, .slice v.q1.A P.nN v.q1.cap, .slice v.A2 P.fns.length v.c2, .slice v.A3 P.acs.length v.c3, .slice v.A4 P.ims.length v.c4, .slice v.A5 P.mks.length v.c5, .slice v.A6 P.pats.length v.c6] 30)).alloc (.cells #[.string yn, .int .i64 fp, .int .i64 fh, .int .i64 fr, .slice yA fi.length yc] 36)) := ((Below.refl _ _).alloc (Nat.le_refl _) _).alloc (by simp) _
  have hxc := (Box.new w 30 #[.slice v.q0.A P.nT v.q0.cap, .slice v.q1.A P.nN v.q1.cap, .slice v.A2 P.fns.length v.c2, .slice v.A3 P.acs.length v.c3, .slice v.A4 P.ims.length v.c4, .slice v.A5 P.mks.length v.c5, .slice v.A6 P.pats.length v.c6]).alloc (.cells #[.string yn, .int .i64 fp, .int .i64 fh, .int .i64 fr, .slice yA fi.length yc] 36)
  have hxf := Box.new (w.alloc (.cells #[.slice v.q0.A P.nT v.q0.cap, .slice v.q1.A P.nN v.q1.cap, .slice v.A2 P.fns.length v.c2, .slice v.A3 P.acs.length v.c3, .slice v.A4 P.ims.length v.c4, .slice v.A5 P.mks.length v.c5, .slice v.A6 P.pats.length v.c6] 30)) 36 #[.string yn, .int .i64 fp, .int .i64 fh, .int .i64 fr, .slice yA fi.length yc]
  rw [show (w.alloc (.cells #[.slice v.q0.A P.nT v.q0.cap, .slice v.q1.A P.nN v.q1.cap, .slice v.A2 P.fns.length v.c2, .slice v.A3 P.acs.length v.c3, .slice v.A4 P.ims.length v.c4, .slice v.A5 P.mks.length v.c5, .slice v.A6 P.pats.length v.c6] 30)).heap.size = w.heap.size + 1 by simp] at hxf
  have HR := Lib.hid hr
  have HB := Lib.hid hb
  have HXC := Lib.hid hxc
  have HXF := Lib.hid hxf
  have HROW := Lib.hid hrow
  have HARG := Lib.hid hargs
  clear hr hb hxc hxf h HF hrow hargs
  go_enter Try.func9, Try.ntmps9
  go_upto_region 1 with fail
  generalize (w.alloc (.cells #[.slice v.q0.A P.nT v.q0.cap, .slice v.q1.A P.nN v.q1.cap, .slice v.A2 P.fns.length v.c2, .slice v.A3 P.acs.length v.c3, .slice v.A4 P.ims.length v.c4, .slice v.A5 P.mks.length v.c5, .slice v.A6 P.pats.length v.c6] 30)).alloc (.cells #[.string yn, .int .i64 fp, .int .i64 fh, .int .i64 fr, .slice yA fi.length yc] 36) = w1 at *
  have uf0 : w1.cell? ⟨w.heap.size + 1, 0, none⟩ = some (.string yn) := HXF.out.cell 0
  have uf1 : w1.cell? ⟨w.heap.size + 1, 1, none⟩ = some (.int .i64 fp) := HXF.out.cell 1
  have uf2 : w1.cell? ⟨w.heap.size + 1, 2, none⟩ = some (.int .i64 fh) := HXF.out.cell 2
  have uf3 : w1.cell? ⟨w.heap.size + 1, 3, none⟩ = some (.int .i64 fr) := HXF.out.cell 3
  have uf4 : w1.cell? ⟨w.heap.size + 1, 4, none⟩ = some (.slice yA fi.length yc) := HXF.out.cell 4
  by_cases l1 : 4000 < fi.length
  · have d1 : (4000 : Int) < (fi.length : Int) := by omega
    have HRV : Hid (r = 2) := by show _ = _; rw [← HR.out, if_pos (.inl l1)]
    clear HR
    go_wp2_with fail
    go_ret
    exact ⟨by rw [HRV.out]; rfl, HB.out⟩
  have d1 : ¬ (4000 : Int) < (fi.length : Int) := by omega
  by_cases l2 : 2000 < fr
  · have HRV : Hid (r = 2) := by show _ = _; rw [← HR.out, if_pos (.inr l2)]
    clear HR
    go_wp2_with fail
    go_ret
    exact ⟨by rw [HRV.out]; rfl, HB.out⟩
  rw [if_neg (fun h => h.elim l1 l2)] at HR
  have HWP := Lib.hid (fun w' => within_any fp 2001 w')
  have HWH := Lib.hid (fun w' => within_any fh 2001 w')
  cases k1 : inB fp 2001 with
  | false =>
    rw [k1] at HWP
    have HRV : Hid (r = 3) := by show _ = _; rw [← HR.out, if_pos (.inl (by simp [k1]))]
    clear HR
    go_wp2_with fail
    refine (HWP.out _).mono ?_
    rintro e w3 ⟨rfl, rfl⟩
    go_wp2_with fail
    go_ret
    exact ⟨by rw [HRV.out]; rfl, HB.out⟩
  | true =>
  rw [k1] at HWP
  obtain ⟨p0, p1⟩ := inB_spec k1
  cases k2 : inB fh 2001 with
  | false =>
    rw [k2] at HWH
    have HRV : Hid (r = 3) := by show _ = _; rw [← HR.out, if_pos (.inl (by simp [k2]))]
    clear HR
    go_wp2_with fail
    refine (HWP.out _).mono ?_
    rintro e w3 ⟨rfl, rfl⟩
    go_wp2_with fail
    refine (HWH.out _).mono ?_
    rintro e w3 ⟨rfl, rfl⟩
    go_wp2_with fail
    go_ret
    exact ⟨by rw [HRV.out]; rfl, HB.out⟩
  | true =>
  rw [k2] at HWH
  obtain ⟨p2, p3⟩ := inB_spec k2
  have hs1 : -9223372036854775808 ≤ fp + fh := by omega
  have hs2 : fp + fh ≤ 9223372036854775807 := by omega
  by_cases l3 : fr < fp + fh
  · have HRV : Hid (r = 3) := by show _ = _; rw [← HR.out, if_pos (.inr (.inl l3))]
    have d3 : decide (fr < fp + fh) = true := decide_eq_true l3
    clear HR
    go_wp2_with fail
    refine (HWP.out _).mono ?_
    rintro e w3 ⟨rfl, rfl⟩
    go_wp2_with fail
    refine (HWH.out _).mono ?_
    rintro e w3 ⟨rfl, rfl⟩
    go_wp2_with fail
    go_ret
    exact ⟨by rw [HRV.out]; rfl, HB.out⟩
  have d3 : decide (fr < fp + fh) = false := decide_eq_false l3
  by_cases l4 : fi.length = 0
  · have HRV : Hid (r = 3) := by show _ = _; rw [← HR.out, if_pos (.inr (.inr l4))]
    have d4 : ((fi.length : Int) == 0) = true := by simp [l4]
    clear HR
    go_wp2_with fail
    refine (HWP.out _).mono ?_
    rintro e w3 ⟨rfl, rfl⟩
    go_wp2_with fail
    refine (HWH.out _).mono ?_
    rintro e w3 ⟨rfl, rfl⟩
    go_wp2_with fail
    go_ret
    exact ⟨by rw [HRV.out]; rfl, HB.out⟩
  have d4 : ((fi.length : Int) == 0) = false := by rw [beq_eq_false_iff_ne]; omega
  rw [if_neg (by simp only [k1, k2, not_or]; exact ⟨by simp, l3, l4⟩)] at HR
  have hi4 : 0 < fi.length := by omega
  have hi5 : fi ≠ [] := fun e => l4 (by rw [e]; rfl)
  go_wp2_with fail
  refine (HWP.out _).mono ?_
  rintro e w3 ⟨rfl, rfl⟩
  go_wp2_with fail
  refine (HWH.out _).mono ?_
  rintro e w3 ⟨rfl, rfl⟩
  go_wp2_with fail
  go_loopg [47] fi.length (fun gk i wr => ∃ k : Nat, gk = fi.length - k ∧ k ≤ fi.length ∧ i = .int .i64 k ∧ insF P fi.length fr (fi.drop k) (k : Int) = insF P fi.length fr fi 0 ∧ Below w1.heap.size w1 wr)
  case atStart => exact ⟨0, by omega, by omega, rfl, rfl, Below.refl _ _⟩
  case round =>
    obtain ⟨k, hgk, hk, rfl, hall, hbw⟩ := hrel
    have HK := Lib.hid hgk
    have HAL := Lib.hid hall
    clear hgk hall HWP HWH d3 d4 l3 l4 p0 p1 p2 p3 k1 k2 l2 hs1 hs2 hi4 hi5
    by_cases hlt : k < fi.length
    · obtain ⟨b1, o1, rfl, _, z0, z1, z2, z3, z4⟩ := (HROW.out.below ((HB.out.trans (hbw.mono HB.out.size)).mono hB)).ins hlt inc0
      have HIA := Lib.hid ((HARG.out _ (getD_mem inc0 hlt)).below ((HB.out.trans (hbw.mono HB.out.size)).mono hB))
      have HD := Lib.hid (insF_drop P fi.length fr fi hlt (k : Int))
      have hkl : (k : Int) < (fi.length : Int) := by omega
      generalize fi.getD k inc0 = x at *
      obtain ⟨xo, xa, xb, xc, xA, xcap, xargs⟩ := x
      dsimp only at z0 z1 z2 z3 z4
      have hba : Below wr.heap.size wr (wr.alloc (.cells #[.int .i64 xo, .int .i64 xa, .int .i64 xb, .int .i64 xc, .slice xA xargs.length xcap] 33)) := (Below.refl _ _).alloc (Nat.le_refl _) _
      have hb2 := hbw.trans (hba.mono hbw.size)
      have HB2 := Lib.hid hb2
      have HBB := Lib.hid (HB.out.trans (hb2.mono HB.out.size))
      have HOK := Lib.hid ((HIA.out.below (hba.mono (Nat.le_trans hB (HB.out.trans (hbw.mono HB.out.size)).size))).ok (Nat.le_trans hB HBB.out.size))
      obtain ⟨rv, hrv⟩ : ∃ rv, validF P fi.length fr ⟨xo, xa, xb, xc, xA, xcap, xargs⟩ (k : Int) = rv := ⟨_, rfl⟩
      have HCV := Lib.hid (HVD.out ⟨xo, xa, xb, xc, xA, xcap, xargs⟩ (k : Int) _ HBB.out HOK.out (by omega) (by omega))
      dsimp only at HCV
      rw [hrv] at HCV HD
      clear hrv HOK HIA HARG HVD hb2 hba
      have sc0 : (wr.alloc (.cells #[.int .i64 xo, .int .i64 xa, .int .i64 xb, .int .i64 xc, .slice xA xargs.length xcap] 33)).cell? ⟨w.heap.size, 0, none⟩ = some (.slice v.q0.A P.nT v.q0.cap) := (HXC.out.below HB2.out HXC.out.lt).cell 0
      have sc1 : (wr.alloc (.cells #[.int .i64 xo, .int .i64 xa, .int .i64 xb, .int .i64 xc, .slice xA xargs.length xcap] 33)).cell? ⟨w.heap.size, 1, none⟩ = some (.slice v.q1.A P.nN v.q1.cap) := (HXC.out.below HB2.out HXC.out.lt).cell 1
      have sc2 : (wr.alloc (.cells #[.int .i64 xo, .int .i64 xa, .int .i64 xb, .int .i64 xc, .slice xA xargs.length xcap] 33)).cell? ⟨w.heap.size, 2, none⟩ = some (.slice v.A2 P.fns.length v.c2) := (HXC.out.below HB2.out HXC.out.lt).cell 2
      have sc3 : (wr.alloc (.cells #[.int .i64 xo, .int .i64 xa, .int .i64 xb, .int .i64 xc, .slice xA xargs.length xcap] 33)).cell? ⟨w.heap.size, 3, none⟩ = some (.slice v.A3 P.acs.length v.c3) := (HXC.out.below HB2.out HXC.out.lt).cell 3
      have sc4 : (wr.alloc (.cells #[.int .i64 xo, .int .i64 xa, .int .i64 xb, .int .i64 xc, .slice xA xargs.length xcap] 33)).cell? ⟨w.heap.size, 4, none⟩ = some (.slice v.A4 P.ims.length v.c4) := (HXC.out.below HB2.out HXC.out.lt).cell 4
      have sc5 : (wr.alloc (.cells #[.int .i64 xo, .int .i64 xa, .int .i64 xb, .int .i64 xc, .slice xA xargs.length xcap] 33)).cell? ⟨w.heap.size, 5, none⟩ = some (.slice v.A5 P.mks.length v.c5) := (HXC.out.below HB2.out HXC.out.lt).cell 5
      have sc6 : (wr.alloc (.cells #[.int .i64 xo, .int .i64 xa, .int .i64 xb, .int .i64 xc, .slice xA xargs.length xcap] 33)).cell? ⟨w.heap.size, 6, none⟩ = some (.slice v.A6 P.pats.length v.c6) := (HXC.out.below HB2.out HXC.out.lt).cell 6
      have sf0 : (wr.alloc (.cells #[.int .i64 xo, .int .i64 xa, .int .i64 xb, .int .i64 xc, .slice xA xargs.length xcap] 33)).cell? ⟨w.heap.size + 1, 0, none⟩ = some (.string yn) := (HXF.out.below HB2.out HXF.out.lt).cell 0
      have sf1 : (wr.alloc (.cells #[.int .i64 xo, .int .i64 xa, .int .i64 xb, .int .i64 xc, .slice xA xargs.length xcap] 33)).cell? ⟨w.heap.size + 1, 1, none⟩ = some (.int .i64 fp) := (HXF.out.below HB2.out HXF.out.lt).cell 1
      have sf2 : (wr.alloc (.cells #[.int .i64 xo, .int .i64 xa, .int .i64 xb, .int .i64 xc, .slice xA xargs.length xcap] 33)).cell? ⟨w.heap.size + 1, 2, none⟩ = some (.int .i64 fh) := (HXF.out.below HB2.out HXF.out.lt).cell 2
      have sf3 : (wr.alloc (.cells #[.int .i64 xo, .int .i64 xa, .int .i64 xb, .int .i64 xc, .slice xA xargs.length xcap] 33)).cell? ⟨w.heap.size + 1, 3, none⟩ = some (.int .i64 fr) := (HXF.out.below HB2.out HXF.out.lt).cell 3
      have sf4 : (wr.alloc (.cells #[.int .i64 xo, .int .i64 xa, .int .i64 xb, .int .i64 xc, .slice xA xargs.length xcap] 33)).cell? ⟨w.heap.size + 1, 4, none⟩ = some (.slice (some ⟨b1, o1, none⟩) fi.length yc) := (HXF.out.below HB2.out HXF.out.lt).cell 4
      go_wp2_with fail
      refine HCV.out.mono ?_
      rintro e w9 ⟨rfl, hb9⟩
      have HB9 := Lib.hid (HB2.out.trans (hb9.mono HB2.out.size))
      have HB9w := Lib.hid (HBB.out.trans (hb9.mono HBB.out.size))
      clear hb9
      cases rv with
      | false =>
        have HRV : Hid (r = 3) := by show _ = _; rw [← HR.out, ← HAL.out, HD.out]; rfl
        clear HR HD HAL
        go_wp2_with fail
        go_ret
        exact ⟨by rw [HRV.out]; rfl, HB9w.out⟩
      | true =>
        have HAL2 : Hid (insF P fi.length fr (fi.drop (k + 1)) ((k + 1 : Nat) : Int) = insF P fi.length fr fi 0) := by show _ = _; rw [← HAL.out, HD.out, Bool.true_and]; rfl
        clear HR HD HAL
        go_wp2_with fail
        go_roundg (fi.length - (k + 1))
        case measure => have := HK.out; omega
        case rel => exact ⟨k + 1, rfl, by omega, by go_num, HAL2.out, HB9.out⟩
    · obtain rfl : k = fi.length := by omega
      have hln : ¬ (fi.length : Int) < (fi.length : Int) := by omega
      have HRV : Hid (r = 0) := by show _ = _; rw [← HR.out, ← HAL.out, List.drop_length]; rfl
      have HBB := Lib.hid (HB.out.trans (hbw.mono HB.out.size))
      clear HAL HK HR hbw
      go_wp2_with fail
      go_ret
      exact ⟨by rw [HRV.out]; rfl, HBB.out⟩
end Go.Proofs.Ythglcnodoophaaa
