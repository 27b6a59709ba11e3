
/-
  code.Check.
-/
import Derived.Test.YthglcnodoophaaaCk5
namespace Go.Proofs.Ythglcnodoophaaa
open Go.RowKit

theorem topF_eq (f : FnP) : topF f = (decide (0 < f.ins.length) && ((f.ins.getD 0 inc0).op == 16)) := by
  obtain ⟨_, _, _, l⟩ := f
  unfold topF
  cases l with
  | nil => simp
  | cons x t => simp; rfl
set_option maxRecDepth 100000 in
set_option maxHeartbeats 4000000 in
theorem check_any (B n : Nat) (v : CkV) (P : CkP) (w : World) (h : CkIn w B n v P) (hB : B ≤ w.heap.size) :
    Calls Try.prog 5 #[.agg (ckC v P)] w fun e w' => e = .returned (.int .i64 (faultF P)) ∧ Below w.heap.size w w' := by
  obtain ⟨r, hr⟩ : ∃ r, faultF P = r := ⟨_, rfl⟩
  rw [hr]
  unfold faultF at hr
  have HCF := Lib.hid (fun (y : FcC) (f : FnP) (w1 : World) (hb : Below w.heap.size w w1) (hf : FnIn w B y f) => checkFun_any B n v P y f w1 (h.below (hb.mono hB)) (hf.below (hb.mono hB)) (Nat.le_trans hB hb.size))
  obtain ⟨s0, s1, s2, s3, s4, s5, s6⟩ := h.small
  obtain ⟨fl, hfl1, hfl2, hfl3⟩ := h.fns
  have HACS := Lib.hid h.acs
  have HIMS := Lib.hid h.ims
  have HMKS := Lib.hid h.mks
  have HFL := Lib.hid hfl2
  have HFN := Lib.hid hfl3
  have HLN := Lib.hid hfl1
  obtain ⟨q0, q1, A2, c2, A3, c3, A4, c4, A5, c5, A6, c6⟩ := v
  unfold ckC fcV at HCF
  unfold ckC
  dsimp only at HCF HACS HIMS HMKS HFL HFN HLN ⊢
  clear h hfl1 hfl2 hfl3
  have hb : Below w.heap.size w (w.alloc (.cells #[.slice q0.A P.nT q0.cap, .slice q1.A P.nN q1.cap, .slice A2 P.fns.length c2, .slice A3 P.acs.length c3, .slice A4 P.ims.length c4, .slice A5 P.mks.length c5, .slice A6 P.pats.length c6] 30)) := (Below.refl _ _).alloc (Nat.le_refl _) _
  have HXC := Lib.hid (Box.new w 30 #[.slice q0.A P.nT q0.cap, .slice q1.A P.nN q1.cap, .slice A2 P.fns.length c2, .slice A3 P.acs.length c3, .slice A4 P.ims.length c4, .slice A5 P.mks.length c5, .slice A6 P.pats.length c6])
  have HR := Lib.hid hr
  have HB := Lib.hid hb
  clear hr hb
  go_enter Try.func5, Try.ntmps5
  go_upto_region 1 with fail
  generalize w.alloc (.cells #[.slice q0.A P.nT q0.cap, .slice q1.A P.nN q1.cap, .slice A2 P.fns.length c2, .slice A3 P.acs.length c3, .slice A4 P.ims.length c4, .slice A5 P.mks.length c5, .slice A6 P.pats.length c6] 30) = w1 at *
  have cc0 : w1.cell? ⟨w.heap.size, 0, none⟩ = some (.slice q0.A P.nT q0.cap) := HXC.out.cell 0
  have cc1 : w1.cell? ⟨w.heap.size, 1, none⟩ = some (.slice q1.A P.nN q1.cap) := HXC.out.cell 1
  have cc2 : w1.cell? ⟨w.heap.size, 2, none⟩ = some (.slice A2 P.fns.length c2) := HXC.out.cell 2
  have cc3 : w1.cell? ⟨w.heap.size, 3, none⟩ = some (.slice A3 P.acs.length c3) := HXC.out.cell 3
  have cc4 : w1.cell? ⟨w.heap.size, 4, none⟩ = some (.slice A4 P.ims.length c4) := HXC.out.cell 4
  have cc5 : w1.cell? ⟨w.heap.size, 5, none⟩ = some (.slice A5 P.mks.length c5) := HXC.out.cell 5
  have cc6 : w1.cell? ⟨w.heap.size, 6, none⟩ = some (.slice A6 P.pats.length c6) := HXC.out.cell 6
  by_cases l0 : 1000 < P.fns.length
  · have d0 : (1000 : Int) < (P.fns.length : Int) := by omega
    have HRV : Hid (r = 2) := by show _ = _; rw [← HR.out, if_pos (.inl l0)]
    clear HR
    go_wp2_with fail
    go_ret
    exact ⟨by rw [HRV.out]; rfl, HB.out⟩
  have d0 : ¬ (1000 : Int) < (P.fns.length : Int) := by omega
  by_cases l1 : 4000 < P.nT
  · have d1 : (4000 : Int) < (P.nT : Int) := by omega
    have HRV : Hid (r = 2) := by show _ = _; rw [← HR.out, if_pos (.inr (.inl l1))]
    clear HR
    go_wp2_with fail
    go_ret
    exact ⟨by rw [HRV.out]; rfl, HB.out⟩
  have d1 : ¬ (4000 : Int) < (P.nT : Int) := by omega
  by_cases l2 : 4000 < P.nN
  · have d2 : (4000 : Int) < (P.nN : Int) := by omega
    have HRV : Hid (r = 2) := by show _ = _; rw [← HR.out, if_pos (.inr (.inr (.inl l2)))]
    clear HR
    go_wp2_with fail
    go_ret
    exact ⟨by rw [HRV.out]; rfl, HB.out⟩
  have d2 : ¬ (4000 : Int) < (P.nN : Int) := by omega
  by_cases l3 : 2000 < P.pats.length
  · have d3 : (2000 : Int) < (P.pats.length : Int) := by omega
    have HRV : Hid (r = 2) := by show _ = _; rw [← HR.out, if_pos (.inr (.inr (.inr l3)))]
    clear HR
    go_wp2_with fail
    go_ret
    exact ⟨by rw [HRV.out]; rfl, HB.out⟩
  have d3 : ¬ (2000 : Int) < (P.pats.length : Int) := by omega
  rw [if_neg (fun h => h.elim l0 fun h => h.elim l1 fun h => h.elim l2 l3)] at HR
  clear l0 l1 l2 l3
  go_wp2_with fail
  clear cc0 cc1 cc6
  clear d0 d1 d2 d3 cc2 cc3 cc4 cc5
  go_loopg [39] P.acs.length (fun gk i wr => ∃ k : Nat, gk = P.acs.length - k ∧ k ≤ P.acs.length ∧ i = .int .i64 k ∧ (P.acs.drop k).all (acF P) = P.acs.all (acF P) ∧ Below w1.heap.size w1 wr)
  case atStart => exact ⟨0, by omega, by omega, rfl, rfl, Below.refl _ _⟩
  case round =>
    obtain ⟨k, hgk, hk, rfl, hall, hbw⟩ := hrel
    have HK := Lib.hid hgk
    have HAL := Lib.hid hall
    have HBW := Lib.hid hbw
    have HBB := Lib.hid (HB.out.trans (hbw.mono HB.out.size))
    clear hgk hall hbw
    by_cases hlt : k < P.acs.length
    · obtain ⟨b1, o1, rfl, _, z0, z1, z2, z3⟩ := (HACS.out.below (HBB.out.mono hB)).ac hlt acc0
      have HD := Lib.hid (all_drop (acF P) P.acs acc0 hlt)
      have hkl : (k : Int) < (P.acs.length : Int) := by omega
      generalize P.acs.getD k acc0 = x at *
      obtain ⟨xn, xs, xf, xt⟩ := x
      dsimp only at z0 z1 z2 z3
      have HWQ := Lib.hid (fun w' => within_any xf P.fns.length w')
      have hba : Below wr.heap.size wr (wr.alloc (.cells #[.string xn, .int .i64 xs, .int .i64 xf, .bool xt] 44)) := (Below.refl _ _).alloc (Nat.le_refl _) _
      have HBA := Lib.hid (HBW.out.trans (hba.mono HBW.out.size))
      have HBAA := Lib.hid (HBB.out.trans (hba.mono HBB.out.size))
      clear hba
      have s2 : (wr.alloc (.cells #[.string xn, .int .i64 xs, .int .i64 xf, .bool xt] 44)).cell? ⟨w.heap.size, 2, none⟩ = some (.slice A2 P.fns.length c2) := (HXC.out.below HBA.out HXC.out.lt).cell 2
      cases hin : inB xf P.fns.length with
      | false =>
        rw [hin] at HWQ
        have HAF : Hid (P.acs.all (acF P) = false) := by show _ = _; rw [← HAL.out, HD.out]; simp [acF, hin]
        have HRV : Hid (r = 3) := by show _ = _; rw [← HR.out, if_pos HAF.out]
        clear HR HD HAL HAF
        go_wp2_with fail
        refine (HWQ.out _).mono ?_
        rintro e w9 ⟨rfl, rfl⟩
        go_wp2_with fail
        go_ret
        exact ⟨by rw [HRV.out]; rfl, HBAA.out⟩
      | true =>
        rw [hin] at HWQ
        obtain ⟨hi0, hi1⟩ := inB_spec hin
        obtain ⟨k2, rfl⟩ : ∃ k2 : Nat, xf = (k2 : Int) := ⟨xf.toNat, by omega⟩
        have hk2 : k2 < P.fns.length := by omega
        have hk2l : k2 < fl.length := by rw [HLN.out]; exact hk2
        obtain ⟨b2, o2, rfl, _, y0, y1, y2, y3, y4⟩ := (HFL.out.below (HBAA.out.mono hB)).fc hk2l fcc0
        have HFI := Lib.hid (HFN.out k2 hk2l)
        have HTO : Hid (((k2 : Int)).toNat = k2) := Int.toNat_natCast k2
        have HAD : Hid (acF P ⟨xn, xs, (k2 : Int), xt⟩ = (decide (0 ≤ xs) && decide ((P.fns.getD k2 fnp0).p = xs) && decide ((P.fns.getD k2 fnp0).h = 0) && (!xt || topF (P.fns.getD k2 fnp0)))) := by
          show _ = _
          unfold acF
          dsimp only
          rw [hin, HTO.out, Bool.true_and]
        generalize fl.getD k2 fcc0 = y at *
        generalize P.fns.getD k2 fnp0 = f at *
        have hbf : Below (wr.alloc (.cells #[.string xn, .int .i64 xs, .int .i64 (k2 : Int), .bool xt] 44)).heap.size (wr.alloc (.cells #[.string xn, .int .i64 xs, .int .i64 (k2 : Int), .bool xt] 44)) ((wr.alloc (.cells #[.string xn, .int .i64 xs, .int .i64 (k2 : Int), .bool xt] 44)).alloc (.cells #[.string y.name, .int .i64 y.p, .int .i64 y.h, .int .i64 y.r, .slice y.A y.len y.cap] 36)) := (Below.refl _ _).alloc (Nat.le_refl _) _
        have HBF := Lib.hid (HBA.out.trans (hbf.mono HBA.out.size))
        have HBFF := Lib.hid (HBAA.out.trans (hbf.mono HBAA.out.size))
        have HXA := Lib.hid (((Box.new wr 44 #[.string xn, .int .i64 xs, .int .i64 (k2 : Int), .bool xt]).alloc (.cells #[.string y.name, .int .i64 y.p, .int .i64 y.h, .int .i64 y.r, .slice y.A y.len y.cap] 36)))
        have hxf := Box.new (wr.alloc (.cells #[.string xn, .int .i64 xs, .int .i64 (k2 : Int), .bool xt] 44)) 36 #[.string y.name, .int .i64 y.p, .int .i64 y.h, .int .i64 y.r, .slice y.A y.len y.cap]
        rw [show (wr.alloc (.cells #[.string xn, .int .i64 xs, .int .i64 (k2 : Int), .bool xt] 44)).heap.size = wr.heap.size + 1 by simp] at hxf
        have HXF := Lib.hid hxf
        clear hbf hxf
        go_wp2_with fail
        refine (HWQ.out _).mono ?_
        rintro e w9 ⟨rfl, rfl⟩
        go_upto_region 9 with fail
        generalize ((wr.alloc (.cells #[.string xn, .int .i64 xs, .int .i64 (k2 : Int), .bool xt] 44)).alloc (.cells #[.string y.name, .int .i64 y.p, .int .i64 y.h, .int .i64 y.r, .slice y.A y.len y.cap] 36)) = w3 at *
        clear y0 y1 y2 y3 y4 z0 z1 z2 z3 s2
        have hlen := HFI.out.len
        have a1 : w3.cell? ⟨wr.heap.size, 1, none⟩ = some (.int .i64 xs) := HXA.out.cell 1
        have a3 : w3.cell? ⟨wr.heap.size, 3, none⟩ = some (.bool xt) := HXA.out.cell 3
        have f1 : w3.cell? ⟨wr.heap.size + 1, 1, none⟩ = some (.int .i64 f.p) := by rw [← HFI.out.hp]; exact HXF.out.cell 1
        have f2 : w3.cell? ⟨wr.heap.size + 1, 2, none⟩ = some (.int .i64 f.h) := by rw [← HFI.out.hh]; exact HXF.out.cell 2
        have f4 : w3.cell? ⟨wr.heap.size + 1, 4, none⟩ = some (.slice y.A f.ins.length y.cap) := by rw [← hlen]; exact HXF.out.cell 4
        obtain ⟨tb, htb⟩ : ∃ tb, topF f = tb := ⟨_, rfl⟩
        have HTB := Lib.hid (htb.symm.trans (topF_eq f))
        rw [htb] at HAD
        have HIR := Lib.hid (HFI.out.row.below (HBFF.out.mono hB))
        clear htb hlen
        go_cut [6] from 56 to 67 (fun v wx => v = .bool tb ∧ w3 = wx)
        case first =>
          by_cases hp : 0 < f.ins.length
          · obtain ⟨b3, o3, hA, _, g0, _⟩ := HIR.out.ins hp inc0
            rw [hA] at f4
            rw [Nat.zero_mul, Nat.add_zero] at g0
            have hp1 : (0 : Int) < (f.ins.length : Int) := by omega
            have HTB2 : Hid (tb = ((f.ins.getD 0 inc0).op == 16)) := by show _ = _; rw [HTB.out, decide_eq_true hp, Bool.true_and]
            generalize (f.ins.getD 0 inc0).op = x0 at *
            clear HTB
            go_wp2_with fail
            go_meet
            exact ⟨by rw [HTB2.out], rfl⟩
          · have hp1 : ¬ (0 : Int) < (f.ins.length : Int) := by omega
            have HTB2 : Hid (tb = false) := by show _ = _; rw [HTB.out, decide_eq_false hp, Bool.false_and]
            clear HTB
            go_wp2_with fail
            go_meet
            exact ⟨by rw [HTB2.out], rfl⟩
        case rest =>
        obtain ⟨rfl, rfl⟩ := hcut
        obtain ⟨bad, hbad⟩ : ∃ bad, (!(decide (0 ≤ xs) && decide (f.p = xs) && decide (f.h = 0) && (!xt || tb))) = bad := ⟨_, rfl⟩
        have HBD := Lib.hid hbad
        have HAG : Hid (acF P ⟨xn, xs, (k2 : Int), xt⟩ = !bad) := by show _ = _; rw [← HBD.out, HAD.out, Bool.not_not]
        clear hbad HAD HTB HIR
        go_upto_region 10 with fail
        go_cut [90] from 68 to 90 (fun v wx => v = .bool bad ∧ w3 = wx)
        case first =>
          by_cases m0 : xs < 0
          · have e0 : decide (xs < 0) = true := decide_eq_true m0
            obtain rfl : bad = true := by rw [← HBD.out, decide_eq_false (show ¬ 0 ≤ xs by omega)]; rfl
            clear HBD HAG
            go_wp2_with fail
            go_meet
            exact ⟨rfl, rfl⟩
          have e0 : decide (xs < 0) = false := decide_eq_false m0
          rw [decide_eq_true (show 0 ≤ xs by omega), Bool.true_and] at HBD
          by_cases m1 : f.p = xs
          case neg =>
            have e1 : (xs != f.p) = true := by simp; exact fun e => m1 e.symm
            obtain rfl : bad = true := by rw [← HBD.out, decide_eq_false m1]; rfl
            clear HBD HAG
            go_wp2_with fail
            go_meet
            exact ⟨rfl, rfl⟩
          have e1 : (xs != f.p) = false := by simp [m1]
          rw [decide_eq_true m1, Bool.true_and] at HBD
          by_cases m2 : f.h = 0
          case neg =>
            have e2 : (f.h != 0) = true := by simpa using m2
            obtain rfl : bad = true := by rw [← HBD.out, decide_eq_false m2]; rfl
            clear HBD HAG
            go_wp2_with fail
            go_meet
            exact ⟨rfl, rfl⟩
          have e2 : (f.h != 0) = false := by simp [m2]
          rw [decide_eq_true m2, Bool.true_and] at HBD
          clear m0 m1 m2
          cases xt with
          | false =>
            obtain rfl : bad = false := by rw [← HBD.out]; rfl
            clear HBD HAG
            go_wp2_with fail
            go_meet
            exact ⟨rfl, rfl⟩
          | true =>
            obtain rfl : bad = !tb := by rw [← HBD.out]; simp
            clear HBD HAG
            go_wp2_with fail
            go_meet
            exact ⟨rfl, rfl⟩
        case rest =>
        obtain ⟨rfl, rfl⟩ := hcut
        cases bad with
        | true =>
          have HAF : Hid (P.acs.all (acF P) = false) := by show _ = _; rw [← HAL.out, HD.out, HAG.out]; rfl
          have HRV : Hid (r = 3) := by show _ = _; rw [← HR.out, if_pos HAF.out]
          clear HR HD HAL HAF HAG HBD
          go_wp2_with fail
          go_ret
          exact ⟨by rw [HRV.out]; rfl, HBFF.out⟩
        | false =>
          have HAL2 : Hid ((P.acs.drop (k + 1)).all (acF P) = P.acs.all (acF P)) := by show _ = _; rw [← HAL.out, HD.out, HAG.out]; rfl
          clear HR HD HAL HAG HBD
          go_wp2_with fail
          go_roundg (P.acs.length - (k + 1))
          case measure => have := HK.out; omega
          case rel => exact ⟨k + 1, rfl, by omega, by go_num, HAL2.out, HBF.out⟩

    · obtain rfl : k = P.acs.length := by omega
      have hln : ¬ (P.acs.length : Int) < (P.acs.length : Int) := by omega
      rw [← HAL.out, all_end, if_neg (by simp)] at HR
      clear HAL HK hlt hk
      obtain ⟨wa, hwa⟩ : ∃ wa, wa = wr := ⟨_, rfl⟩
      subst hwa
      have HB1 := HBW
      clear HBW HBB HACS
      have cc4 : wa.cell? ⟨w.heap.size, 4, none⟩ = some (.slice A4 P.ims.length c4) := (HXC.out.below HB1.out HXC.out.lt).cell 4
      go_wp2_with fail
      go_loopg [95] P.ims.length (fun gk i wr => ∃ k : Nat, gk = P.ims.length - k ∧ k ≤ P.ims.length ∧ i = .int .i64 k ∧ (P.ims.drop k).all (imF P) = P.ims.all (imF P) ∧ Below w1.heap.size w1 wr)
      case atStart => exact ⟨0, by omega, by omega, rfl, rfl, HB1.out⟩
      case round =>
        obtain ⟨k, hgk, hk, rfl, hall, hbw⟩ := hrel
        have HK := Lib.hid hgk
        have HAL := Lib.hid hall
        have HBW := Lib.hid hbw
        have HBB := Lib.hid (HB.out.trans (hbw.mono HB.out.size))
        clear hgk hall hbw
        by_cases hlt : k < P.ims.length
        · obtain ⟨b1, o1, rfl, _, z0, z1, z2⟩ := (HIMS.out.below (HBB.out.mono hB)).ip hlt ipc0
          have HD := Lib.hid (all_drop (imF P) P.ims ipc0 hlt)
          have hkl : (k : Int) < (P.ims.length : Int) := by omega
          generalize P.ims.getD k ipc0 = x at *
          obtain ⟨xn, xt, xf⟩ := x
          dsimp only at z0 z1 z2
          have HWQ := Lib.hid (fun w' => within_any xf P.fns.length w')
          have hba : Below wr.heap.size wr (wr.alloc (.cells #[.string xn, .string xt, .int .i64 xf] 47)) := (Below.refl _ _).alloc (Nat.le_refl _) _
          have HBA := Lib.hid (HBW.out.trans (hba.mono HBW.out.size))
          have HBAA := Lib.hid (HBB.out.trans (hba.mono HBB.out.size))
          clear hba
          cases hin : inB xf P.fns.length with
          | false =>
            rw [hin] at HWQ
            have HAF : Hid (P.ims.all (imF P) = false) := by show _ = _; rw [← HAL.out, HD.out]; simp [imF, hin]
            have HRV : Hid (r = 3) := by show _ = _; rw [← HR.out, if_pos HAF.out]
            clear HR HD HAL HAF
            have s2 : (wr.alloc (.cells #[.string xn, .string xt, .int .i64 xf] 47)).cell? ⟨w.heap.size, 2, none⟩ = some (.slice A2 P.fns.length c2) := (HXC.out.below HBA.out HXC.out.lt).cell 2
            go_wp2_with fail
            refine (HWQ.out _).mono ?_
            rintro e w9 ⟨rfl, rfl⟩
            go_wp2_with fail
            go_ret
            exact ⟨by rw [HRV.out]; rfl, HBAA.out⟩
          | true =>
            rw [hin] at HWQ
            obtain ⟨hi0, hi1⟩ := inB_spec hin
            obtain ⟨k2, rfl⟩ : ∃ k2 : Nat, xf = (k2 : Int) := ⟨xf.toNat, by omega⟩
            have hk2 : k2 < P.fns.length := by omega
            have hk2l : k2 < fl.length := by rw [HLN.out]; exact hk2
            obtain ⟨b2, o2, rfl, _, y0, y1, y2, y3, y4⟩ := (HFL.out.below (HBAA.out.mono hB)).fc hk2l fcc0
            have hf := HFN.out k2 hk2l
            have HTO : Hid (((k2 : Int)).toNat = k2) := Int.toNat_natCast k2
            have HAD : Hid (imF P ⟨xn, xt, (k2 : Int)⟩ = decide ((P.fns.getD k2 fnp0).h = 0)) := by
              show _ = _
              unfold imF
              dsimp only
              rw [hin, HTO.out, Bool.true_and]
            rw [hf.hh] at y2
            generalize (P.fns.getD k2 fnp0).h = fh at *
            clear hf y0 y1 y3 y4
            have s2 : (wr.alloc (.cells #[.string xn, .string xt, .int .i64 (k2 : Int)] 47)).cell? ⟨w.heap.size, 2, none⟩ = some (.slice (some ⟨b2, o2, none⟩) P.fns.length c2) := (HXC.out.below HBA.out HXC.out.lt).cell 2
            by_cases m : fh = 0
            · have e1 : (fh != 0) = false := by simp [m]
              have HAL2 : Hid ((P.ims.drop (k + 1)).all (imF P) = P.ims.all (imF P)) := by show _ = _; rw [← HAL.out, HD.out, HAD.out, decide_eq_true m, Bool.true_and]
              clear HR HD HAL HAD m
              go_wp2_with fail
              refine (HWQ.out _).mono ?_
              rintro e w9 ⟨rfl, rfl⟩
              go_wp2_with fail
              go_roundg (P.ims.length - (k + 1))
              case measure => have := HK.out; omega
              case rel => exact ⟨k + 1, rfl, by omega, by go_num, HAL2.out, HBA.out⟩
            · have e1 : (fh != 0) = true := by simpa using m
              have HAF : Hid (P.ims.all (imF P) = false) := by show _ = _; rw [← HAL.out, HD.out, HAD.out, decide_eq_false m, Bool.false_and]
              have HRV : Hid (r = 3) := by show _ = _; rw [← HR.out, if_pos HAF.out]
              clear HR HD HAL HAF HAD m
              go_wp2_with fail
              refine (HWQ.out _).mono ?_
              rintro e w9 ⟨rfl, rfl⟩
              go_wp2_with fail
              go_ret
              exact ⟨by rw [HRV.out]; rfl, HBAA.out⟩
        · obtain rfl : k = P.ims.length := by omega
          have hln : ¬ (P.ims.length : Int) < (P.ims.length : Int) := by omega
          rw [← HAL.out, all_end, if_neg (by simp)] at HR
          clear HAL HK hlt hk
          obtain ⟨wb, hwb⟩ : ∃ wb, wb = wr := ⟨_, rfl⟩
          subst hwb
          have HB2 := HBW
          clear HBW HBB HIMS HB1 cc4
          have cc5 : wb.cell? ⟨w.heap.size, 5, none⟩ = some (.slice A5 P.mks.length c5) := (HXC.out.below HB2.out HXC.out.lt).cell 5
          go_wp2_with fail
          go_loopg [120] P.mks.length (fun gk i wr => ∃ k : Nat, gk = P.mks.length - k ∧ k ≤ P.mks.length ∧ i = .int .i64 k ∧ (P.mks.drop k).all (fun m => decide (0 ≤ m.args)) = P.mks.all (fun m => decide (0 ≤ m.args)) ∧ Below w1.heap.size w1 wr)
          case atStart => exact ⟨0, by omega, by omega, rfl, rfl, HB2.out⟩
          case round =>
            obtain ⟨k, hgk, hk, rfl, hall, hbw⟩ := hrel
            have HK := Lib.hid hgk
            have HAL := Lib.hid hall
            have HBW := Lib.hid hbw
            have HBB := Lib.hid (HB.out.trans (hbw.mono HB.out.size))
            clear hgk hall hbw
            by_cases hlt : k < P.mks.length
            · obtain ⟨b1, o1, rfl, _, z0, z1, z2⟩ := (HMKS.out.below (HBB.out.mono hB)).mk hlt mkc0
              have HD := Lib.hid (all_drop (fun m : MkC => decide (0 ≤ m.args)) P.mks mkc0 hlt)
              have hkl : (k : Int) < (P.mks.length : Int) := by omega
              generalize P.mks.getD k mkc0 = x at *
              obtain ⟨xn, xd, xa⟩ := x
              dsimp only at z0 z1 z2 HD
              have hba : Below wr.heap.size wr (wr.alloc (.cells #[.string xn, .string xd, .int .i64 xa] 49)) := (Below.refl _ _).alloc (Nat.le_refl _) _
              have HBA := Lib.hid (HBW.out.trans (hba.mono HBW.out.size))
              have HBAA := Lib.hid (HBB.out.trans (hba.mono HBB.out.size))
              clear hba
              by_cases m : xa < 0
              · have e1 : decide (xa < 0) = true := decide_eq_true m
                have HAF : Hid (P.mks.all (fun m => decide (0 ≤ m.args)) = false) := by show _ = _; rw [← HAL.out, HD.out, decide_eq_false (show ¬ 0 ≤ xa by omega), Bool.false_and]
                have HRV : Hid (r = 3) := by show _ = _; rw [← HR.out, if_pos HAF.out]
                clear HR HD HAL HAF
                go_wp2_with fail
                go_ret
                exact ⟨by rw [HRV.out]; rfl, HBAA.out⟩
              · have e1 : decide (xa < 0) = false := decide_eq_false m
                have HAL2 : Hid ((P.mks.drop (k + 1)).all (fun m => decide (0 ≤ m.args)) = P.mks.all (fun m => decide (0 ≤ m.args))) := by show _ = _; rw [← HAL.out, HD.out, decide_eq_true (show 0 ≤ xa by omega), Bool.true_and]
                clear HR HD HAL
                go_wp2_with fail
                go_roundg (P.mks.length - (k + 1))
                case measure => have := HK.out; omega
                case rel => exact ⟨k + 1, rfl, by omega, by go_num, HAL2.out, HBA.out⟩
            · obtain rfl : k = P.mks.length := by omega
              have hln : ¬ (P.mks.length : Int) < (P.mks.length : Int) := by omega
              rw [← HAL.out, all_end, if_neg (by simp)] at HR
              clear HAL HK hlt hk
              obtain ⟨wd, hwd⟩ : ∃ wd, wd = wr := ⟨_, rfl⟩
              subst hwd
              have HB3 := HBW
              clear HBW HBB HMKS HB2 cc5
              have cc2 : wd.cell? ⟨w.heap.size, 2, none⟩ = some (.slice A2 P.fns.length c2) := (HXC.out.below HB3.out HXC.out.lt).cell 2
              go_wp2_with fail
              go_loopg [131] P.fns.length (fun gk i wr => ∃ k : Nat, gk = P.fns.length - k ∧ k ≤ P.fns.length ∧ i = .int .i64 k ∧ funsF P (P.fns.drop k) = funsF P P.fns ∧ Below w1.heap.size w1 wr)
              case atStart => exact ⟨0, by omega, by omega, rfl, rfl, HB3.out⟩
              case round =>
                obtain ⟨k, hgk, hk, rfl, hall, hbw⟩ := hrel
                have HK := Lib.hid hgk
                have HAL := Lib.hid hall
                have HBW := Lib.hid hbw
                have HBB := Lib.hid (HB.out.trans (hbw.mono HB.out.size))
                clear hgk hall hbw cc2
                by_cases hlt : k < P.fns.length
                · have hkl2 : k < fl.length := by rw [HLN.out]; exact hlt
                  obtain ⟨b1, o1, rfl, _, z0, z1, z2, z3, z4⟩ := (HFL.out.below (HBB.out.mono hB)).fc hkl2 fcc0
                  have HFI := Lib.hid (HFN.out k hkl2)
                  have HD := Lib.hid (funsF_drop P P.fns hlt)
                  have hkl : (k : Int) < (P.fns.length : Int) := by omega
                  generalize fl.getD k fcc0 = y at *
                  generalize P.fns.getD k fnp0 = f at *
                  have hba : Below wr.heap.size wr (wr.alloc (.cells #[.string y.name, .int .i64 y.p, .int .i64 y.h, .int .i64 y.r, .slice y.A y.len y.cap] 36)) := (Below.refl _ _).alloc (Nat.le_refl _) _
                  have HBA := Lib.hid (HBW.out.trans (hba.mono HBW.out.size))
                  have HBAA := Lib.hid (HBB.out.trans (hba.mono HBB.out.size))
                  have HCC := Lib.hid (HCF.out y f _ HBAA.out HFI.out)
                  obtain ⟨fr, hfr⟩ : ∃ fr, funF P f = fr := ⟨_, rfl⟩
                  rw [hfr] at HCC HD
                  clear hba hfr
                  have s0 : (wr.alloc (.cells #[.string y.name, .int .i64 y.p, .int .i64 y.h, .int .i64 y.r, .slice y.A y.len y.cap] 36)).cell? ⟨w.heap.size, 0, none⟩ = some (.slice q0.A P.nT q0.cap) := (HXC.out.below HBA.out HXC.out.lt).cell 0
                  have s1 : (wr.alloc (.cells #[.string y.name, .int .i64 y.p, .int .i64 y.h, .int .i64 y.r, .slice y.A y.len y.cap] 36)).cell? ⟨w.heap.size, 1, none⟩ = some (.slice q1.A P.nN q1.cap) := (HXC.out.below HBA.out HXC.out.lt).cell 1
                  have s2 : (wr.alloc (.cells #[.string y.name, .int .i64 y.p, .int .i64 y.h, .int .i64 y.r, .slice y.A y.len y.cap] 36)).cell? ⟨w.heap.size, 2, none⟩ = some (.slice (some ⟨b1, o1, none⟩) P.fns.length c2) := (HXC.out.below HBA.out HXC.out.lt).cell 2
                  have s3 : (wr.alloc (.cells #[.string y.name, .int .i64 y.p, .int .i64 y.h, .int .i64 y.r, .slice y.A y.len y.cap] 36)).cell? ⟨w.heap.size, 3, none⟩ = some (.slice A3 P.acs.length c3) := (HXC.out.below HBA.out HXC.out.lt).cell 3
                  have s4 : (wr.alloc (.cells #[.string y.name, .int .i64 y.p, .int .i64 y.h, .int .i64 y.r, .slice y.A y.len y.cap] 36)).cell? ⟨w.heap.size, 4, none⟩ = some (.slice A4 P.ims.length c4) := (HXC.out.below HBA.out HXC.out.lt).cell 4
                  have s5 : (wr.alloc (.cells #[.string y.name, .int .i64 y.p, .int .i64 y.h, .int .i64 y.r, .slice y.A y.len y.cap] 36)).cell? ⟨w.heap.size, 5, none⟩ = some (.slice A5 P.mks.length c5) := (HXC.out.below HBA.out HXC.out.lt).cell 5
                  have s6 : (wr.alloc (.cells #[.string y.name, .int .i64 y.p, .int .i64 y.h, .int .i64 y.r, .slice y.A y.len y.cap] 36)).cell? ⟨w.heap.size, 6, none⟩ = some (.slice A6 P.pats.length c6) := (HXC.out.below HBA.out HXC.out.lt).cell 6
                  go_wp2_with fail
                  refine HCC.out.mono ?_
                  rintro e w9 ⟨rfl, hb9⟩
                  have HB9 := Lib.hid (HBA.out.trans (hb9.mono HBA.out.size))
                  have HB9w := Lib.hid (HBAA.out.trans (hb9.mono HBAA.out.size))
                  clear hb9
                  by_cases m : fr = 0
                  · have e1 : (fr != 0) = false := by simp [m]
                    have HAL2 : Hid (funsF P (P.fns.drop (k + 1)) = funsF P P.fns) := by show _ = _; rw [← HAL.out, HD.out, if_pos m]
                    clear HR HD HAL m
                    go_wp2_with fail
                    go_roundg (P.fns.length - (k + 1))
                    case measure => have := HK.out; omega
                    case rel => exact ⟨k + 1, rfl, by omega, by go_num, HAL2.out, HB9.out⟩
                  · have e1 : (fr != 0) = true := by simpa using m
                    have HRV : Hid (r = fr) := by show _ = _; rw [← HR.out, ← HAL.out, HD.out, if_neg m]
                    clear HR HD HAL m
                    go_wp2_with fail
                    go_ret
                    exact ⟨by rw [HRV.out]; rfl, HB9w.out⟩
                · obtain rfl : k = P.fns.length := by omega
                  have hln : ¬ (P.fns.length : Int) < (P.fns.length : Int) := by omega
                  have HRV : Hid (r = 0) := by show _ = _; rw [← HR.out, ← HAL.out, List.drop_length]; rfl
                  clear HAL HK HR
                  go_wp2_with fail
                  go_ret
                  exact ⟨by rw [HRV.out]; rfl, HBB.out⟩
end Go.Proofs.Ythglcnodoophaaa
