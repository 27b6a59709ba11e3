
/-
  The reference's Fault.
-/
import Derived.Test.YthglcnodoophaaaCk6
import Derived.Test.YthglcnodoophaaaCk7a
import Derived.Test.YthglcnodoophaaaCk7b
namespace Go.Proofs.Ythglcnodoophaaa
open Go.RowKit

theorem right_any (B n : Nat) (v : CkV) (P : CkP) (y : FcC) (x : InC) (t : Int) (w : World) (h : CkIn w B n v P) (hok : InOk w B x) (ht0 : 0 ≤ t) (ht1 : t ≤ 1099511627776) :
    Calls Try.prog 11 #[.agg (ckC v P), fcV y, inV x, .int .i64 t] w fun e w' => e = .returned (.bool (validF P y.len y.r x t)) ∧ Below w.heap.size w w' := by
  by_cases h11 : x.op = 11
  · exact rightB_any B n v P y x t w h hok ht0 ht1 (.inl h11)
  by_cases h16 : x.op = 16
  · exact rightB_any B n v P y x t w h hok ht0 ht1 (.inr h16)
  exact rightA_any B n v P y x t w h hok ht0 ht1 ⟨h11, h16⟩
set_option maxRecDepth 100000 in
set_option maxHeartbeats 4000000 in
theorem fault_any (B n : Nat) (v : CkV) (P : CkP) (w : World) (h : CkIn w B n v P) (hB : B ≤ w.heap.size) :
    Calls Try.prog 6 #[.agg (ckC v P)] w fun e w' => e = .returned (.int .i64 (faultF P)) ∧ Below w.heap.size w w' := by
  obtain ⟨r, hr⟩ : ∃ r, faultF P = r := ⟨_, rfl⟩
  rw [hr]
  unfold faultF at hr
  have HVD := Lib.hid (fun (y : FcC) (x : InC) (t : Int) (w1 : World) (hb : Below w.heap.size w w1) (hok : InOk w1 B x) (ht0 : 0 ≤ t) (ht1 : t ≤ 1099511627776) => right_any B n v P y x t w1 (h.below (hb.mono hB)) hok ht0 ht1)
  obtain ⟨s0, s1, s2, s3, s4, s5, s6⟩ := h.small
  obtain ⟨fl, hfl1, hfl2, hfl3⟩ := h.fns
  have HACS := Lib.hid h.acs
  have HIMS := Lib.hid h.ims
  have HMKS := Lib.hid h.mks
  have HFL := Lib.hid hfl2
  have HFN := Lib.hid hfl3
  have HLN := Lib.hid hfl1
  obtain ⟨q0, q1, A2, c2, A3, c3, A4, c4, A5, c5, A6, c6⟩ := v
  unfold ckC fcV inV at HVD
  unfold ckC
  dsimp only at HVD HACS HIMS HMKS HFL HFN HLN ⊢
  clear h hfl1 hfl2 hfl3
  have hb : Below w.heap.size w (w.alloc (.cells #[.slice q0.A P.nT q0.cap, .slice q1.A P.nN q1.cap, .slice A2 P.fns.length c2, .slice A3 P.acs.length c3, .slice A4 P.ims.length c4, .slice A5 P.mks.length c5, .slice A6 P.pats.length c6] 30)) := (Below.refl _ _).alloc (Nat.le_refl _) _
  have HXC := Lib.hid (Box.new w 30 #[.slice q0.A P.nT q0.cap, .slice q1.A P.nN q1.cap, .slice A2 P.fns.length c2, .slice A3 P.acs.length c3, .slice A4 P.ims.length c4, .slice A5 P.mks.length c5, .slice A6 P.pats.length c6])
  have HR := Lib.hid hr
  have HB := Lib.hid hb
  clear hr hb
  go_enter Try.func6, Try.ntmps6
  go_upto_region 1 with fail
  generalize w.alloc (.cells #[.slice q0.A P.nT q0.cap, .slice q1.A P.nN q1.cap, .slice A2 P.fns.length c2, .slice A3 P.acs.length c3, .slice A4 P.ims.length c4, .slice A5 P.mks.length c5, .slice A6 P.pats.length c6] 30) = w1 at *
  have cc0 : w1.cell? ⟨w.heap.size, 0, none⟩ = some (.slice q0.A P.nT q0.cap) := HXC.out.cell 0
  have cc1 : w1.cell? ⟨w.heap.size, 1, none⟩ = some (.slice q1.A P.nN q1.cap) := HXC.out.cell 1
  have cc2 : w1.cell? ⟨w.heap.size, 2, none⟩ = some (.slice A2 P.fns.length c2) := HXC.out.cell 2
  have cc3 : w1.cell? ⟨w.heap.size, 3, none⟩ = some (.slice A3 P.acs.length c3) := HXC.out.cell 3
  have cc4 : w1.cell? ⟨w.heap.size, 4, none⟩ = some (.slice A4 P.ims.length c4) := HXC.out.cell 4
  have cc5 : w1.cell? ⟨w.heap.size, 5, none⟩ = some (.slice A5 P.mks.length c5) := HXC.out.cell 5
  have cc6 : w1.cell? ⟨w.heap.size, 6, none⟩ = some (.slice A6 P.pats.length c6) := HXC.out.cell 6
  by_cases l0 : 1000 < P.fns.length
  · have d0 : (1000 : Int) < (P.fns.length : Int) := by omega
    have HRV : Hid (r = 2) := by show _ = _; rw [← HR.out, if_pos (.inl l0)]
    clear HR
    go_wp2_with fail
    go_ret
    exact ⟨by rw [HRV.out]; rfl, HB.out⟩
  have d0 : ¬ (1000 : Int) < (P.fns.length : Int) := by omega
  by_cases l1 : 4000 < P.nT
  · have d1 : (4000 : Int) < (P.nT : Int) := by omega
    have HRV : Hid (r = 2) := by show _ = _; rw [← HR.out, if_pos (.inr (.inl l1))]
    clear HR
    go_wp2_with fail
    go_ret
    exact ⟨by rw [HRV.out]; rfl, HB.out⟩
  have d1 : ¬ (4000 : Int) < (P.nT : Int) := by omega
  by_cases l2 : 4000 < P.nN
  · have d2 : (4000 : Int) < (P.nN : Int) := by omega
    have HRV : Hid (r = 2) := by show _ = _; rw [← HR.out, if_pos (.inr (.inr (.inl l2)))]
    clear HR
    go_wp2_with fail
    go_ret
    exact ⟨by rw [HRV.out]; rfl, HB.out⟩
  have d2 : ¬ (4000 : Int) < (P.nN : Int) := by omega
  by_cases l3 : 2000 < P.pats.length
  · have d3 : (2000 : Int) < (P.pats.length : Int) := by omega
    have HRV : Hid (r = 2) := by show _ = _; rw [← HR.out, if_pos (.inr (.inr (.inr l3)))]
    clear HR
    go_wp2_with fail
    go_ret
    exact ⟨by rw [HRV.out]; rfl, HB.out⟩
  have d3 : ¬ (2000 : Int) < (P.pats.length : Int) := by omega
  rw [if_neg (fun h => h.elim l0 fun h => h.elim l1 fun h => h.elim l2 l3)] at HR
  clear l0 l1 l2 l3
  go_wp2_with fail
  clear cc0 cc1 cc6
  clear d0 d1 d2 d3 cc2 cc3 cc4 cc5
  go_loopg [39] P.acs.length (fun gk i wr => ∃ k : Nat, gk = P.acs.length - k ∧ k ≤ P.acs.length ∧ i = .int .i64 k ∧ (P.acs.drop k).all (acF P) = P.acs.all (acF P) ∧ Below w1.heap.size w1 wr)
  case atStart => exact ⟨0, by omega, by omega, rfl, rfl, Below.refl _ _⟩
  case round =>
    obtain ⟨k, hgk, hk, rfl, hall, hbw⟩ := hrel
    have HK := Lib.hid hgk
    have HAL := Lib.hid hall
    have HBW := Lib.hid hbw
    have HBB := Lib.hid (HB.out.trans (hbw.mono HB.out.size))
    clear hgk hall hbw
    by_cases hlt : k < P.acs.length
    · obtain ⟨b1, o1, rfl, _, z0, z1, z2, z3⟩ := (HACS.out.below (HBB.out.mono hB)).ac hlt acc0
      have HD := Lib.hid (all_drop (acF P) P.acs acc0 hlt)
      have hkl : (k : Int) < (P.acs.length : Int) := by omega
      generalize P.acs.getD k acc0 = x at *
      obtain ⟨xn, xs, xf, xt⟩ := x
      dsimp only at z0 z1 z2 z3
      have HWQ := Lib.hid (fun w' => rin_any xf P.fns.length w')
      have hba : Below wr.heap.size wr (wr.alloc (.cells #[.string xn, .int .i64 xs, .int .i64 xf, .bool xt] 44)) := (Below.refl _ _).alloc (Nat.le_refl _) _
      have HBA := Lib.hid (HBW.out.trans (hba.mono HBW.out.size))
      have HBAA := Lib.hid (HBB.out.trans (hba.mono HBB.out.size))
      clear hba
      have s2 : (wr.alloc (.cells #[.string xn, .int .i64 xs, .int .i64 xf, .bool xt] 44)).cell? ⟨w.heap.size, 2, none⟩ = some (.slice A2 P.fns.length c2) := (HXC.out.below HBA.out HXC.out.lt).cell 2
      cases hin : inB xf P.fns.length with
      | false =>
        rw [hin] at HWQ
        have HAF : Hid (P.acs.all (acF P) = false) := by show _ = _; rw [← HAL.out, HD.out]; simp [acF, hin]
        have HRV : Hid (r = 3) := by show _ = _; rw [← HR.out, if_pos HAF.out]
        clear HR HD HAL HAF
        go_wp2_with fail
        refine (HWQ.out _).mono ?_
        rintro e w9 ⟨rfl, rfl⟩
        go_wp2_with fail
        go_ret
        exact ⟨by rw [HRV.out]; rfl, HBAA.out⟩
      | true =>
        rw [hin] at HWQ
        obtain ⟨hi0, hi1⟩ := inB_spec hin
        obtain ⟨k2, rfl⟩ : ∃ k2 : Nat, xf = (k2 : Int) := ⟨xf.toNat, by omega⟩
        have hk2 : k2 < P.fns.length := by omega
        have hk2l : k2 < fl.length := by rw [HLN.out]; exact hk2
        obtain ⟨b2, o2, rfl, _, y0, y1, y2, y3, y4⟩ := (HFL.out.below (HBAA.out.mono hB)).fc hk2l fcc0
        have HFI := Lib.hid (HFN.out k2 hk2l)
        have HTO : Hid (((k2 : Int)).toNat = k2) := Int.toNat_natCast k2
        have HAD : Hid (acF P ⟨xn, xs, (k2 : Int), xt⟩ = (decide (0 ≤ xs) && decide ((P.fns.getD k2 fnp0).p = xs) && decide ((P.fns.getD k2 fnp0).h = 0) && (!xt || topF (P.fns.getD k2 fnp0)))) := by
          show _ = _
          unfold acF
          dsimp only
          rw [hin, HTO.out, Bool.true_and]
        generalize fl.getD k2 fcc0 = y at *
        generalize P.fns.getD k2 fnp0 = f at *
        have hbf : Below (wr.alloc (.cells #[.string xn, .int .i64 xs, .int .i64 (k2 : Int), .bool xt] 44)).heap.size (wr.alloc (.cells #[.string xn, .int .i64 xs, .int .i64 (k2 : Int), .bool xt] 44)) ((wr.alloc (.cells #[.string xn, .int .i64 xs, .int .i64 (k2 : Int), .bool xt] 44)).alloc (.cells #[.string y.name, .int .i64 y.p, .int .i64 y.h, .int .i64 y.r, .slice y.A y.len y.cap] 36)) := (Below.refl _ _).alloc (Nat.le_refl _) _
        have HBF := Lib.hid (HBA.out.trans (hbf.mono HBA.out.size))
        have HBFF := Lib.hid (HBAA.out.trans (hbf.mono HBAA.out.size))
        have HXA := Lib.hid (((Box.new wr 44 #[.string xn, .int .i64 xs, .int .i64 (k2 : Int), .bool xt]).alloc (.cells #[.string y.name, .int .i64 y.p, .int .i64 y.h, .int .i64 y.r, .slice y.A y.len y.cap] 36)))
        have hxf := Box.new (wr.alloc (.cells #[.string xn, .int .i64 xs, .int .i64 (k2 : Int), .bool xt] 44)) 36 #[.string y.name, .int .i64 y.p, .int .i64 y.h, .int .i64 y.r, .slice y.A y.len y.cap]
        rw [show (wr.alloc (.cells #[.string xn, .int .i64 xs, .int .i64 (k2 : Int), .bool xt] 44)).heap.size = wr.heap.size + 1 by simp] at hxf
        have HXF := Lib.hid hxf
        clear hbf hxf
        by_cases m0 : xs < 0
        · have e0 : decide (xs < 0) = true := decide_eq_true m0
          have HAF : Hid (P.acs.all (acF P) = false) := by show _ = _; rw [← HAL.out, HD.out, HAD.out, decide_eq_false (show ¬ 0 ≤ xs by omega)]; rfl
          have HRV : Hid (r = 3) := by show _ = _; rw [← HR.out, if_pos HAF.out]
          clear HR HD HAL HAF HAD
          go_wp2_with fail
          refine (HWQ.out _).mono ?_
          rintro e w9 ⟨rfl, rfl⟩
          go_wp2_with fail
          go_ret
          exact ⟨by rw [HRV.out]; rfl, HBAA.out⟩
        have e0 : decide (xs < 0) = false := decide_eq_false m0
        rw [decide_eq_true (show 0 ≤ xs by omega), Bool.true_and] at HAD
        clear m0
        go_wp2_with fail
        refine (HWQ.out _).mono ?_
        rintro e w9 ⟨rfl, rfl⟩
        go_upto_region 9 with fail
        generalize ((wr.alloc (.cells #[.string xn, .int .i64 xs, .int .i64 (k2 : Int), .bool xt] 44)).alloc (.cells #[.string y.name, .int .i64 y.p, .int .i64 y.h, .int .i64 y.r, .slice y.A y.len y.cap] 36)) = w3 at *
        clear y0 y1 y2 y3 y4 z0 z1 z2 z3 s2
        have hlen := HFI.out.len
        have a1 : w3.cell? ⟨wr.heap.size, 1, none⟩ = some (.int .i64 xs) := HXA.out.cell 1
        have a3 : w3.cell? ⟨wr.heap.size, 3, none⟩ = some (.bool xt) := HXA.out.cell 3
        have f1 : w3.cell? ⟨wr.heap.size + 1, 1, none⟩ = some (.int .i64 f.p) := by rw [← HFI.out.hp]; exact HXF.out.cell 1
        have f2 : w3.cell? ⟨wr.heap.size + 1, 2, none⟩ = some (.int .i64 f.h) := by rw [← HFI.out.hh]; exact HXF.out.cell 2
        have f4 : w3.cell? ⟨wr.heap.size + 1, 4, none⟩ = some (.slice y.A f.ins.length y.cap) := by rw [← hlen]; exact HXF.out.cell 4
        have HTB := Lib.hid (topF_eq f)
        have HIR := Lib.hid (HFI.out.row.below (HBFF.out.mono hB))
        clear hlen
        obtain ⟨bad, hbad⟩ : ∃ bad, (!(decide (f.p = xs) && decide (f.h = 0) && (!xt || topF f))) = bad := ⟨_, rfl⟩
        have HBD := Lib.hid hbad
        have HAG : Hid (acF P ⟨xn, xs, (k2 : Int), xt⟩ = !bad) := by show _ = _; rw [← HBD.out, HAD.out, Bool.not_not]
        clear hbad HAD
        go_cut [88] from 61 to 88 (fun v wx => v = .bool bad ∧ w3 = wx)
        case first =>
          by_cases m1 : f.p = xs
          case neg =>
            have e1 : (f.p != xs) = true := by simpa using m1
            obtain rfl : bad = true := by rw [← HBD.out, decide_eq_false m1]; rfl
            clear HBD HAG
            go_wp2_with fail
            go_meet
            exact ⟨rfl, rfl⟩
          have e1 : (f.p != xs) = false := by simp [m1]
          rw [decide_eq_true m1, Bool.true_and] at HBD
          by_cases m2 : f.h = 0
          case neg =>
            have e2 : (f.h != 0) = true := by simpa using m2
            obtain rfl : bad = true := by rw [← HBD.out, decide_eq_false m2]; rfl
            clear HBD HAG m1
            go_wp2_with fail
            go_meet
            exact ⟨rfl, rfl⟩
          have e2 : (f.h != 0) = false := by simp [m2]
          rw [decide_eq_true m2, Bool.true_and] at HBD
          clear m1 m2
          cases xt with
          | false =>
            obtain rfl : bad = false := by rw [← HBD.out]; rfl
            clear HBD HAG
            go_wp2_with fail
            go_meet
            exact ⟨rfl, rfl⟩
          | true =>
            have HBE : Hid (bad = !(topF f)) := by show _ = _; rw [← HBD.out]; simp
            clear HBD
            by_cases hp : 0 < f.ins.length
            · obtain ⟨b3, o3, hA, _, g0, _⟩ := HIR.out.ins hp inc0
              rw [hA] at f4
              clear hA
              rw [Nat.zero_mul, Nat.add_zero] at g0
              have hp1 : (0 : Int) < (f.ins.length : Int) := by omega
              have hp2 : ¬ (f.ins.length : Int) < 1 := by omega
              have hp3 : decide ((f.ins.length : Int) < 1) = false := decide_eq_false hp2
              have HBF2 : Hid (bad = ((f.ins.getD 0 inc0).op != 16)) := by show _ = _; rw [HBE.out, HTB.out, decide_eq_true hp, Bool.true_and]; rfl
              generalize (f.ins.getD 0 inc0).op = x0 at *
              clear HTB HBE HAG
              go_wp2_with fail
              go_meet
              exact ⟨by rw [HBF2.out], rfl⟩
            · have hp2 : (f.ins.length : Int) < 1 := by omega
              have hp3 : decide ((f.ins.length : Int) < 1) = true := decide_eq_true hp2
              obtain rfl : bad = true := by rw [HBE.out, HTB.out, decide_eq_false hp]; rfl
              clear HTB HBE HAG
              go_wp2_with fail
              go_meet
              exact ⟨rfl, rfl⟩
        case rest =>
        obtain ⟨rfl, rfl⟩ := hcut
        cases bad with
        | true =>
          have HAF : Hid (P.acs.all (acF P) = false) := by show _ = _; rw [← HAL.out, HD.out, HAG.out]; rfl
          have HRV : Hid (r = 3) := by show _ = _; rw [← HR.out, if_pos HAF.out]
          clear HR HD HAL HAF HAG HBD
          go_wp2_with fail
          go_ret
          exact ⟨by rw [HRV.out]; rfl, HBFF.out⟩
        | false =>
          have HAL2 : Hid ((P.acs.drop (k + 1)).all (acF P) = P.acs.all (acF P)) := by show _ = _; rw [← HAL.out, HD.out, HAG.out]; rfl
          clear HR HD HAL HAG HBD
          go_wp2_with fail
          go_roundg (P.acs.length - (k + 1))
          case measure => have := HK.out; omega
          case rel => exact ⟨k + 1, rfl, by omega, by go_num, HAL2.out, HBF.out⟩

    · obtain rfl : k = P.acs.length := by omega
      have hln : ¬ (P.acs.length : Int) < (P.acs.length : Int) := by omega
      rw [← HAL.out, all_end, if_neg (by simp)] at HR
      clear HAL HK hlt hk
      obtain ⟨wa, hwa⟩ : ∃ wa, wa = wr := ⟨_, rfl⟩
      subst hwa
      have HB1 := HBW
      clear HBW HBB HACS
      have cc4 : wa.cell? ⟨w.heap.size, 4, none⟩ = some (.slice A4 P.ims.length c4) := (HXC.out.below HB1.out HXC.out.lt).cell 4
      go_wp2_with fail
      go_loopg [93] P.ims.length (fun gk i wr => ∃ k : Nat, gk = P.ims.length - k ∧ k ≤ P.ims.length ∧ i = .int .i64 k ∧ (P.ims.drop k).all (imF P) = P.ims.all (imF P) ∧ Below w1.heap.size w1 wr)
      case atStart => exact ⟨0, by omega, by omega, rfl, rfl, HB1.out⟩
      case round =>
        obtain ⟨k, hgk, hk, rfl, hall, hbw⟩ := hrel
        have HK := Lib.hid hgk
        have HAL := Lib.hid hall
        have HBW := Lib.hid hbw
        have HBB := Lib.hid (HB.out.trans (hbw.mono HB.out.size))
        clear hgk hall hbw
        by_cases hlt : k < P.ims.length
        · obtain ⟨b1, o1, rfl, _, z0, z1, z2⟩ := (HIMS.out.below (HBB.out.mono hB)).ip hlt ipc0
          have HD := Lib.hid (all_drop (imF P) P.ims ipc0 hlt)
          have hkl : (k : Int) < (P.ims.length : Int) := by omega
          generalize P.ims.getD k ipc0 = x at *
          obtain ⟨xn, xt, xf⟩ := x
          dsimp only at z0 z1 z2
          have HWQ := Lib.hid (fun w' => rin_any xf P.fns.length w')
          have hba : Below wr.heap.size wr (wr.alloc (.cells #[.string xn, .string xt, .int .i64 xf] 47)) := (Below.refl _ _).alloc (Nat.le_refl _) _
          have HBA := Lib.hid (HBW.out.trans (hba.mono HBW.out.size))
          have HBAA := Lib.hid (HBB.out.trans (hba.mono HBB.out.size))
          clear hba
          cases hin : inB xf P.fns.length with
          | false =>
            rw [hin] at HWQ
            have HAF : Hid (P.ims.all (imF P) = false) := by show _ = _; rw [← HAL.out, HD.out]; simp [imF, hin]
            have HRV : Hid (r = 3) := by show _ = _; rw [← HR.out, if_pos HAF.out]
            clear HR HD HAL HAF
            have s2 : (wr.alloc (.cells #[.string xn, .string xt, .int .i64 xf] 47)).cell? ⟨w.heap.size, 2, none⟩ = some (.slice A2 P.fns.length c2) := (HXC.out.below HBA.out HXC.out.lt).cell 2
            go_wp2_with fail
            refine (HWQ.out _).mono ?_
            rintro e w9 ⟨rfl, rfl⟩
            go_wp2_with fail
            go_ret
            exact ⟨by rw [HRV.out]; rfl, HBAA.out⟩
          | true =>
            rw [hin] at HWQ
            obtain ⟨hi0, hi1⟩ := inB_spec hin
            obtain ⟨k2, rfl⟩ : ∃ k2 : Nat, xf = (k2 : Int) := ⟨xf.toNat, by omega⟩
            have hk2 : k2 < P.fns.length := by omega
            have hk2l : k2 < fl.length := by rw [HLN.out]; exact hk2
            obtain ⟨b2, o2, rfl, _, y0, y1, y2, y3, y4⟩ := (HFL.out.below (HBAA.out.mono hB)).fc hk2l fcc0
            have hf := HFN.out k2 hk2l
            have HTO : Hid (((k2 : Int)).toNat = k2) := Int.toNat_natCast k2
            have HAD : Hid (imF P ⟨xn, xt, (k2 : Int)⟩ = decide ((P.fns.getD k2 fnp0).h = 0)) := by
              show _ = _
              unfold imF
              dsimp only
              rw [hin, HTO.out, Bool.true_and]
            rw [hf.hh] at y2
            generalize (P.fns.getD k2 fnp0).h = fh at *
            clear hf y0 y1 y3 y4
            have s2 : (wr.alloc (.cells #[.string xn, .string xt, .int .i64 (k2 : Int)] 47)).cell? ⟨w.heap.size, 2, none⟩ = some (.slice (some ⟨b2, o2, none⟩) P.fns.length c2) := (HXC.out.below HBA.out HXC.out.lt).cell 2
            by_cases m : fh = 0
            · have e1 : (fh != 0) = false := by simp [m]
              have HAL2 : Hid ((P.ims.drop (k + 1)).all (imF P) = P.ims.all (imF P)) := by show _ = _; rw [← HAL.out, HD.out, HAD.out, decide_eq_true m, Bool.true_and]
              clear HR HD HAL HAD m
              go_wp2_with fail
              refine (HWQ.out _).mono ?_
              rintro e w9 ⟨rfl, rfl⟩
              go_wp2_with fail
              go_roundg (P.ims.length - (k + 1))
              case measure => have := HK.out; omega
              case rel => exact ⟨k + 1, rfl, by omega, by go_num, HAL2.out, HBA.out⟩
            · have e1 : (fh != 0) = true := by simpa using m
              have HAF : Hid (P.ims.all (imF P) = false) := by show _ = _; rw [← HAL.out, HD.out, HAD.out, decide_eq_false m, Bool.false_and]
              have HRV : Hid (r = 3) := by show _ = _; rw [← HR.out, if_pos HAF.out]
              clear HR HD HAL HAF HAD m
              go_wp2_with fail
              refine (HWQ.out _).mono ?_
              rintro e w9 ⟨rfl, rfl⟩
              go_wp2_with fail
              go_ret
              exact ⟨by rw [HRV.out]; rfl, HBAA.out⟩
        · obtain rfl : k = P.ims.length := by omega
          have hln : ¬ (P.ims.length : Int) < (P.ims.length : Int) := by omega
          rw [← HAL.out, all_end, if_neg (by simp)] at HR
          clear HAL HK hlt hk
          obtain ⟨wb, hwb⟩ : ∃ wb, wb = wr := ⟨_, rfl⟩
          subst hwb
          have HB2 := HBW
          clear HBW HBB HIMS HB1 cc4
          have cc5 : wb.cell? ⟨w.heap.size, 5, none⟩ = some (.slice A5 P.mks.length c5) := (HXC.out.below HB2.out HXC.out.lt).cell 5
          go_wp2_with fail
          go_loopg [118] P.mks.length (fun gk i wr => ∃ k : Nat, gk = P.mks.length - k ∧ k ≤ P.mks.length ∧ i = .int .i64 k ∧ (P.mks.drop k).all (fun m => decide (0 ≤ m.args)) = P.mks.all (fun m => decide (0 ≤ m.args)) ∧ Below w1.heap.size w1 wr)
          case atStart => exact ⟨0, by omega, by omega, rfl, rfl, HB2.out⟩
          case round =>
            obtain ⟨k, hgk, hk, rfl, hall, hbw⟩ := hrel
            have HK := Lib.hid hgk
            have HAL := Lib.hid hall
            have HBW := Lib.hid hbw
            have HBB := Lib.hid (HB.out.trans (hbw.mono HB.out.size))
            clear hgk hall hbw
            by_cases hlt : k < P.mks.length
            · obtain ⟨b1, o1, rfl, _, z0, z1, z2⟩ := (HMKS.out.below (HBB.out.mono hB)).mk hlt mkc0
              have HD := Lib.hid (all_drop (fun m : MkC => decide (0 ≤ m.args)) P.mks mkc0 hlt)
              have hkl : (k : Int) < (P.mks.length : Int) := by omega
              generalize P.mks.getD k mkc0 = x at *
              obtain ⟨xn, xd, xa⟩ := x
              dsimp only at z0 z1 z2 HD
              have hba : Below wr.heap.size wr (wr.alloc (.cells #[.string xn, .string xd, .int .i64 xa] 49)) := (Below.refl _ _).alloc (Nat.le_refl _) _
              have HBA := Lib.hid (HBW.out.trans (hba.mono HBW.out.size))
              have HBAA := Lib.hid (HBB.out.trans (hba.mono HBB.out.size))
              clear hba
              by_cases m : xa < 0
              · have e1 : decide (xa < 0) = true := decide_eq_true m
                have HAF : Hid (P.mks.all (fun m => decide (0 ≤ m.args)) = false) := by show _ = _; rw [← HAL.out, HD.out, decide_eq_false (show ¬ 0 ≤ xa by omega), Bool.false_and]
                have HRV : Hid (r = 3) := by show _ = _; rw [← HR.out, if_pos HAF.out]
                clear HR HD HAL HAF
                go_wp2_with fail
                go_ret
                exact ⟨by rw [HRV.out]; rfl, HBAA.out⟩
              · have e1 : decide (xa < 0) = false := decide_eq_false m
                have HAL2 : Hid ((P.mks.drop (k + 1)).all (fun m => decide (0 ≤ m.args)) = P.mks.all (fun m => decide (0 ≤ m.args))) := by show _ = _; rw [← HAL.out, HD.out, decide_eq_true (show 0 ≤ xa by omega), Bool.true_and]
                clear HR HD HAL
                go_wp2_with fail
                go_roundg (P.mks.length - (k + 1))
                case measure => have := HK.out; omega
                case rel => exact ⟨k + 1, rfl, by omega, by go_num, HAL2.out, HBA.out⟩
            · obtain rfl : k = P.mks.length := by omega
              have hln : ¬ (P.mks.length : Int) < (P.mks.length : Int) := by omega
              rw [← HAL.out, all_end, if_neg (by simp)] at HR
              clear HAL HK hlt hk
              obtain ⟨wd, hwd⟩ : ∃ wd, wd = wr := ⟨_, rfl⟩
              subst hwd
              have HB3 := HBW
              clear HBW HBB HMKS HB2 cc5
              have cc2 : wd.cell? ⟨w.heap.size, 2, none⟩ = some (.slice A2 P.fns.length c2) := (HXC.out.below HB3.out HXC.out.lt).cell 2
              go_wp2_with fail
              go_loopg [129] P.fns.length (fun gk i wr => ∃ k : Nat, gk = P.fns.length - k ∧ k ≤ P.fns.length ∧ i = .int .i64 k ∧ funsF P (P.fns.drop k) = funsF P P.fns ∧ Below w1.heap.size w1 wr)
              case atStart => exact ⟨0, by omega, by omega, rfl, rfl, HB3.out⟩
              case round =>
                obtain ⟨k, hgk, hk, rfl, hall, hbw⟩ := hrel
                obtain ⟨wo, hwo⟩ : ∃ wo, wo = wr := ⟨_, rfl⟩
                subst hwo
                have HK := Lib.hid hgk
                have HAL := Lib.hid hall
                have HBW := Lib.hid hbw
                have HBB := Lib.hid (HB.out.trans (hbw.mono HB.out.size))
                clear hgk hall hbw cc2
                by_cases hlt : k < P.fns.length
                · have hkl2 : k < fl.length := by rw [HLN.out]; exact hlt
                  obtain ⟨b1, o1, rfl, _, z0, z1, z2, z3, z4⟩ := (HFL.out.below (HBB.out.mono hB)).fc hkl2 fcc0
                  have hfi := HFN.out k hkl2
                  have HD := Lib.hid (funsF_drop P P.fns hlt)
                  have hkl : (k : Int) < (P.fns.length : Int) := by omega
                  generalize fl.getD k fcc0 = y at *
                  generalize P.fns.getD k fnp0 = f at *
                  obtain ⟨e1, e2, e3, e4, hrow, hmax, hargs⟩ := hfi
                  obtain ⟨yn, yp, yh, yr, yA, yl, yc⟩ := y
                  obtain ⟨fp, fh, fr, fi⟩ := f
                  dsimp only at e1 e2 e3 e4 hrow hmax hargs z0 z1 z2 z3 z4
                  subst e1 e2 e3 e4
                  obtain ⟨fp, hfp⟩ : ∃ fp, fp = yp := ⟨_, rfl⟩
                  obtain ⟨fh, hfh⟩ : ∃ fh, fh = yh := ⟨_, rfl⟩
                  obtain ⟨fr, hfr⟩ : ∃ fr, fr = yr := ⟨_, rfl⟩
                  subst hfp hfh hfr
                  have hba : Below wo.heap.size wo (wo.alloc (.cells #[.string yn, .int .i64 fp, .int .i64 fh, .int .i64 fr, .slice yA fi.length yc] 36)) := (Below.refl _ _).alloc (Nat.le_refl _) _
                  have HBA := Lib.hid (HBW.out.trans (hba.mono HBW.out.size))
                  have HBAA := Lib.hid (HBB.out.trans (hba.mono HBB.out.size))
                  have HXF := Lib.hid (Box.new wo 36 #[.string yn, .int .i64 fp, .int .i64 fh, .int .i64 fr, .slice yA fi.length yc])
                  have HROW := Lib.hid hrow
                  have HARG := Lib.hid hargs
                  have HVE := Lib.hid (fun (x : InC) (t : Int) (w1 : World) (hb : Below w.heap.size w w1) (hok : InOk w1 B x) (ht0 : 0 ≤ t) (ht1 : t ≤ 1099511627776) => HVD.out ⟨yn, fp, fh, fr, yA, fi.length, yc⟩ x t w1 hb hok ht0 ht1)
                  dsimp only at HVE
                  have HWP := Lib.hid (fun w' => rin_any fp 2001 w')
                  have HWH := Lib.hid (fun w' => rin_any fh 2001 w')
                  clear hba hrow hargs HVD
                  have HFF : Hid (funF P ⟨fp, fh, fr, fi⟩ = if 4000 < fi.length ∨ 2000 < fr then 2 else if (!inB fp 2001 || !inB fh 2001) = true ∨ fr < fp + fh ∨ fi.length = 0 then 3 else if insF P fi.length fr fi 0 = true then 0 else 3) := rfl
                  generalize funF P ⟨fp, fh, fr, fi⟩ = fv at *
                  go_upto_region 27 with fail
                  generalize (wo.alloc (.cells #[.string yn, .int .i64 fp, .int .i64 fh, .int .i64 fr, .slice yA fi.length yc] 36)) = w3 at *
                  clear z0 z1 z2 z3 z4
                  have f0 : w3.cell? ⟨wo.heap.size, 0, none⟩ = some (.string yn) := HXF.out.cell 0
                  have f1 : w3.cell? ⟨wo.heap.size, 1, none⟩ = some (.int .i64 fp) := HXF.out.cell 1
                  have f2 : w3.cell? ⟨wo.heap.size, 2, none⟩ = some (.int .i64 fh) := HXF.out.cell 2
                  have f3 : w3.cell? ⟨wo.heap.size, 3, none⟩ = some (.int .i64 fr) := HXF.out.cell 3
                  have f4 : w3.cell? ⟨wo.heap.size, 4, none⟩ = some (.slice yA fi.length yc) := HXF.out.cell 4
                  by_cases l1 : 4000 < fi.length
                  · have d1 : (4000 : Int) < (fi.length : Int) := by omega
                    have hv : fv = 2 := by rw [HFF.out, if_pos (.inl l1)]
                    have HRV : Hid (r = 2) := by show _ = _; rw [← HR.out, ← HAL.out, HD.out, hv]; rfl
                    clear hv
                    clear HR HD HAL HFF
                    go_wp2_with fail
                    go_ret
                    exact ⟨by rw [HRV.out]; rfl, HBAA.out⟩
                  have d1 : ¬ (4000 : Int) < (fi.length : Int) := by omega
                  by_cases l2 : 2000 < fr
                  · have hv : fv = 2 := by rw [HFF.out, if_pos (.inr l2)]
                    have HRV : Hid (r = 2) := by show _ = _; rw [← HR.out, ← HAL.out, HD.out, hv]; rfl
                    clear hv
                    clear HR HD HAL HFF
                    go_wp2_with fail
                    go_ret
                    exact ⟨by rw [HRV.out]; rfl, HBAA.out⟩
                  rw [if_neg (fun h => h.elim l1 l2)] at HFF
                  cases k1 : inB fp 2001 with
                  | false =>
                    rw [k1] at HWP
                    have hv : fv = 3 := by rw [HFF.out, if_pos (.inl (by simp [k1]))]
                    have HRV : Hid (r = 3) := by show _ = _; rw [← HR.out, ← HAL.out, HD.out, hv]; rfl
                    clear hv
                    clear HR HD HAL HFF
                    go_wp2_with fail
                    refine (HWP.out _).mono ?_
                    rintro e w9 ⟨rfl, rfl⟩
                    go_wp2_with fail
                    go_ret
                    exact ⟨by rw [HRV.out]; rfl, HBAA.out⟩
                  | true =>
                  rw [k1] at HWP
                  obtain ⟨p0, p1⟩ := inB_spec k1
                  cases k2 : inB fh 2001 with
                  | false =>
                    rw [k2] at HWH
                    have hv : fv = 3 := by rw [HFF.out, if_pos (.inl (by simp [k2]))]
                    have HRV : Hid (r = 3) := by show _ = _; rw [← HR.out, ← HAL.out, HD.out, hv]; rfl
                    clear hv
                    clear HR HD HAL HFF
                    go_wp2_with fail
                    refine (HWP.out _).mono ?_
                    rintro e w9 ⟨rfl, rfl⟩
                    go_wp2_with fail
                    refine (HWH.out _).mono ?_
                    rintro e w9 ⟨rfl, rfl⟩
                    go_wp2_with fail
                    go_ret
                    exact ⟨by rw [HRV.out]; rfl, HBAA.out⟩
                  | true =>
                  rw [k2] at HWH
                  obtain ⟨p2, p3⟩ := inB_spec k2
                  have hs1 : -9223372036854775808 ≤ fp + fh := by omega
                  have hs2 : fp + fh ≤ 9223372036854775807 := by omega
                  by_cases l3 : fr < fp + fh
                  · have hv : fv = 3 := by rw [HFF.out, if_pos (.inr (.inl l3))]
                    have HRV : Hid (r = 3) := by show _ = _; rw [← HR.out, ← HAL.out, HD.out, hv]; rfl
                    clear hv
                    have d3 : decide (fr < fp + fh) = true := decide_eq_true l3
                    clear HR HD HAL HFF
                    go_wp2_with fail
                    refine (HWP.out _).mono ?_
                    rintro e w9 ⟨rfl, rfl⟩
                    go_wp2_with fail
                    refine (HWH.out _).mono ?_
                    rintro e w9 ⟨rfl, rfl⟩
                    go_wp2_with fail
                    go_ret
                    exact ⟨by rw [HRV.out]; rfl, HBAA.out⟩
                  have d3 : decide (fr < fp + fh) = false := decide_eq_false l3
                  by_cases l4 : fi.length = 0
                  · have hv : fv = 3 := by rw [HFF.out, if_pos (.inr (.inr l4))]
                    have HRV : Hid (r = 3) := by show _ = _; rw [← HR.out, ← HAL.out, HD.out, hv]; rfl
                    clear hv
                    have d4 : ((fi.length : Int) == 0) = true := by simp [l4]
                    clear HR HD HAL HFF
                    go_wp2_with fail
                    refine (HWP.out _).mono ?_
                    rintro e w9 ⟨rfl, rfl⟩
                    go_wp2_with fail
                    refine (HWH.out _).mono ?_
                    rintro e w9 ⟨rfl, rfl⟩
                    go_wp2_with fail
                    go_ret
                    exact ⟨by rw [HRV.out]; rfl, HBAA.out⟩
                  have d4 : ((fi.length : Int) == 0) = false := by rw [beq_eq_false_iff_ne]; omega
                  rw [if_neg (by simp only [k1, k2, not_or]; exact ⟨by simp, l3, l4⟩)] at HFF
                  have hi4 : 0 < fi.length := by omega
                  have hi5 : fi ≠ [] := fun e => l4 (by rw [e]; rfl)
                  go_wp2_with fail
                  refine (HWP.out _).mono ?_
                  rintro e w9 ⟨rfl, rfl⟩
                  go_wp2_with fail
                  refine (HWH.out _).mono ?_
                  rintro e w9 ⟨rfl, rfl⟩
                  go_wp2_with fail
                  go_loopg [171] fi.length (fun gk i wr => ∃ k3 : Nat, gk = fi.length - k3 ∧ k3 ≤ fi.length ∧ i = .int .i64 k3 ∧ insF P fi.length fr (fi.drop k3) (k3 : Int) = insF P fi.length fr fi 0 ∧ Below w3.heap.size w3 wr)
                  case atStart => exact ⟨0, by omega, by omega, rfl, rfl, Below.refl _ _⟩
                  case round =>
                    obtain ⟨k3, hgk, hk3, rfl, hall, hby⟩ := hrel
                    have HK3 := Lib.hid hgk
                    have HAL3 := Lib.hid hall
                    have hbz := HBAA.out.trans (hby.mono HBAA.out.size)
                    have HBZ := Lib.hid hbz
                    have HBY := Lib.hid hby
                    clear hgk hall HWP HWH d3 d4 l3 l4 p0 p1 p2 p3 k1 k2 l2 hs1 hs2 hi4 hi5 hby
                    by_cases hlt3 : k3 < fi.length
                    · obtain ⟨b3, o3, rfl, _, z0, z1, z2, z3, z4⟩ := (HROW.out.below (hbz.mono hB)).ins hlt3 inc0
                      have HIA := Lib.hid ((HARG.out _ (getD_mem inc0 hlt3)).below (hbz.mono hB))
                      have HD3 := Lib.hid (insF_drop P fi.length fr fi hlt3 (k3 : Int))
                      have hkl3 : (k3 : Int) < (fi.length : Int) := by omega
                      generalize fi.getD k3 inc0 = x at *
                      obtain ⟨xo, xa, xb, xc, xA, xcap, xargs⟩ := x
                      dsimp only at z0 z1 z2 z3 z4
                      have hba : Below wr.heap.size wr (wr.alloc (.cells #[.int .i64 xo, .int .i64 xa, .int .i64 xb, .int .i64 xc, .slice xA xargs.length xcap] 33)) := (Below.refl _ _).alloc (Nat.le_refl _) _
                      have HB2y := Lib.hid (HBY.out.trans (hba.mono HBY.out.size))
                      have hb2 : Below w1.heap.size w1 (wr.alloc (.cells #[.int .i64 xo, .int .i64 xa, .int .i64 xb, .int .i64 xc, .slice xA xargs.length xcap] 33)) := HBA.out.trans (HB2y.out.mono HBA.out.size)
                      have HB2 := Lib.hid hb2
                      have HBB2 := Lib.hid (HB.out.trans (hb2.mono HB.out.size))
                      have HOK := Lib.hid ((HIA.out.below (hba.mono (Nat.le_trans hB HBZ.out.size))).ok (Nat.le_trans hB HBB2.out.size))
                      obtain ⟨rv, hrv⟩ : ∃ rv, validF P fi.length fr ⟨xo, xa, xb, xc, xA, xcap, xargs⟩ (k3 : Int) = rv := ⟨_, rfl⟩
                      have HCV := Lib.hid (HVE.out ⟨xo, xa, xb, xc, xA, xcap, xargs⟩ (k3 : Int) _ HBB2.out HOK.out (by omega) (by omega))
                      dsimp only at HCV
                      rw [hrv] at HCV HD3
                      clear hrv HOK HIA HARG HVE hb2 hba hbz
                      have s0 : (wr.alloc (.cells #[.int .i64 xo, .int .i64 xa, .int .i64 xb, .int .i64 xc, .slice xA xargs.length xcap] 33)).cell? ⟨w.heap.size, 0, none⟩ = some (.slice q0.A P.nT q0.cap) := (HXC.out.below HB2.out HXC.out.lt).cell 0
                      have s1 : (wr.alloc (.cells #[.int .i64 xo, .int .i64 xa, .int .i64 xb, .int .i64 xc, .slice xA xargs.length xcap] 33)).cell? ⟨w.heap.size, 1, none⟩ = some (.slice q1.A P.nN q1.cap) := (HXC.out.below HB2.out HXC.out.lt).cell 1
                      have s2 : (wr.alloc (.cells #[.int .i64 xo, .int .i64 xa, .int .i64 xb, .int .i64 xc, .slice xA xargs.length xcap] 33)).cell? ⟨w.heap.size, 2, none⟩ = some (.slice (some ⟨b1, o1, none⟩) P.fns.length c2) := (HXC.out.below HB2.out HXC.out.lt).cell 2
                      have s3 : (wr.alloc (.cells #[.int .i64 xo, .int .i64 xa, .int .i64 xb, .int .i64 xc, .slice xA xargs.length xcap] 33)).cell? ⟨w.heap.size, 3, none⟩ = some (.slice A3 P.acs.length c3) := (HXC.out.below HB2.out HXC.out.lt).cell 3
                      have s4 : (wr.alloc (.cells #[.int .i64 xo, .int .i64 xa, .int .i64 xb, .int .i64 xc, .slice xA xargs.length xcap] 33)).cell? ⟨w.heap.size, 4, none⟩ = some (.slice A4 P.ims.length c4) := (HXC.out.below HB2.out HXC.out.lt).cell 4
                      have s5 : (wr.alloc (.cells #[.int .i64 xo, .int .i64 xa, .int .i64 xb, .int .i64 xc, .slice xA xargs.length xcap] 33)).cell? ⟨w.heap.size, 5, none⟩ = some (.slice A5 P.mks.length c5) := (HXC.out.below HB2.out HXC.out.lt).cell 5
                      have s6 : (wr.alloc (.cells #[.int .i64 xo, .int .i64 xa, .int .i64 xb, .int .i64 xc, .slice xA xargs.length xcap] 33)).cell? ⟨w.heap.size, 6, none⟩ = some (.slice A6 P.pats.length c6) := (HXC.out.below HB2.out HXC.out.lt).cell 6
                      have t0 : (wr.alloc (.cells #[.int .i64 xo, .int .i64 xa, .int .i64 xb, .int .i64 xc, .slice xA xargs.length xcap] 33)).cell? ⟨wo.heap.size, 0, none⟩ = some (.string yn) := (HXF.out.below HB2y.out HXF.out.lt).cell 0
                      have t1 : (wr.alloc (.cells #[.int .i64 xo, .int .i64 xa, .int .i64 xb, .int .i64 xc, .slice xA xargs.length xcap] 33)).cell? ⟨wo.heap.size, 1, none⟩ = some (.int .i64 fp) := (HXF.out.below HB2y.out HXF.out.lt).cell 1
                      have t2 : (wr.alloc (.cells #[.int .i64 xo, .int .i64 xa, .int .i64 xb, .int .i64 xc, .slice xA xargs.length xcap] 33)).cell? ⟨wo.heap.size, 2, none⟩ = some (.int .i64 fh) := (HXF.out.below HB2y.out HXF.out.lt).cell 2
                      have t3 : (wr.alloc (.cells #[.int .i64 xo, .int .i64 xa, .int .i64 xb, .int .i64 xc, .slice xA xargs.length xcap] 33)).cell? ⟨wo.heap.size, 3, none⟩ = some (.int .i64 fr) := (HXF.out.below HB2y.out HXF.out.lt).cell 3
                      have t4 : (wr.alloc (.cells #[.int .i64 xo, .int .i64 xa, .int .i64 xb, .int .i64 xc, .slice xA xargs.length xcap] 33)).cell? ⟨wo.heap.size, 4, none⟩ = some (.slice (some ⟨b3, o3, none⟩) fi.length yc) := (HXF.out.below HB2y.out HXF.out.lt).cell 4
                      go_wp2_with fail
                      refine HCV.out.mono ?_
                      rintro e w9 ⟨rfl, hb9⟩
                      have HB9 := Lib.hid (HB2y.out.trans (hb9.mono HB2y.out.size))
                      have HB9w := Lib.hid (HBB2.out.trans (hb9.mono HBB2.out.size))
                      clear hb9
                      cases rv with
                      | false =>
                        have HRV : Hid (r = 3) := by show _ = _; have hv : fv = 3 := (by rw [HFF.out, ← HAL3.out, HD3.out]; rfl); rw [← HR.out, ← HAL.out, HD.out, hv]; rfl
                        clear HR HD HAL HD3 HAL3 HFF
                        go_wp2_with fail
                        go_ret
                        exact ⟨by rw [HRV.out]; rfl, HB9w.out⟩
                      | true =>
                        have HAL2 : Hid (insF P fi.length fr (fi.drop (k3 + 1)) ((k3 + 1 : Nat) : Int) = insF P fi.length fr fi 0) := by show _ = _; rw [← HAL3.out, HD3.out, Bool.true_and]; rfl
                        clear HR HD HAL HD3 HAL3 HFF
                        go_wp2_with fail
                        go_roundg (fi.length - (k3 + 1))
                        case measure => have := HK3.out; omega
                        case rel => exact ⟨k3 + 1, rfl, by omega, by go_num, HAL2.out, HB9.out⟩
                    · obtain rfl : k3 = fi.length := by omega
                      have hln3 : ¬ (fi.length : Int) < (fi.length : Int) := by omega
                      have HFZ : Hid (fv = 0) := by show _ = _; rw [HFF.out, ← HAL3.out, List.drop_length]; rfl
                      have HAL4 : Hid (funsF P (P.fns.drop (k + 1)) = funsF P P.fns) := by show _ = _; rw [← HAL.out, HD.out, if_pos HFZ.out]
                      have HBN := Lib.hid (HBA.out.trans (HBY.out.mono HBA.out.size))
                      clear HAL HK3 HR HD HFF HAL3 HFZ
                      go_wp2_with fail
                      go_roundg (P.fns.length - (k + 1))
                      case measure => have := HK.out; omega
                      case rel => exact ⟨k + 1, rfl, by omega, by go_num, HAL4.out, HBN.out⟩
                · obtain rfl : k = P.fns.length := by omega
                  have hln : ¬ (P.fns.length : Int) < (P.fns.length : Int) := by omega
                  have HRV : Hid (r = 0) := by show _ = _; rw [← HR.out, ← HAL.out, List.drop_length]; rfl
                  clear HAL HK HR
                  go_wp2_with fail
                  go_ret
                  exact ⟨by rw [HRV.out]; rfl, HBB.out⟩
end Go.Proofs.Ythglcnodoophaaa
