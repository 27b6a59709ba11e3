
/-
  The reference's right.
-/
import Derived.Test.YthglcnodoophaaaCk4
import Derived.Deep.RegionHeld3
namespace Go.Proofs.Ythglcnodoophaaa
open Go.RowKit

set_option maxRecDepth 100000 in
set_option maxHeartbeats 4000000 in
theorem rightA_any (B n : Nat) (v : CkV) (P : CkP) (y : FcC) (x : InC) (t : Int) (w : World) (h : CkIn w B n v P) (hok : InOk w B x) (ht0 : 0 ≤ t) (ht1 : t ≤ 1099511627776) (hop : x.op ≠ 11 ∧ x.op ≠ 16) :
    Calls Try.prog 11 #[.agg (ckC v P), fcV y, inV x, .int .i64 t] w fun e w' => e = .returned (.bool (validF P y.len y.r x t)) ∧ Below w.heap.size w w' := by
  obtain ⟨r, hr⟩ : ∃ r, validF P y.len y.r x t = r := ⟨_, rfl⟩
  rw [hr]
  unfold validF regsT at hr
  rw [wrL_in] at hr
  have hB := hok.hB
  have HNX := Lib.hid (fun w1 (hb : Below w.heap.size w w1) => rnext_any x t B w1 (hok.below hb) ht0 ht1)
  have HRD := Lib.hid (fun w1 (hb : Below w.heap.size w w1) => rreads_any x B w1 (hok.below hb))
  have HSH := Lib.hid (fun w1 => shapes_any x.op w1)
  have HAR := Lib.hid (fun w1 (hb : Below w.heap.size w w1) => rarms_any x B w1 (hok.below hb))
  have HC := Lib.hid h
  have HOK := Lib.hid hok
  have hargl := hok.len
  have HAS := Lib.hid (armsT_small x hok.len)
  have HRL := Lib.hid (reads_len x hok.len)
  obtain ⟨nx, hnx⟩ : ∃ nx, nextT x t = nx := ⟨_, rfl⟩
  rw [hnx] at HNX hr
  obtain ⟨rd, hrd⟩ : ∃ rd, readsT x = rd := ⟨_, rfl⟩
  rw [hrd] at HRD HRL hr
  obtain ⟨vs, hvs⟩ : ∃ vs, armsT x = vs := ⟨_, rfl⟩
  rw [hvs] at HAR HAS hr
  obtain ⟨wv, hwv⟩ : ∃ wv, (shapeF x.op).wr = wv := ⟨_, rfl⟩
  rw [hwv] at HSH hr
  obtain ⟨ff, hff⟩ : ∃ ff, fieldsF P x = ff := ⟨_, rfl⟩
  rw [hff] at hr
  have HVS := Lib.hid hvs
  have HFF := Lib.hid hff
  clear hnx hrd hvs hwv hff
  obtain ⟨q0, q1, A2, c2, A3, c3, A4, c4, A5, c5, A6, c6⟩ := v
  obtain ⟨nT, nN, fns, acs, ims, mks, pats⟩ := P
  obtain ⟨op, a, b, c, A, cap, args⟩ := x
  obtain ⟨yn, yp, yh, fr, yA, fl, yc⟩ := y
  unfold inV at HNX HRD HAR
  unfold inV ckC fcV
  dsimp only at hop hargl HNX HRD HSH HAR hr HFF HVS ⊢
  have HOP := Lib.hid hop
  clear hop
  clear h hok
  have hb : Below w.heap.size w (((w.alloc (.cells #[.slice q0.A nT q0.cap, .slice q1.A nN q1.cap, .slice A2 fns.length c2, .slice A3 acs.length c3, .slice A4 ims.length c4, .slice A5 mks.length c5, .slice A6 pats.length c6] 30)).alloc (.cells #[.string yn, .int .i64 yp, .int .i64 yh, .int .i64 fr, .slice yA fl yc] 36)).alloc (.cells #[.int .i64 op, .int .i64 a, .int .i64 b, .int .i64 c, .slice A args.length cap] 33)) := (((Below.refl _ _).alloc (Nat.le_refl _) _).alloc (by simp) _).alloc (by simp; omega) _
  have hxc := ((Box.new w 30 #[.slice q0.A nT q0.cap, .slice q1.A nN q1.cap, .slice A2 fns.length c2, .slice A3 acs.length c3, .slice A4 ims.length c4, .slice A5 mks.length c5, .slice A6 pats.length c6]).alloc (.cells #[.string yn, .int .i64 yp, .int .i64 yh, .int .i64 fr, .slice yA fl yc] 36)).alloc (.cells #[.int .i64 op, .int .i64 a, .int .i64 b, .int .i64 c, .slice A args.length cap] 33)
  have hxf := (Box.new (w.alloc (.cells #[.slice q0.A nT q0.cap, .slice q1.A nN q1.cap, .slice A2 fns.length c2, .slice A3 acs.length c3, .slice A4 ims.length c4, .slice A5 mks.length c5, .slice A6 pats.length c6] 30)) 36 #[.string yn, .int .i64 yp, .int .i64 yh, .int .i64 fr, .slice yA fl yc]).alloc (.cells #[.int .i64 op, .int .i64 a, .int .i64 b, .int .i64 c, .slice A args.length cap] 33)
  rw [show (w.alloc (.cells #[.slice q0.A nT q0.cap, .slice q1.A nN q1.cap, .slice A2 fns.length c2, .slice A3 acs.length c3, .slice A4 ims.length c4, .slice A5 mks.length c5, .slice A6 pats.length c6] 30)).heap.size = w.heap.size + 1 by simp] at hxf
  have hxi := Box.new ((w.alloc (.cells #[.slice q0.A nT q0.cap, .slice q1.A nN q1.cap, .slice A2 fns.length c2, .slice A3 acs.length c3, .slice A4 ims.length c4, .slice A5 mks.length c5, .slice A6 pats.length c6] 30)).alloc (.cells #[.string yn, .int .i64 yp, .int .i64 yh, .int .i64 fr, .slice yA fl yc] 36)) 33 #[.int .i64 op, .int .i64 a, .int .i64 b, .int .i64 c, .slice A args.length cap]
  rw [show ((w.alloc (.cells #[.slice q0.A nT q0.cap, .slice q1.A nN q1.cap, .slice A2 fns.length c2, .slice A3 acs.length c3, .slice A4 ims.length c4, .slice A5 mks.length c5, .slice A6 pats.length c6] 30)).alloc (.cells #[.string yn, .int .i64 yp, .int .i64 yh, .int .i64 fr, .slice yA fl yc] 36)).heap.size = w.heap.size + 2 by simp] at hxi
  have HR := Lib.hid hr
  have HB := Lib.hid hb
  have HXC := Lib.hid hxc
  have HXF := Lib.hid hxf
  have HXI := Lib.hid hxi
  clear hr hb hxc hxf hxi
  go_enter Try.func11, Try.ntmps11
  go_upto_region 1 with fail
  generalize ((w.alloc (.cells #[.slice q0.A nT q0.cap, .slice q1.A nN q1.cap, .slice A2 fns.length c2, .slice A3 acs.length c3, .slice A4 ims.length c4, .slice A5 mks.length c5, .slice A6 pats.length c6] 30)).alloc (.cells #[.string yn, .int .i64 yp, .int .i64 yh, .int .i64 fr, .slice yA fl yc] 36)).alloc (.cells #[.int .i64 op, .int .i64 a, .int .i64 b, .int .i64 c, .slice A args.length cap] 33) = w1 at *
  have ui0 : w1.cell? ⟨w.heap.size + 2, 0, none⟩ = some (.int .i64 op) := HXI.out.cell 0
  have ui1 : w1.cell? ⟨w.heap.size + 2, 1, none⟩ = some (.int .i64 a) := HXI.out.cell 1
  have ui2 : w1.cell? ⟨w.heap.size + 2, 2, none⟩ = some (.int .i64 b) := HXI.out.cell 2
  have ui3 : w1.cell? ⟨w.heap.size + 2, 3, none⟩ = some (.int .i64 c) := HXI.out.cell 3
  have ui4 : w1.cell? ⟨w.heap.size + 2, 4, none⟩ = some (.slice A args.length cap) := HXI.out.cell 4
  by_cases o1 : op < 1
  · have HRV : Hid (r = false) := by show _ = _; rw [← HR.out, show decide (1 ≤ op ∧ op < 28) = false from decide_eq_false (by omega)]; rfl
    have d1 : decide (op < 1) = true := decide_eq_true o1
    clear HR
    go_wp2_with fail
    go_ret
    exact ⟨by rw [HRV.out]; rfl, HB.out⟩
  have d1 : decide (op < 1) = false := decide_eq_false o1
  by_cases o2 : op < 28
  case neg =>
    have HRV : Hid (r = false) := by show _ = _; rw [← HR.out, show decide (1 ≤ op ∧ op < 28) = false from decide_eq_false (by omega)]; rfl
    have d2 : (27 : Int) < op := by omega
    have d3 : op > 27 := d2
    have d4 : decide (op > 27) = true := decide_eq_true d2
    clear HR
    go_wp2_with fail
    go_ret
    exact ⟨by rw [HRV.out]; rfl, HB.out⟩
  have d2 : ¬ (27 : Int) < op := by omega
  have d3 : ¬ op > 27 := d2
  have d4 : decide (op > 27) = false := decide_eq_false d2
  rw [show decide (1 ≤ op ∧ op < 28) = true from decide_eq_true (by omega), Bool.true_and] at HR
  clear o1 o2
  go_wp2_with fail
  refine (HNX.out _ HB.out).mono ?_
  rintro e w2 ⟨AN, cn, rfl, hon, hbn⟩
  have HNR := Lib.hid hon.row
  have hmx := hon.cap_le
  unfold maxLen at hmx
  have hnl : nx.length ≤ 9223372036854775807 := Nat.le_trans hmx.1 hmx.2
  clear hmx
  have HBN := Lib.hid hbn
  have HB2 := Lib.hid (HB.out.trans (hbn.mono HB.out.size))
  clear hon hbn HNX d1 d2 d3 d4 ui0 ui1 ui2 ui3 ui4
  have ui0 : w2.cell? ⟨w.heap.size + 2, 0, none⟩ = some (.int .i64 op) := (HXI.out.below HBN.out HXI.out.lt).cell 0
  have ui1 : w2.cell? ⟨w.heap.size + 2, 1, none⟩ = some (.int .i64 a) := (HXI.out.below HBN.out HXI.out.lt).cell 1
  have ui2 : w2.cell? ⟨w.heap.size + 2, 2, none⟩ = some (.int .i64 b) := (HXI.out.below HBN.out HXI.out.lt).cell 2
  have ui3 : w2.cell? ⟨w.heap.size + 2, 3, none⟩ = some (.int .i64 c) := (HXI.out.below HBN.out HXI.out.lt).cell 3
  have ui4 : w2.cell? ⟨w.heap.size + 2, 4, none⟩ = some (.slice A args.length cap) := (HXI.out.below HBN.out HXI.out.lt).cell 4
  have uf4 : w2.cell? ⟨w.heap.size + 1, 4, none⟩ = some (.slice yA fl yc) := (HXF.out.below HBN.out HXF.out.lt).cell 4
  go_wp2_with fail
  go_loopg [34] nx.length (fun gk i wr => ∃ k : Nat, gk = nx.length - k ∧ k ≤ nx.length ∧ i = .int .i64 k ∧ (nx.drop k).all (fun z => inB z fl) = nx.all (fun z => inB z fl) ∧ w2 = wr)
  case atStart => exact ⟨0, by omega, by omega, rfl, rfl, rfl⟩
  case round =>
    obtain ⟨k, hgk, hk, rfl, hall, rfl⟩ := hrel
    have HK := Lib.hid hgk
    have HAL := Lib.hid hall
    clear hgk hall
    by_cases hlt : k < nx.length
    · obtain ⟨b1, o1, rfl, _, hc⟩ := HNR.out (by rw [ints_len]; omega)
      have z0 := hc k (.int .i64 (nx.getD k 0)) (by simp [ints, List.getD_eq_getElem?_getD, List.getElem?_eq_getElem hlt])
      have HD := Lib.hid (all_drop (fun z => inB z fl) nx 0 hlt)
      generalize nx.getD k 0 = q at *
      have HWQ := Lib.hid (fun w' => rin_any q fl w')
      have hk1 : (k : Int) < (nx.length : Int) := by omega
      clear hc
      cases hq : inB q fl with
      | false =>
        rw [hq] at HWQ HD
        have HRV : Hid (r = false) := by show _ = _; rw [← HR.out, ← HAL.out, HD.out]; simp
        clear HR HD HAL
        go_wp2_with fail
        refine (HWQ.out _).mono ?_
        rintro e w9 ⟨rfl, rfl⟩
        go_wp2_with fail
        go_ret
        exact ⟨by rw [HRV.out]; rfl, HB2.out⟩
      | true =>
        rw [hq] at HWQ HD
        have HAL2 : Hid ((nx.drop (k + 1)).all (fun z => inB z fl) = nx.all (fun z => inB z fl)) := by show _ = _; rw [← HAL.out, HD.out, Bool.true_and]
        clear HR HD HAL
        go_wp2_with fail
        refine (HWQ.out _).mono ?_
        rintro e w9 ⟨rfl, rfl⟩
        go_wp2_with fail
        go_roundg (nx.length - (k + 1))
        case measure => have := HK.out; omega
        case rel => exact ⟨k + 1, rfl, by omega, by go_num, HAL2.out, rfl⟩
    · obtain rfl : k = nx.length := by omega
      have hln : ¬ (nx.length : Int) < (nx.length : Int) := by omega
      have HALT : Hid (nx.all (fun z => inB z fl) = true) := by show _ = _; rw [← HAL.out, all_end]
      clear HAL HK
      rw [HALT.out, Bool.true_and] at HR
      clear hlt hln hk HALT HNR hnl
      go_wp2_with fail
      refine (HRD.out _ HB2.out).mono ?_
      rintro e w3 ⟨AR, cr, rfl, hor, hbr⟩
      have HOR := Lib.hid (hor.lower (HBN.out.size))
      have hb3 : Below w1.heap.size w1 w3 := HBN.out.trans (hbr.mono HBN.out.size)
      have HB3 := Lib.hid hb3
      clear hor hbr HRD HB2 hb3 ui0 ui1 ui2 ui3 ui4 uf4
      have ui0 : w3.cell? ⟨w.heap.size + 2, 0, none⟩ = some (.int .i64 op) := (HXI.out.below HB3.out HXI.out.lt).cell 0
      have ui1 : w3.cell? ⟨w.heap.size + 2, 1, none⟩ = some (.int .i64 a) := (HXI.out.below HB3.out HXI.out.lt).cell 1
      have ui2 : w3.cell? ⟨w.heap.size + 2, 2, none⟩ = some (.int .i64 b) := (HXI.out.below HB3.out HXI.out.lt).cell 2
      have ui3 : w3.cell? ⟨w.heap.size + 2, 3, none⟩ = some (.int .i64 c) := (HXI.out.below HB3.out HXI.out.lt).cell 3
      have ui4 : w3.cell? ⟨w.heap.size + 2, 4, none⟩ = some (.slice A args.length cap) := (HXI.out.below HB3.out HXI.out.lt).cell 4
      go_wp2_with fail
      refine (HSH.out _).mono ?_
      rintro e w5 ⟨rfl, hb4⟩
      have HBB := Lib.hid (HB3.out.trans (hb4.mono HB3.out.size))
      have HO5 := Lib.hid (HOR.out.below hb4)
      have hf1 := field1 (shapeF op).s wv (shapeF op).ends w5
      clear hb4 HSH HOR ui0 ui1 ui2 ui3 ui4
      have HZL : Hid ((rd ++ (if wv = true then [a] else [])).length ≤ 4194305) := by
        show _ ≤ _
        rw [List.length_append]
        have := HRL.out
        split <;> simp <;> omega
      go_upto_if 50 with fail
      go_cut [11] from 51 to 55 (fun v wx => ∃ A9 c9, v = .slice A9 (rd ++ (if wv = true then [a] else [])).length c9 ∧ OwnAt wx w1.heap.size 3 1 A9 (rd ++ (if wv = true then [a] else [])).length c9 (ints (rd ++ (if wv = true then [a] else []))) ∧ Below w1.heap.size w1 wx)
      case first =>
        cases wv with
        | true =>
          have HRL2 : Hid (rd.length + [a].length ≤ 4398046511104) := by show _ ≤ _; have := HRL.out; simp; omega
          have hsz5 : w1.heap.size ≤ (w5.alloc (.cells #[.int .i64 a] 3)).heap.size := by simp; have := HBB.out.size; omega
          have HSZ5 := Lib.hid hsz5
          have HOW := Lib.hid (HO5.out.below ((Below.refl w5.heap.size w5).alloc (Nat.le_refl _) (.cells #[.int .i64 a] 3)))
          have HBA := Lib.hid (HBB.out.alloc HBB.out.size (.cells #[.int .i64 a] 3))
          have HRN := Lib.hid (row_new w5 [a])
          clear hsz5
          have ui1 : w5.cell? ⟨w.heap.size + 2, 1, none⟩ = some (.int .i64 a) := (HXI.out.below HBB.out HXI.out.lt).cell 1
          go_wp2_with (at_builtin; refine wpList_append_i rfl (.tmp 51) (.tmp 54) rfl w1.heap.size AR cr rd rfl HOW.out (some ⟨w5.heap.size, 0, none⟩) 1 (w5.heap.size + 1) [a] rfl HRN.out HRL2.out HSZ5.out ?_; intro A9 c9 w9 j1 j2 j3; have H9 := Lib.hid (And.intro j1 (HBA.out.grown j2 HSZ5.out (own_lo HOW.out (Nat.le_refl _)))); clear j1 j2 j3)
          go_meet
          exact ⟨A9, c9, by simp, by simpa using H9.out.1, H9.out.2⟩
        | false =>
          go_wp2_with fail
          go_meet
          exact ⟨AR, cr, by simp, by simpa using HO5.out, HBB.out⟩
      case rest =>
      obtain ⟨A7, c7, rfl, ho7, hb7⟩ := hcut
      clear HO5 HBB HB3 HRL
      generalize (rd ++ (if wv = true then [a] else [])) = z0 at *
      have HO7 := Lib.hid ho7
      have HB7 := Lib.hid hb7
      clear ho7 hb7
      have ui0 : wc.cell? ⟨w.heap.size + 2, 0, none⟩ = some (.int .i64 op) := (HXI.out.below HB7.out HXI.out.lt).cell 0
      have ui1 : wc.cell? ⟨w.heap.size + 2, 1, none⟩ = some (.int .i64 a) := (HXI.out.below HB7.out HXI.out.lt).cell 1
      have ui2 : wc.cell? ⟨w.heap.size + 2, 2, none⟩ = some (.int .i64 b) := (HXI.out.below HB7.out HXI.out.lt).cell 2
      have ui3 : wc.cell? ⟨w.heap.size + 2, 3, none⟩ = some (.int .i64 c) := (HXI.out.below HB7.out HXI.out.lt).cell 3
      have ui4 : wc.cell? ⟨w.heap.size + 2, 4, none⟩ = some (.slice A args.length cap) := (HXI.out.below HB7.out HXI.out.lt).cell 4
      go_wp2_with fail
      refine (HAR.out _ (HB.out.trans (HB7.out.mono HB.out.size))).mono ?_
      rintro e w6 ⟨va, rfl, Aa, ca, la, rfl, ha, hb6, hlo, hel⟩
      have hsz7 := HB7.out.size
      have hst0 : RgSt w6 w6 wc.heap.size w1.heap.size A7 c7 z0 := ⟨HO7.out.below hb6, fun g hg => .inl (by rcases HO7.out.form with ⟨e, _⟩ | ⟨g1, o1, e⟩ <;> subst e <;> simp at hg; subst hg; exact HO7.out.lt.2), fun _ _ _ => rfl, Below.refl _ _, Nat.le_refl _⟩
      have HST := Lib.hid hst0
      have HB6 := Lib.hid (HB7.out.trans (hb6.mono HB7.out.size))
      have HAA := Lib.hid ha
      have HLO := Lib.hid hlo
      have HEL := Lib.hid hel
      have HLL := Lib.hid ha.1
      clear hst0 hb6 ha hlo hel HAR HO7 hsz7 ui0 ui1 ui2 ui3 ui4
      go_wp2_with fail
      go_loopg [59, 11] vs.length (fun gk i q wr => ∃ (k : Nat) (A9 : Option Addr) (c9 : Nat), gk = vs.length - k ∧ k ≤ vs.length ∧ i = .int .i64 k ∧ q = .slice A9 (z0 ++ armRegs (vs.take k)).length c9 ∧ RgSt w6 wr wc.heap.size w1.heap.size A9 c9 (z0 ++ armRegs (vs.take k)))
      case atStart => exact ⟨0, A7, c7, rfl, Nat.zero_le _, rfl, by simp [armRegs], by simpa [armRegs] using HST.out⟩
      case round =>
        obtain ⟨k, A9, c9, hgk, hk, rfl, rfl, hst⟩ := hrel
        have HK := Lib.hid hgk
        clear hgk HST
        by_cases hlt : k < vs.length
        · have hkl : k < la.length := by rw [HLL.out]; exact hlt
          obtain ⟨b1, o1, rfl, e0, e1, hrow⟩ := hst.arm HAA.out HLO.out HEL.out hkl
          have HTK := Lib.hid (armRegs_take vs hlt)
          have HLN : Hid ((z0 ++ armRegs (vs.take k)).length + (vs.getD k arv0).2.length ≤ 4398046511104) := by
            show _ ≤ _
            have h1 := armRegs_len vs HAS.out.2 k (by omega)
            have h2 := HAS.out.2 k hlt
            have h3 := HAS.out.1
            have h4 := HZL.out
            rw [List.length_append]
            omega
          have hwsz : w1.heap.size ≤ wr.heap.size := Nat.le_trans HB6.out.size hst.size
          have hk1 : (k : Int) < (la.length : Int) := by omega
          have hvl := HAS.out.1
          generalize la.getD k arc0 = y at *
          generalize vs.getD k arv0 = av at *
          obtain ⟨ypc, yA9, yl9, yc9⟩ := y
          obtain ⟨apc, ars⟩ := av
          dsimp only at e0 e1 hrow HTK HLN
          have hst2 := hst.alloc hwsz (.cells #[.int .i64 ypc, .slice yA9 ars.length yc9] 60)
          have HS2 := Lib.hid hst2
          have HRO := Lib.hid (hrow.below ((Below.refl wr.heap.size wr).alloc (Nat.le_refl _) (.cells #[.int .i64 ypc, .slice yA9 ars.length yc9] 60) |>.mono hst.size))
          have HSZ : Hid (w1.heap.size ≤ (wr.alloc (.cells #[.int .i64 ypc, .slice yA9 ars.length yc9] 60)).heap.size) := by show _ ≤ _; simp; omega
          clear hst hst2 hrow hwsz
          go_wp2_with (at_builtin; refine wpList_append_i rfl (.tmp 63) (.tmp 65) rfl w1.heap.size A9 c9 (z0 ++ armRegs (vs.take k)) rfl HS2.out.own yA9 yc9 w6.heap.size ars rfl HRO.out HLN.out HSZ.out ?_; intro A8 c8 w8 j1 j2 j3; have H8 := Lib.hid (HS2.out.grow HSZ.out j1 j2 j3); clear j1 j2 j3)
          go_roundg (vs.length - (k + 1))
          case measure => have := HK.out; omega
          case rel => exact ⟨k + 1, A8, c8, rfl, hlt, by go_num, by rw [HTK.out, ← List.append_assoc]; simp only [List.length_append, Nat.add_assoc], by rw [HTK.out, ← List.append_assoc]; exact H8.out⟩
        · obtain rfl : k = vs.length := by omega
          have hln : ¬ (vs.length : Int) < (la.length : Int) := by have := HLL.out; omega
          have hln2 : ¬ vs.length < la.length := by have := HLL.out; omega
          rw [List.take_length] at hst ⊢
          generalize z0 ++ armRegs vs = zs at *
          have HZR := Lib.hid hst.own.row
          have hmx := hst.own.cap_le
          unfold maxLen at hmx
          have hzl : zs.length ≤ 9223372036854775807 := Nat.le_trans hmx.1 hmx.2
          clear hmx
          have hbw : Below w1.heap.size w1 wr := HB6.out.trans hst.below
          have HBW := Lib.hid hbw
          have HBWW := Lib.hid (HB.out.trans (hbw.mono HB.out.size))
          have HR3 := Lib.hid (show (zs.all (fun z => inB z fr) && ff) = r from HR.out)
          clear HR
          have HR := HR3
          clear hst HK hlt hk HAA HLO HEL hbw HR3
          have uf3 : wr.cell? ⟨w.heap.size + 1, 3, none⟩ = some (.int .i64 fr) := (HXF.out.below HBW.out HXF.out.lt).cell 3
          go_wp2_with fail
          go_loopg [70] zs.length (fun gk i wy => ∃ k : Nat, gk = zs.length - k ∧ k ≤ zs.length ∧ i = .int .i64 k ∧ (zs.drop k).all (fun z => inB z fr) = zs.all (fun z => inB z fr) ∧ wr = wy)
          case atStart => exact ⟨0, by omega, by omega, rfl, rfl, rfl⟩
          case round =>
            obtain ⟨k, hgk, hk, rfl, hall, rfl⟩ := hrel
            have HK := Lib.hid hgk
            have HAL := Lib.hid hall
            clear hgk hall
            by_cases hlt : k < zs.length
            · obtain ⟨b1, o1, rfl, _, hc⟩ := HZR.out (by rw [ints_len]; omega)
              have z0 := hc k (.int .i64 (zs.getD k 0)) (by simp [ints, List.getD_eq_getElem?_getD, List.getElem?_eq_getElem hlt])
              have HD := Lib.hid (all_drop (fun z => inB z fr) zs 0 hlt)
              generalize zs.getD k 0 = q at *
              have HWQ := Lib.hid (fun w' => rin_any q fr w')
              have hk1 : (k : Int) < (zs.length : Int) := by omega
              clear hc
              cases hq : inB q fr with
              | false =>
                rw [hq] at HWQ HD
                have HRV : Hid (r = false) := by show _ = _; rw [← HR.out, ← HAL.out, HD.out]; simp
                clear HR HD HAL
                go_wp2_with fail
                refine (HWQ.out _).mono ?_
                rintro e w9 ⟨rfl, rfl⟩
                go_wp2_with fail
                go_ret
                exact ⟨by rw [HRV.out]; rfl, HBWW.out⟩
              | true =>
                rw [hq] at HWQ HD
                have HAL2 : Hid ((zs.drop (k + 1)).all (fun z => inB z fr) = zs.all (fun z => inB z fr)) := by show _ = _; rw [← HAL.out, HD.out, Bool.true_and]
                clear HR HD HAL
                go_wp2_with fail
                refine (HWQ.out _).mono ?_
                rintro e w9 ⟨rfl, rfl⟩
                go_wp2_with fail
                go_roundg (zs.length - (k + 1))
                case measure => have := HK.out; omega
                case rel => exact ⟨k + 1, rfl, by omega, by go_num, HAL2.out, rfl⟩
            · obtain rfl : k = zs.length := by omega
              have hln : ¬ (zs.length : Int) < (zs.length : Int) := by omega
              have HALT : Hid (zs.all (fun z => inB z fr) = true) := by show _ = _; rw [← HAL.out, all_end]
              clear HAL HK
              have HR2 : Hid (ff = r) := by
                have h1 := HR.out
                rw [HALT.out, Bool.true_and] at h1
                exact h1
              have HR3 := Lib.hid (HFF.out.trans HR2.out)
              clear HR hlt hk uf3 HFF HR2
              obtain ⟨we, hwe⟩ : ∃ we, we = wr := ⟨_, rfl⟩
              subst hwe
              have uc0 : we.cell? ⟨w.heap.size, 0, none⟩ = some (.slice q0.A nT q0.cap) := (HXC.out.below HBW.out HXC.out.lt).cell 0
              have uc1 : we.cell? ⟨w.heap.size, 1, none⟩ = some (.slice q1.A nN q1.cap) := (HXC.out.below HBW.out HXC.out.lt).cell 1
              have uc2 : we.cell? ⟨w.heap.size, 2, none⟩ = some (.slice A2 fns.length c2) := (HXC.out.below HBW.out HXC.out.lt).cell 2
              have uc3 : we.cell? ⟨w.heap.size, 3, none⟩ = some (.slice A3 acs.length c3) := (HXC.out.below HBW.out HXC.out.lt).cell 3
              have uc4 : we.cell? ⟨w.heap.size, 4, none⟩ = some (.slice A4 ims.length c4) := (HXC.out.below HBW.out HXC.out.lt).cell 4
              have uc5 : we.cell? ⟨w.heap.size, 5, none⟩ = some (.slice A5 mks.length c5) := (HXC.out.below HBW.out HXC.out.lt).cell 5
              have uc6 : we.cell? ⟨w.heap.size, 6, none⟩ = some (.slice A6 pats.length c6) := (HXC.out.below HBW.out HXC.out.lt).cell 6
              have ui0 : we.cell? ⟨w.heap.size + 2, 0, none⟩ = some (.int .i64 op) := (HXI.out.below HBW.out HXI.out.lt).cell 0
              have ui1 : we.cell? ⟨w.heap.size + 2, 1, none⟩ = some (.int .i64 a) := (HXI.out.below HBW.out HXI.out.lt).cell 1
              have ui2 : we.cell? ⟨w.heap.size + 2, 2, none⟩ = some (.int .i64 b) := (HXI.out.below HBW.out HXI.out.lt).cell 2
              have ui3 : we.cell? ⟨w.heap.size + 2, 3, none⟩ = some (.int .i64 c) := (HXI.out.below HBW.out HXI.out.lt).cell 3
              have ui4 : we.cell? ⟨w.heap.size + 2, 4, none⟩ = some (.slice A args.length cap) := (HXI.out.below HBW.out HXI.out.lt).cell 4
              have hop := HOP.out
              clear HOP HAS HZR
              unfold fieldsF at HR3
              dsimp only at HR3
              go_upto_region 25 with fail
              obtain ⟨h11, h16⟩ := hop
              have e11 : (op == 11) = false := by simp [h11]
              have e16 : (op == 16) = false := by simp [h16]
              by_cases h1 : op = 1
              · subst h1
                by_cases b1 : b = 1
                · subst b1
                  have HRV : Hid (r = true) := by show _ = _; rw [← HR3.out]; simp
                  clear HR3
                  go_wp2_with fail
                  go_ret
                  exact ⟨by rw [HRV.out]; rfl, HBWW.out⟩
                have n1 : (b == 1) = false := by simp [b1]
                by_cases b3 : b = 3
                · subst b3
                  have HRV : Hid (r = inB c 2) := by show _ = _; rw [← HR3.out]; simp
                  have HWQ := Lib.hid (fun w' => rin_any c 2 w')
                  clear HR3
                  go_wp2_with fail
                  refine (HWQ.out _).mono ?_
                  rintro e w9 ⟨rfl, rfl⟩
                  go_wp2_with fail
                  go_ret
                  exact ⟨by rw [HRV.out]; rfl, HBWW.out⟩
                have n3 : (b == 3) = false := by simp [b3]
                by_cases b2 : b = 2
                · subst b2
                  have HRV : Hid (r = inB c nN) := by show _ = _; rw [← HR3.out]; simp
                  have HWQ := Lib.hid (fun w' => rin_any c nN w')
                  clear HR3
                  go_wp2_with fail
                  refine (HWQ.out _).mono ?_
                  rintro e w9 ⟨rfl, rfl⟩
                  go_wp2_with fail
                  go_ret
                  exact ⟨by rw [HRV.out]; rfl, HBWW.out⟩
                have n2 : (b == 2) = false := by simp [b2]
                by_cases b4 : b = 4
                · subst b4
                  have HRV : Hid (r = inB c nT) := by show _ = _; rw [← HR3.out]; simp
                  have HWQ := Lib.hid (fun w' => rin_any c nT w')
                  clear HR3
                  go_wp2_with fail
                  refine (HWQ.out _).mono ?_
                  rintro e w9 ⟨rfl, rfl⟩
                  go_wp2_with fail
                  go_ret
                  exact ⟨by rw [HRV.out]; rfl, HBWW.out⟩
                have n4 : (b == 4) = false := by simp [b4]
                have HRV : Hid (r = false) := by show _ = _; rw [← HR3.out]; simp [b1, b2, b3, b4]
                clear HR3
                go_wp2_with fail
                go_ret
                exact ⟨by rw [HRV.out]; rfl, HBWW.out⟩
              have e1 : (op == 1) = false := by simp [h1]
              by_cases h5 : op = 5
              · subst h5
                have HWQ := Lib.hid (fun w' => rin_any b 8 w')
                by_cases b8 : b = 8
                · subst b8
                  rw [show inB 8 8 = false by decide] at HWQ
                  cases la : ((args.length : Int) == 1) with
                  | true =>
                    have HRV : Hid (r = true) := by show _ = _; rw [← HR3.out]; simp only [beq_iff_eq] at la; simp [inB]; omega
                    clear HR3
                    go_wp2_with fail
                    refine (HWQ.out _).mono ?_
                    rintro e w9 ⟨rfl, rfl⟩
                    go_wp2_with fail
                    go_ret
                    exact ⟨by rw [HRV.out]; rfl, HBWW.out⟩
                  | false =>
                    have HRV : Hid (r = false) := by show _ = _; rw [← HR3.out]; simp only [beq_eq_false_iff_ne] at la; simp [inB]; omega
                    clear HR3
                    go_wp2_with fail
                    refine (HWQ.out _).mono ?_
                    rintro e w9 ⟨rfl, rfl⟩
                    go_wp2_with fail
                    go_ret
                    exact ⟨by rw [HRV.out]; rfl, HBWW.out⟩
                · have n8 : (b == 8) = false := by simp [b8]
                  have HIN : Hid (inB b 9 = inB b 8) := by show _ = _; unfold inB; exact decide_eq_decide.2 ⟨fun h => ⟨h.1, by omega⟩, fun h => ⟨h.1, by omega⟩⟩
                  cases hin : inB b 8 with
                  | false =>
                    rw [hin] at HWQ HIN
                    have HRV : Hid (r = false) := by show _ = _; rw [← HR3.out]; simp [HIN.out]
                    clear HR3
                    go_wp2_with fail
                    refine (HWQ.out _).mono ?_
                    rintro e w9 ⟨rfl, rfl⟩
                    go_wp2_with fail
                    go_ret
                    exact ⟨by rw [HRV.out]; rfl, HBWW.out⟩
                  | true =>
                    rw [hin] at HWQ HIN
                    cases la : ((args.length : Int) == 2) with
                    | true =>
                      have HRV : Hid (r = true) := by show _ = _; rw [← HR3.out]; simp only [beq_iff_eq] at la; simp [HIN.out, b8]; omega
                      clear HR3
                      go_wp2_with fail
                      refine (HWQ.out _).mono ?_
                      rintro e w9 ⟨rfl, rfl⟩
                      go_wp2_with fail
                      go_ret
                      exact ⟨by rw [HRV.out]; rfl, HBWW.out⟩
                    | false =>
                      have HRV : Hid (r = false) := by show _ = _; rw [← HR3.out]; simp only [beq_eq_false_iff_ne] at la; simp [HIN.out, b8]; omega
                      clear HR3
                      go_wp2_with fail
                      refine (HWQ.out _).mono ?_
                      rintro e w9 ⟨rfl, rfl⟩
                      go_wp2_with fail
                      go_ret
                      exact ⟨by rw [HRV.out]; rfl, HBWW.out⟩
              have e5 : (op == 5) = false := by simp [h5]
              by_cases h6 : op = 6
              · subst h6
                have HWQ := Lib.hid (fun w' => rin_any b fns.length w')
                cases hin : inB b fns.length with
                | false =>
                  rw [hin] at HWQ
                  have HRV : Hid (r = false) := by show _ = _; rw [← HR3.out]; simp [hin]
                  clear HR3
                  go_wp2_with fail
                  refine (HWQ.out _).mono ?_
                  rintro e w9 ⟨rfl, rfl⟩
                  go_wp2_with fail
                  go_ret
                  exact ⟨by rw [HRV.out]; rfl, HBWW.out⟩
                | true =>
                  rw [hin] at HWQ
                  obtain ⟨hi0, hi1⟩ := inB_spec hin
                  obtain ⟨k, rfl⟩ : ∃ k : Nat, b = (k : Int) := ⟨b.toNat, by omega⟩
                  have hk : k < fns.length := by omega
                  have hto : ((k : Int)).toNat = k := Int.toNat_natCast k
                  obtain ⟨l, hl1, hl2, hl3⟩ := HC.out.fns
                  dsimp only at hl1 hl2 hl3
                  have hkl : k < l.length := by omega
                  obtain ⟨b', o', rfl, hb', _, y1, y2, _, _⟩ := (hl2.below (HBWW.out.mono hB)).fc hkl fcc0
                  have hf := hl3 k hkl
                  rw [hf.hp] at y1
                  rw [hf.hh] at y2
                  clear hf hl1 hl2 hl3 hkl
                  rw [hto] at HR3
                  generalize fns.getD k fnp0 = f at *
                  obtain ⟨fp, fh, fr', fi⟩ := f
                  dsimp only at y1 y2 HR3
                  cases q0 : (fh == 0) with
                  | false =>
                    have HRV : Hid (r = false) := by
                      show _ = _
                      rw [← HR3.out]
                      simp only [beq_eq_false_iff_ne] at q0
                      simp [hin, q0]
                    clear HR3 hin
                    go_wp2_with fail
                    refine (HWQ.out _).mono ?_
                    rintro e w9 ⟨rfl, rfl⟩
                    go_wp2_with fail
                    go_ret
                    exact ⟨by rw [HRV.out]; rfl, HBWW.out⟩
                  | true =>
                    cases q1 : (fp == (args.length : Int)) with
                    | false =>
                      have HRV : Hid (r = false) := by
                        show _ = _
                        rw [← HR3.out]
                        simp only [beq_iff_eq] at q0
                        simp only [beq_eq_false_iff_ne] at q1
                        simp [hin, q0, q1]
                      clear HR3 hin
                      go_wp2_with fail
                      refine (HWQ.out _).mono ?_
                      rintro e w9 ⟨rfl, rfl⟩
                      go_wp2_with fail
                      go_ret
                      exact ⟨by rw [HRV.out]; rfl, HBWW.out⟩
                    | true =>
                      have HRV : Hid (r = true) := by
                        show _ = _
                        rw [← HR3.out]
                        simp only [beq_iff_eq] at q0
                        simp only [beq_iff_eq] at q1
                        simp [hin, q0, q1]
                      clear HR3 hin
                      go_wp2_with fail
                      refine (HWQ.out _).mono ?_
                      rintro e w9 ⟨rfl, rfl⟩
                      go_wp2_with fail
                      go_ret
                      exact ⟨by rw [HRV.out]; rfl, HBWW.out⟩
              have e6 : (op == 6) = false := by simp [h6]
              by_cases h8 : op = 8
              · subst h8
                have HWQ := Lib.hid (fun w' => rin_any b fns.length w')
                cases hin : inB b fns.length with
                | false =>
                  rw [hin] at HWQ
                  have HRV : Hid (r = false) := by show _ = _; rw [← HR3.out]; simp [hin]
                  clear HR3
                  go_wp2_with fail
                  refine (HWQ.out _).mono ?_
                  rintro e w9 ⟨rfl, rfl⟩
                  go_wp2_with fail
                  go_ret
                  exact ⟨by rw [HRV.out]; rfl, HBWW.out⟩
                | true =>
                  rw [hin] at HWQ
                  obtain ⟨hi0, hi1⟩ := inB_spec hin
                  obtain ⟨k, rfl⟩ : ∃ k : Nat, b = (k : Int) := ⟨b.toNat, by omega⟩
                  have hk : k < fns.length := by omega
                  have hto : ((k : Int)).toNat = k := Int.toNat_natCast k
                  obtain ⟨l, hl1, hl2, hl3⟩ := HC.out.fns
                  dsimp only at hl1 hl2 hl3
                  have hkl : k < l.length := by omega
                  obtain ⟨b', o', rfl, hb', _, y1, y2, _, _⟩ := (hl2.below (HBWW.out.mono hB)).fc hkl fcc0
                  have hf := hl3 k hkl
                  rw [hf.hp] at y1
                  rw [hf.hh] at y2
                  clear hf hl1 hl2 hl3 hkl
                  rw [hto] at HR3
                  generalize fns.getD k fnp0 = f at *
                  obtain ⟨fp, fh, fr', fi⟩ := f
                  dsimp only at y1 y2 HR3
                  cases q0 : (fh == (args.length : Int)) with
                  | false =>
                    have HRV : Hid (r = false) := by
                      show _ = _
                      rw [← HR3.out]
                      simp only [beq_eq_false_iff_ne] at q0
                      simp [hin, q0]
                    clear HR3 hin
                    go_wp2_with fail
                    refine (HWQ.out _).mono ?_
                    rintro e w9 ⟨rfl, rfl⟩
                    go_wp2_with fail
                    go_ret
                    exact ⟨by rw [HRV.out]; rfl, HBWW.out⟩
                  | true =>
                    have HRV : Hid (r = true) := by
                      show _ = _
                      rw [← HR3.out]
                      simp only [beq_iff_eq] at q0
                      simp [hin, q0]
                    clear HR3 hin
                    go_wp2_with fail
                    refine (HWQ.out _).mono ?_
                    rintro e w9 ⟨rfl, rfl⟩
                    go_wp2_with fail
                    go_ret
                    exact ⟨by rw [HRV.out]; rfl, HBWW.out⟩
              have e8 : (op == 8) = false := by simp [h8]
              by_cases h7 : op = 7
              · subst h7
                have HWQ := Lib.hid (fun w' => rin_any b nT w')
                cases hin : inB b nT with
                | false =>
                  rw [hin] at HWQ
                  have HRV : Hid (r = false) := by show _ = _; rw [← HR3.out]; simp [hin]
                  clear HR3
                  go_wp2_with fail
                  refine (HWQ.out _).mono ?_
                  rintro e w9 ⟨rfl, rfl⟩
                  go_wp2_with fail
                  go_ret
                  exact ⟨by rw [HRV.out]; rfl, HBWW.out⟩
                | true =>
                  rw [hin] at HWQ
                  by_cases la : 0 < args.length
                  · have la1 : (0 : Int) < (args.length : Int) := by omega
                    have la2 : decide ((args.length : Int) > 0) = true := decide_eq_true la1
                    have HRV : Hid (r = true) := by show _ = _; rw [← HR3.out]; simp [hin, la]
                    clear HR3
                    go_wp2_with fail
                    refine (HWQ.out _).mono ?_
                    rintro e w9 ⟨rfl, rfl⟩
                    go_wp2_with fail
                    go_ret
                    exact ⟨by rw [HRV.out]; rfl, HBWW.out⟩
                  · have la1 : ¬ (0 : Int) < (args.length : Int) := by omega
                    have la2 : decide ((args.length : Int) > 0) = false := decide_eq_false la1
                    have HRV : Hid (r = false) := by show _ = _; rw [← HR3.out]; simp [hin, la]
                    clear HR3
                    go_wp2_with fail
                    refine (HWQ.out _).mono ?_
                    rintro e w9 ⟨rfl, rfl⟩
                    go_wp2_with fail
                    go_ret
                    exact ⟨by rw [HRV.out]; rfl, HBWW.out⟩
              have e7 : (op == 7) = false := by simp [h7]
              by_cases h10 : op = 10
              · subst h10
                have HRV : Hid (r = inB b nT) := by show _ = _; rw [← HR3.out]; simp
                have HWQ := Lib.hid (fun w' => rin_any b nT w')
                clear HR3
                go_wp2_with fail
                refine (HWQ.out _).mono ?_
                rintro e w9 ⟨rfl, rfl⟩
                go_wp2_with fail
                go_ret
                exact ⟨by rw [HRV.out]; rfl, HBWW.out⟩
              have e10 : (op == 10) = false := by simp [h10]
              by_cases h17 : op = 17
              · subst h17
                have HRV : Hid (r = inB b nT) := by show _ = _; rw [← HR3.out]; simp
                have HWQ := Lib.hid (fun w' => rin_any b nT w')
                clear HR3
                go_wp2_with fail
                refine (HWQ.out _).mono ?_
                rintro e w9 ⟨rfl, rfl⟩
                go_wp2_with fail
                go_ret
                exact ⟨by rw [HRV.out]; rfl, HBWW.out⟩
              have e17 : (op == 17) = false := by simp [h17]
              by_cases h27 : op = 27
              · subst h27
                have HRV : Hid (r = inB b nT) := by show _ = _; rw [← HR3.out]; simp
                have HWQ := Lib.hid (fun w' => rin_any b nT w')
                clear HR3
                go_wp2_with fail
                refine (HWQ.out _).mono ?_
                rintro e w9 ⟨rfl, rfl⟩
                go_wp2_with fail
                go_ret
                exact ⟨by rw [HRV.out]; rfl, HBWW.out⟩
              have e27 : (op == 27) = false := by simp [h27]
              by_cases h12 : op = 12
              · subst h12
                have HWQ := Lib.hid (fun w' => rin_any b acs.length w')
                cases hin : inB b acs.length with
                | false =>
                  rw [hin] at HWQ
                  have HRV : Hid (r = false) := by show _ = _; rw [← HR3.out]; simp [hin]
                  clear HR3
                  go_wp2_with fail
                  refine (HWQ.out _).mono ?_
                  rintro e w9 ⟨rfl, rfl⟩
                  go_wp2_with fail
                  go_ret
                  exact ⟨by rw [HRV.out]; rfl, HBWW.out⟩
                | true =>
                  rw [hin] at HWQ
                  obtain ⟨hi0, hi1⟩ := inB_spec hin
                  obtain ⟨k, rfl⟩ : ∃ k : Nat, b = (k : Int) := ⟨b.toNat, by omega⟩
                  have hk : k < acs.length := by omega
                  have hto : ((k : Int)).toNat = k := Int.toNat_natCast k
                  obtain ⟨b', o', rfl, hb', _, y1, _, _⟩ := (HC.out.acs.below (HBWW.out.mono hB)).ac hk acc0
                  dsimp only at y1
                  rw [hto] at HR3
                  generalize acs.getD k acc0 = f at *
                  obtain ⟨fn, fs, ff', ft⟩ := f
                  dsimp only at y1 HR3
                  cases q0 : (fs == (args.length : Int)) with
                  | false =>
                    have HRV : Hid (r = false) := by
                      show _ = _
                      rw [← HR3.out]
                      simp only [beq_eq_false_iff_ne] at q0
                      simp [hin, q0]
                    clear HR3 hin
                    go_wp2_with fail
                    refine (HWQ.out _).mono ?_
                    rintro e w9 ⟨rfl, rfl⟩
                    go_wp2_with fail
                    go_ret
                    exact ⟨by rw [HRV.out]; rfl, HBWW.out⟩
                  | true =>
                    have HRV : Hid (r = true) := by
                      show _ = _
                      rw [← HR3.out]
                      simp only [beq_iff_eq] at q0
                      simp [hin, q0]
                    clear HR3 hin
                    go_wp2_with fail
                    refine (HWQ.out _).mono ?_
                    rintro e w9 ⟨rfl, rfl⟩
                    go_wp2_with fail
                    go_ret
                    exact ⟨by rw [HRV.out]; rfl, HBWW.out⟩
              have e12 : (op == 12) = false := by simp [h12]
              have HRV : Hid (r = true) := by show _ = _; rw [← HR3.out]; simp [h1, h5, h6, h7, h8, h10, h11, h12, h16, h17, h27]
              clear HR3
              go_wp2_with fail
              go_ret
              exact ⟨by rw [HRV.out]; rfl, HBWW.out⟩
end Go.Proofs.Ythglcnodoophaaa
