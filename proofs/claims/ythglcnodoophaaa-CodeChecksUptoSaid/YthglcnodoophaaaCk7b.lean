
/-
  The reference's right.
-/
import Derived.Test.YthglcnodoophaaaCk4
import Derived.Deep.RegionHeld3
namespace Go.Proofs.Ythglcnodoophaaa
open Go.RowKit

set_option maxRecDepth 100000 in
set_option maxHeartbeats 4000000 in
theorem rightB_any (B n : Nat) (v : CkV) (P : CkP) (y : FcC) (x : InC) (t : Int) (w : World) (h : CkIn w B n v P) (hok : InOk w B x) (ht0 : 0 ≤ t) (ht1 : t ≤ 1099511627776) (hop : x.op = 11 ∨ x.op = 16) :
    Calls Try.prog 11 #[.agg (ckC v P), fcV y, inV x, .int .i64 t] w fun e w' => e = .returned (.bool (validF P y.len y.r x t)) ∧ Below w.heap.size w w' := by
  obtain ⟨r, hr⟩ : ∃ r, validF P y.len y.r x t = r := ⟨_, rfl⟩
  rw [hr]
  unfold validF regsT at hr
  rw [wrL_in] at hr
  have hB := hok.hB
  have HNX := Lib.hid (fun w1 (hb : Below w.heap.size w w1) => rnext_any x t B w1 (hok.below hb) ht0 ht1)
  have HRD := Lib.hid (fun w1 (hb : Below w.heap.size w w1) => rreads_any x B w1 (hok.below hb))
  have HSH := Lib.hid (fun w1 => shapes_any x.op w1)
  have HAR := Lib.hid (fun w1 (hb : Below w.heap.size w w1) => rarms_any x B w1 (hok.below hb))
  have HC := Lib.hid h
  have HOK := Lib.hid hok
  have hargl := hok.len
  have HAS := Lib.hid (armsT_small x hok.len)
  have HRL := Lib.hid (reads_len x hok.len)
  obtain ⟨nx, hnx⟩ : ∃ nx, nextT x t = nx := ⟨_, rfl⟩
  rw [hnx] at HNX hr
  obtain ⟨rd, hrd⟩ : ∃ rd, readsT x = rd := ⟨_, rfl⟩
  rw [hrd] at HRD HRL hr
  obtain ⟨vs, hvs⟩ : ∃ vs, armsT x = vs := ⟨_, rfl⟩
  rw [hvs] at HAR HAS hr
  obtain ⟨wv, hwv⟩ : ∃ wv, (shapeF x.op).wr = wv := ⟨_, rfl⟩
  rw [hwv] at HSH hr
  obtain ⟨ff, hff⟩ : ∃ ff, fieldsF P x = ff := ⟨_, rfl⟩
  rw [hff] at hr
  have HVS := Lib.hid hvs
  have HFF := Lib.hid hff
  clear hnx hrd hvs hwv hff
  obtain ⟨q0, q1, A2, c2, A3, c3, A4, c4, A5, c5, A6, c6⟩ := v
  obtain ⟨nT, nN, fns, acs, ims, mks, pats⟩ := P
  obtain ⟨op, a, b, c, A, cap, args⟩ := x
  obtain ⟨yn, yp, yh, fr, yA, fl, yc⟩ := y
  unfold inV at HNX HRD HAR
  unfold inV ckC fcV
  dsimp only at hop hargl HNX HRD HSH HAR hr HFF HVS ⊢
  have HOP := Lib.hid hop
  clear hop
  clear h hok
  have hb : Below w.heap.size w (((w.alloc (.cells #[.slice q0.A nT q0.cap, .slice q1.A nN q1.cap, .slice A2 fns.length c2, .slice A3 acs.length c3, .slice A4 ims.length c4, .slice A5 mks.length c5, .slice A6 pats.length c6] 30)).alloc (.cells #[.string yn, .int .i64 yp, .int .i64 yh, .int .i64 fr, .slice yA fl yc] 36)).alloc (.cells #[.int .i64 op, .int .i64 a, .int .i64 b, .int .i64 c, .slice A args.length cap] 33)) := (((Below.refl _ _).alloc (Nat.le_refl _) _).alloc (by simp) _).alloc (by simp; omega) _
  have hxc := ((Box.new w 30 #[.slice q0.A nT q0.cap, .slice q1.A nN q1.cap, .slice A2 fns.length c2, .slice A3 acs.length c3, .slice A4 ims.length c4, .slice A5 mks.length c5, .slice A6 pats.length c6]).alloc (.cells #[.string yn, .int .i64 yp, .int .i64 yh, .int .i64 fr, .slice yA fl yc] 36)).alloc (.cells #[.int .i64 op, .int .i64 a, .int .i64 b, .int .i64 c, .slice A args.length cap] 33)
  have hxf := (Box.new (w.alloc (.cells #[.slice q0.A nT q0.cap, .slice q1.A nN q1.cap, .slice A2 fns.length c2, .slice A3 acs.length c3, .slice A4 ims.length c4, .slice A5 mks.length c5, .slice A6 pats.length c6] 30)) 36 #[.string yn, .int .i64 yp, .int .i64 yh, .int .i64 fr, .slice yA fl yc]).alloc (.cells #[.int .i64 op, .int .i64 a, .int .i64 b, .int .i64 c, .slice A args.length cap] 33)
  rw [show (w.alloc (.cells #[.slice q0.A nT q0.cap, .slice q1.A nN q1.cap, .slice A2 fns.length c2, .slice A3 acs.length c3, .slice A4 ims.length c4, .slice A5 mks.length c5, .slice A6 pats.length c6] 30)).heap.size = w.heap.size + 1 by simp] at hxf
  have hxi := Box.new ((w.alloc (.cells #[.slice q0.A nT q0.cap, .slice q1.A nN q1.cap, .slice A2 fns.length c2, .slice A3 acs.length c3, .slice A4 ims.length c4, .slice A5 mks.length c5, .slice A6 pats.length c6] 30)).alloc (.cells #[.string yn, .int .i64 yp, .int .i64 yh, .int .i64 fr, .slice yA fl yc] 36)) 33 #[.int .i64 op, .int .i64 a, .int .i64 b, .int .i64 c, .slice A args.length cap]
  rw [show ((w.alloc (.cells #[.slice q0.A nT q0.cap, .slice q1.A nN q1.cap, .slice A2 fns.length c2, .slice A3 acs.length c3, .slice A4 ims.length c4, .slice A5 mks.length c5, .slice A6 pats.length c6] 30)).alloc (.cells #[.string yn, .int .i64 yp, .int .i64 yh, .int .i64 fr, .slice yA fl yc] 36)).heap.size = w.heap.size + 2 by simp] at hxi
  have HR := Lib.hid hr
  have HB := Lib.hid hb
  have HXC := Lib.hid hxc
  have HXF := Lib.hid hxf
  have HXI := Lib.hid hxi
  clear hr hb hxc hxf hxi
  go_enter Try.func11, Try.ntmps11
  go_upto_region 1 with fail
  generalize ((w.alloc (.cells #[.slice q0.A nT q0.cap, .slice q1.A nN q1.cap, .slice A2 fns.length c2, .slice A3 acs.length c3, .slice A4 ims.length c4, .slice A5 mks.length c5, .slice A6 pats.length c6] 30)).alloc (.cells #[.string yn, .int .i64 yp, .int .i64 yh, .int .i64 fr, .slice yA fl yc] 36)).alloc (.cells #[.int .i64 op, .int .i64 a, .int .i64 b, .int .i64 c, .slice A args.length cap] 33) = w1 at *
  have ui0 : w1.cell? ⟨w.heap.size + 2, 0, none⟩ = some (.int .i64 op) := HXI.out.cell 0
  have ui1 : w1.cell? ⟨w.heap.size + 2, 1, none⟩ = some (.int .i64 a) := HXI.out.cell 1
  have ui2 : w1.cell? ⟨w.heap.size + 2, 2, none⟩ = some (.int .i64 b) := HXI.out.cell 2
  have ui3 : w1.cell? ⟨w.heap.size + 2, 3, none⟩ = some (.int .i64 c) := HXI.out.cell 3
  have ui4 : w1.cell? ⟨w.heap.size + 2, 4, none⟩ = some (.slice A args.length cap) := HXI.out.cell 4
  by_cases o1 : op < 1
  · have HRV : Hid (r = false) := by show _ = _; rw [← HR.out, show decide (1 ≤ op ∧ op < 28) = false from decide_eq_false (by omega)]; rfl
    have d1 : decide (op < 1) = true := decide_eq_true o1
    clear HR
    go_wp2_with fail
    go_ret
    exact ⟨by rw [HRV.out]; rfl, HB.out⟩
  have d1 : decide (op < 1) = false := decide_eq_false o1
  by_cases o2 : op < 28
  case neg =>
    have HRV : Hid (r = false) := by show _ = _; rw [← HR.out, show decide (1 ≤ op ∧ op < 28) = false from decide_eq_false (by omega)]; rfl
    have d2 : (27 : Int) < op := by omega
    have d3 : op > 27 := d2
    have d4 : decide (op > 27) = true := decide_eq_true d2
    clear HR
    go_wp2_with fail
    go_ret
    exact ⟨by rw [HRV.out]; rfl, HB.out⟩
  have d2 : ¬ (27 : Int) < op := by omega
  have d3 : ¬ op > 27 := d2
  have d4 : decide (op > 27) = false := decide_eq_false d2
  rw [show decide (1 ≤ op ∧ op < 28) = true from decide_eq_true (by omega), Bool.true_and] at HR
  clear o1 o2
  go_wp2_with fail
  refine (HNX.out _ HB.out).mono ?_
  rintro e w2 ⟨AN, cn, rfl, hon, hbn⟩
  have HNR := Lib.hid hon.row
  have hmx := hon.cap_le
  unfold maxLen at hmx
  have hnl : nx.length ≤ 9223372036854775807 := Nat.le_trans hmx.1 hmx.2
  clear hmx
  have HBN := Lib.hid hbn
  have HB2 := Lib.hid (HB.out.trans (hbn.mono HB.out.size))
  clear hon hbn HNX d1 d2 d3 d4 ui0 ui1 ui2 ui3 ui4
  have ui0 : w2.cell? ⟨w.heap.size + 2, 0, none⟩ = some (.int .i64 op) := (HXI.out.below HBN.out HXI.out.lt).cell 0
  have ui1 : w2.cell? ⟨w.heap.size + 2, 1, none⟩ = some (.int .i64 a) := (HXI.out.below HBN.out HXI.out.lt).cell 1
  have ui2 : w2.cell? ⟨w.heap.size + 2, 2, none⟩ = some (.int .i64 b) := (HXI.out.below HBN.out HXI.out.lt).cell 2
  have ui3 : w2.cell? ⟨w.heap.size + 2, 3, none⟩ = some (.int .i64 c) := (HXI.out.below HBN.out HXI.out.lt).cell 3
  have ui4 : w2.cell? ⟨w.heap.size + 2, 4, none⟩ = some (.slice A args.length cap) := (HXI.out.below HBN.out HXI.out.lt).cell 4
  have uf4 : w2.cell? ⟨w.heap.size + 1, 4, none⟩ = some (.slice yA fl yc) := (HXF.out.below HBN.out HXF.out.lt).cell 4
  go_wp2_with fail
  go_loopg [34] nx.length (fun gk i wr => ∃ k : Nat, gk = nx.length - k ∧ k ≤ nx.length ∧ i = .int .i64 k ∧ (nx.drop k).all (fun z => inB z fl) = nx.all (fun z => inB z fl) ∧ w2 = wr)
  case atStart => exact ⟨0, by omega, by omega, rfl, rfl, rfl⟩
  case round =>
    obtain ⟨k, hgk, hk, rfl, hall, rfl⟩ := hrel
    have HK := Lib.hid hgk
    have HAL := Lib.hid hall
    clear hgk hall
    by_cases hlt : k < nx.length
    · obtain ⟨b1, o1, rfl, _, hc⟩ := HNR.out (by rw [ints_len]; omega)
      have z0 := hc k (.int .i64 (nx.getD k 0)) (by simp [ints, List.getD_eq_getElem?_getD, List.getElem?_eq_getElem hlt])
      have HD := Lib.hid (all_drop (fun z => inB z fl) nx 0 hlt)
      generalize nx.getD k 0 = q at *
      have HWQ := Lib.hid (fun w' => rin_any q fl w')
      have hk1 : (k : Int) < (nx.length : Int) := by omega
      clear hc
      cases hq : inB q fl with
      | false =>
        rw [hq] at HWQ HD
        have HRV : Hid (r = false) := by show _ = _; rw [← HR.out, ← HAL.out, HD.out]; simp
        clear HR HD HAL
        go_wp2_with fail
        refine (HWQ.out _).mono ?_
        rintro e w9 ⟨rfl, rfl⟩
        go_wp2_with fail
        go_ret
        exact ⟨by rw [HRV.out]; rfl, HB2.out⟩
      | true =>
        rw [hq] at HWQ HD
        have HAL2 : Hid ((nx.drop (k + 1)).all (fun z => inB z fl) = nx.all (fun z => inB z fl)) := by show _ = _; rw [← HAL.out, HD.out, Bool.true_and]
        clear HR HD HAL
        go_wp2_with fail
        refine (HWQ.out _).mono ?_
        rintro e w9 ⟨rfl, rfl⟩
        go_wp2_with fail
        go_roundg (nx.length - (k + 1))
        case measure => have := HK.out; omega
        case rel => exact ⟨k + 1, rfl, by omega, by go_num, HAL2.out, rfl⟩
    · obtain rfl : k = nx.length := by omega
      have hln : ¬ (nx.length : Int) < (nx.length : Int) := by omega
      have HALT : Hid (nx.all (fun z => inB z fl) = true) := by show _ = _; rw [← HAL.out, all_end]
      clear HAL HK
      rw [HALT.out, Bool.true_and] at HR
      clear hlt hln hk HALT HNR hnl
      go_wp2_with fail
      refine (HRD.out _ HB2.out).mono ?_
      rintro e w3 ⟨AR, cr, rfl, hor, hbr⟩
      have HOR := Lib.hid (hor.lower (HBN.out.size))
      have hb3 : Below w1.heap.size w1 w3 := HBN.out.trans (hbr.mono HBN.out.size)
      have HB3 := Lib.hid hb3
      clear hor hbr HRD HB2 hb3 ui0 ui1 ui2 ui3 ui4 uf4
      have ui0 : w3.cell? ⟨w.heap.size + 2, 0, none⟩ = some (.int .i64 op) := (HXI.out.below HB3.out HXI.out.lt).cell 0
      have ui1 : w3.cell? ⟨w.heap.size + 2, 1, none⟩ = some (.int .i64 a) := (HXI.out.below HB3.out HXI.out.lt).cell 1
      have ui2 : w3.cell? ⟨w.heap.size + 2, 2, none⟩ = some (.int .i64 b) := (HXI.out.below HB3.out HXI.out.lt).cell 2
      have ui3 : w3.cell? ⟨w.heap.size + 2, 3, none⟩ = some (.int .i64 c) := (HXI.out.below HB3.out HXI.out.lt).cell 3
      have ui4 : w3.cell? ⟨w.heap.size + 2, 4, none⟩ = some (.slice A args.length cap) := (HXI.out.below HB3.out HXI.out.lt).cell 4
      go_wp2_with fail
      refine (HSH.out _).mono ?_
      rintro e w5 ⟨rfl, hb4⟩
      have HBB := Lib.hid (HB3.out.trans (hb4.mono HB3.out.size))
      have HO5 := Lib.hid (HOR.out.below hb4)
      have hf1 := field1 (shapeF op).s wv (shapeF op).ends w5
      clear hb4 HSH HOR ui0 ui1 ui2 ui3 ui4
      have HZL : Hid ((rd ++ (if wv = true then [a] else [])).length ≤ 4194305) := by
        show _ ≤ _
        rw [List.length_append]
        have := HRL.out
        split <;> simp <;> omega
      go_upto_if 50 with fail
      go_cut [11] from 51 to 55 (fun v wx => ∃ A9 c9, v = .slice A9 (rd ++ (if wv = true then [a] else [])).length c9 ∧ OwnAt wx w1.heap.size 3 1 A9 (rd ++ (if wv = true then [a] else [])).length c9 (ints (rd ++ (if wv = true then [a] else []))) ∧ Below w1.heap.size w1 wx)
      case first =>
        cases wv with
        | true =>
          have HRL2 : Hid (rd.length + [a].length ≤ 4398046511104) := by show _ ≤ _; have := HRL.out; simp; omega
          have hsz5 : w1.heap.size ≤ (w5.alloc (.cells #[.int .i64 a] 3)).heap.size := by simp; have := HBB.out.size; omega
          have HSZ5 := Lib.hid hsz5
          have HOW := Lib.hid (HO5.out.below ((Below.refl w5.heap.size w5).alloc (Nat.le_refl _) (.cells #[.int .i64 a] 3)))
          have HBA := Lib.hid (HBB.out.alloc HBB.out.size (.cells #[.int .i64 a] 3))
          have HRN := Lib.hid (row_new w5 [a])
          clear hsz5
          have ui1 : w5.cell? ⟨w.heap.size + 2, 1, none⟩ = some (.int .i64 a) := (HXI.out.below HBB.out HXI.out.lt).cell 1
          go_wp2_with (at_builtin; refine wpList_append_i rfl (.tmp 51) (.tmp 54) rfl w1.heap.size AR cr rd rfl HOW.out (some ⟨w5.heap.size, 0, none⟩) 1 (w5.heap.size + 1) [a] rfl HRN.out HRL2.out HSZ5.out ?_; intro A9 c9 w9 j1 j2 j3; have H9 := Lib.hid (And.intro j1 (HBA.out.grown j2 HSZ5.out (own_lo HOW.out (Nat.le_refl _)))); clear j1 j2 j3)
          go_meet
          exact ⟨A9, c9, by simp, by simpa using H9.out.1, H9.out.2⟩
        | false =>
          go_wp2_with fail
          go_meet
          exact ⟨AR, cr, by simp, by simpa using HO5.out, HBB.out⟩
      case rest =>
      obtain ⟨A7, c7, rfl, ho7, hb7⟩ := hcut
      clear HO5 HBB HB3 HRL
      generalize (rd ++ (if wv = true then [a] else [])) = z0 at *
      have HO7 := Lib.hid ho7
      have HB7 := Lib.hid hb7
      clear ho7 hb7
      have ui0 : wc.cell? ⟨w.heap.size + 2, 0, none⟩ = some (.int .i64 op) := (HXI.out.below HB7.out HXI.out.lt).cell 0
      have ui1 : wc.cell? ⟨w.heap.size + 2, 1, none⟩ = some (.int .i64 a) := (HXI.out.below HB7.out HXI.out.lt).cell 1
      have ui2 : wc.cell? ⟨w.heap.size + 2, 2, none⟩ = some (.int .i64 b) := (HXI.out.below HB7.out HXI.out.lt).cell 2
      have ui3 : wc.cell? ⟨w.heap.size + 2, 3, none⟩ = some (.int .i64 c) := (HXI.out.below HB7.out HXI.out.lt).cell 3
      have ui4 : wc.cell? ⟨w.heap.size + 2, 4, none⟩ = some (.slice A args.length cap) := (HXI.out.below HB7.out HXI.out.lt).cell 4
      go_wp2_with fail
      refine (HAR.out _ (HB.out.trans (HB7.out.mono HB.out.size))).mono ?_
      rintro e w6 ⟨va, rfl, Aa, ca, la, rfl, ha, hb6, hlo, hel⟩
      have hsz7 := HB7.out.size
      have hst0 : RgSt w6 w6 wc.heap.size w1.heap.size A7 c7 z0 := ⟨HO7.out.below hb6, fun g hg => .inl (by rcases HO7.out.form with ⟨e, _⟩ | ⟨g1, o1, e⟩ <;> subst e <;> simp at hg; subst hg; exact HO7.out.lt.2), fun _ _ _ => rfl, Below.refl _ _, Nat.le_refl _⟩
      have HST := Lib.hid hst0
      have HB6 := Lib.hid (HB7.out.trans (hb6.mono HB7.out.size))
      have HAA := Lib.hid ha
      have HLO := Lib.hid hlo
      have HEL := Lib.hid hel
      have HLL := Lib.hid ha.1
      clear hst0 hb6 ha hlo hel HAR HO7 hsz7 ui0 ui1 ui2 ui3 ui4
      go_wp2_with fail
      go_loopg [59, 11] vs.length (fun gk i q wr => ∃ (k : Nat) (A9 : Option Addr) (c9 : Nat), gk = vs.length - k ∧ k ≤ vs.length ∧ i = .int .i64 k ∧ q = .slice A9 (z0 ++ armRegs (vs.take k)).length c9 ∧ RgSt w6 wr wc.heap.size w1.heap.size A9 c9 (z0 ++ armRegs (vs.take k)))
      case atStart => exact ⟨0, A7, c7, rfl, Nat.zero_le _, rfl, by simp [armRegs], by simpa [armRegs] using HST.out⟩
      case round =>
        obtain ⟨k, A9, c9, hgk, hk, rfl, rfl, hst⟩ := hrel
        have HK := Lib.hid hgk
        clear hgk HST
        by_cases hlt : k < vs.length
        · have hkl : k < la.length := by rw [HLL.out]; exact hlt
          obtain ⟨b1, o1, rfl, e0, e1, hrow⟩ := hst.arm HAA.out HLO.out HEL.out hkl
          have HTK := Lib.hid (armRegs_take vs hlt)
          have HLN : Hid ((z0 ++ armRegs (vs.take k)).length + (vs.getD k arv0).2.length ≤ 4398046511104) := by
            show _ ≤ _
            have h1 := armRegs_len vs HAS.out.2 k (by omega)
            have h2 := HAS.out.2 k hlt
            have h3 := HAS.out.1
            have h4 := HZL.out
            rw [List.length_append]
            omega
          have hwsz : w1.heap.size ≤ wr.heap.size := Nat.le_trans HB6.out.size hst.size
          have hk1 : (k : Int) < (la.length : Int) := by omega
          have hvl := HAS.out.1
          generalize la.getD k arc0 = y at *
          generalize vs.getD k arv0 = av at *
          obtain ⟨ypc, yA9, yl9, yc9⟩ := y
          obtain ⟨apc, ars⟩ := av
          dsimp only at e0 e1 hrow HTK HLN
          have hst2 := hst.alloc hwsz (.cells #[.int .i64 ypc, .slice yA9 ars.length yc9] 60)
          have HS2 := Lib.hid hst2
          have HRO := Lib.hid (hrow.below ((Below.refl wr.heap.size wr).alloc (Nat.le_refl _) (.cells #[.int .i64 ypc, .slice yA9 ars.length yc9] 60) |>.mono hst.size))
          have HSZ : Hid (w1.heap.size ≤ (wr.alloc (.cells #[.int .i64 ypc, .slice yA9 ars.length yc9] 60)).heap.size) := by show _ ≤ _; simp; omega
          clear hst hst2 hrow hwsz
          go_wp2_with (at_builtin; refine wpList_append_i rfl (.tmp 63) (.tmp 65) rfl w1.heap.size A9 c9 (z0 ++ armRegs (vs.take k)) rfl HS2.out.own yA9 yc9 w6.heap.size ars rfl HRO.out HLN.out HSZ.out ?_; intro A8 c8 w8 j1 j2 j3; have H8 := Lib.hid (HS2.out.grow HSZ.out j1 j2 j3); clear j1 j2 j3)
          go_roundg (vs.length - (k + 1))
          case measure => have := HK.out; omega
          case rel => exact ⟨k + 1, A8, c8, rfl, hlt, by go_num, by rw [HTK.out, ← List.append_assoc]; simp only [List.length_append, Nat.add_assoc], by rw [HTK.out, ← List.append_assoc]; exact H8.out⟩
        · obtain rfl : k = vs.length := by omega
          have hln : ¬ (vs.length : Int) < (la.length : Int) := by have := HLL.out; omega
          have hln2 : ¬ vs.length < la.length := by have := HLL.out; omega
          rw [List.take_length] at hst ⊢
          generalize z0 ++ armRegs vs = zs at *
          have HZR := Lib.hid hst.own.row
          have hmx := hst.own.cap_le
          unfold maxLen at hmx
          have hzl : zs.length ≤ 9223372036854775807 := Nat.le_trans hmx.1 hmx.2
          clear hmx
          have hbw : Below w1.heap.size w1 wr := HB6.out.trans hst.below
          have HBW := Lib.hid hbw
          have HBWW := Lib.hid (HB.out.trans (hbw.mono HB.out.size))
          have HR3 := Lib.hid (show (zs.all (fun z => inB z fr) && ff) = r from HR.out)
          clear HR
          have HR := HR3
          clear hst HK hlt hk HAA HLO HEL hbw HR3
          have uf3 : wr.cell? ⟨w.heap.size + 1, 3, none⟩ = some (.int .i64 fr) := (HXF.out.below HBW.out HXF.out.lt).cell 3
          go_wp2_with fail
          go_loopg [70] zs.length (fun gk i wy => ∃ k : Nat, gk = zs.length - k ∧ k ≤ zs.length ∧ i = .int .i64 k ∧ (zs.drop k).all (fun z => inB z fr) = zs.all (fun z => inB z fr) ∧ wr = wy)
          case atStart => exact ⟨0, by omega, by omega, rfl, rfl, rfl⟩
          case round =>
            obtain ⟨k, hgk, hk, rfl, hall, rfl⟩ := hrel
            have HK := Lib.hid hgk
            have HAL := Lib.hid hall
            clear hgk hall
            by_cases hlt : k < zs.length
            · obtain ⟨b1, o1, rfl, _, hc⟩ := HZR.out (by rw [ints_len]; omega)
              have z0 := hc k (.int .i64 (zs.getD k 0)) (by simp [ints, List.getD_eq_getElem?_getD, List.getElem?_eq_getElem hlt])
              have HD := Lib.hid (all_drop (fun z => inB z fr) zs 0 hlt)
              generalize zs.getD k 0 = q at *
              have HWQ := Lib.hid (fun w' => rin_any q fr w')
              have hk1 : (k : Int) < (zs.length : Int) := by omega
              clear hc
              cases hq : inB q fr with
              | false =>
                rw [hq] at HWQ HD
                have HRV : Hid (r = false) := by show _ = _; rw [← HR.out, ← HAL.out, HD.out]; simp
                clear HR HD HAL
                go_wp2_with fail
                refine (HWQ.out _).mono ?_
                rintro e w9 ⟨rfl, rfl⟩
                go_wp2_with fail
                go_ret
                exact ⟨by rw [HRV.out]; rfl, HBWW.out⟩
              | true =>
                rw [hq] at HWQ HD
                have HAL2 : Hid ((zs.drop (k + 1)).all (fun z => inB z fr) = zs.all (fun z => inB z fr)) := by show _ = _; rw [← HAL.out, HD.out, Bool.true_and]
                clear HR HD HAL
                go_wp2_with fail
                refine (HWQ.out _).mono ?_
                rintro e w9 ⟨rfl, rfl⟩
                go_wp2_with fail
                go_roundg (zs.length - (k + 1))
                case measure => have := HK.out; omega
                case rel => exact ⟨k + 1, rfl, by omega, by go_num, HAL2.out, rfl⟩
            · obtain rfl : k = zs.length := by omega
              have hln : ¬ (zs.length : Int) < (zs.length : Int) := by omega
              have HALT : Hid (zs.all (fun z => inB z fr) = true) := by show _ = _; rw [← HAL.out, all_end]
              clear HAL HK
              have HR2 : Hid (ff = r) := by
                have h1 := HR.out
                rw [HALT.out, Bool.true_and] at h1
                exact h1
              have HR3 := Lib.hid (HFF.out.trans HR2.out)
              clear HR hlt hk uf3 HFF HR2
              obtain ⟨we, hwe⟩ : ∃ we, we = wr := ⟨_, rfl⟩
              subst hwe
              have uc0 : we.cell? ⟨w.heap.size, 0, none⟩ = some (.slice q0.A nT q0.cap) := (HXC.out.below HBW.out HXC.out.lt).cell 0
              have uc1 : we.cell? ⟨w.heap.size, 1, none⟩ = some (.slice q1.A nN q1.cap) := (HXC.out.below HBW.out HXC.out.lt).cell 1
              have uc2 : we.cell? ⟨w.heap.size, 2, none⟩ = some (.slice A2 fns.length c2) := (HXC.out.below HBW.out HXC.out.lt).cell 2
              have uc3 : we.cell? ⟨w.heap.size, 3, none⟩ = some (.slice A3 acs.length c3) := (HXC.out.below HBW.out HXC.out.lt).cell 3
              have uc4 : we.cell? ⟨w.heap.size, 4, none⟩ = some (.slice A4 ims.length c4) := (HXC.out.below HBW.out HXC.out.lt).cell 4
              have uc5 : we.cell? ⟨w.heap.size, 5, none⟩ = some (.slice A5 mks.length c5) := (HXC.out.below HBW.out HXC.out.lt).cell 5
              have uc6 : we.cell? ⟨w.heap.size, 6, none⟩ = some (.slice A6 pats.length c6) := (HXC.out.below HBW.out HXC.out.lt).cell 6
              have ui0 : we.cell? ⟨w.heap.size + 2, 0, none⟩ = some (.int .i64 op) := (HXI.out.below HBW.out HXI.out.lt).cell 0
              have ui1 : we.cell? ⟨w.heap.size + 2, 1, none⟩ = some (.int .i64 a) := (HXI.out.below HBW.out HXI.out.lt).cell 1
              have ui2 : we.cell? ⟨w.heap.size + 2, 2, none⟩ = some (.int .i64 b) := (HXI.out.below HBW.out HXI.out.lt).cell 2
              have ui3 : we.cell? ⟨w.heap.size + 2, 3, none⟩ = some (.int .i64 c) := (HXI.out.below HBW.out HXI.out.lt).cell 3
              have ui4 : we.cell? ⟨w.heap.size + 2, 4, none⟩ = some (.slice A args.length cap) := (HXI.out.below HBW.out HXI.out.lt).cell 4
              have HAS1 := HAS.out.1
              clear HAS HZR
              unfold fieldsF at HR3
              dsimp only at HR3
              go_upto_region 25 with fail
              have HAO : Hid (armsOkF pats ⟨op, a, b, c, A, cap, args⟩ = ((gatF (armArgs ⟨op, a, b, c, A, cap, args⟩)).isSome && inB b pats.length && armsFit (gatL (armArgs ⟨op, a, b, c, A, cap, args⟩)) (pats.getD b.toNat []))) := rfl
              have HROW : Hid (Row we B A (ints args)) := HOK.out.row.below (HBWW.out.mono hB)
              have HCAP := Lib.hid HOK.out.cap
              have e1 : (op == 1) = false := by rcases HOP.out with h | h <;> simp [h]
              have e5 : (op == 5) = false := by rcases HOP.out with h | h <;> simp [h]
              have e6 : (op == 6) = false := by rcases HOP.out with h | h <;> simp [h]
              have e7 : (op == 7) = false := by rcases HOP.out with h | h <;> simp [h]
              have e8 : (op == 8) = false := by rcases HOP.out with h | h <;> simp [h]
              have e10 : (op == 10) = false := by rcases HOP.out with h | h <;> simp [h]
              have e12 : (op == 12) = false := by rcases HOP.out with h | h <;> simp [h]
              have e17 : (op == 17) = false := by rcases HOP.out with h | h <;> simp [h]
              have e27 : (op == 27) = false := by rcases HOP.out with h | h <;> simp [h]
              have HCP2 := Lib.hid HOK.out.len
              obtain ⟨q16, h16⟩ : ∃ q, (op == 16) = q := ⟨_, rfl⟩
              have HQ16 := Lib.hid h16
              clear h16
              have k11 : (op == 11) = !q16 := by
                rw [← HQ16.out]
                rcases HOP.out with h | h <;> rw [h] <;> rfl
              go_upto_if 226 with fail
              go_cut [226] from 226 to 228 (fun v wx => v = .bool true ∧ we = wx)
              case first =>
                cases q16 with
                | false =>
                  go_wp2_with fail
                  go_meet
                  exact ⟨rfl, rfl⟩
                | true =>
                  have k2 : (op == 16) = true := HQ16.out
                  go_wp2_with fail
                  go_meet
                  exact ⟨rfl, rfl⟩
              case rest =>
              obtain ⟨rfl, rfl⟩ := hcut
              clear e1 e5 e6 e7 e8 e10 e12 e17 e27 k11
              have k16 : (op == 16) = q16 := HQ16.out
              go_upto_if 233 with fail
              go_cut [17] from 234 to 258 (fun v wx => ∃ A7 c7, v = .slice A7 (armArgs ⟨op, a, b, c, A, cap, args⟩).length c7 ∧ Row we B A7 (ints (armArgs ⟨op, a, b, c, A, cap, args⟩)) ∧ armsOkF pats ⟨op, a, b, c, A, cap, args⟩ = r ∧ ∃ m, we.drewN m = wx)
              case first =>
                cases q16 with
                | false =>
                  have h11 : op = 11 := by rcases HOP.out with h | h; exact h; exact absurd (by rw [h]; rfl : (op == 16) = true) (by rw [HQ16.out]; simp)
                  have HAA : Hid (armArgs ⟨op, a, b, c, A, cap, args⟩ = args) := by show _ = _; unfold armArgs; rw [if_neg (by intro h; dsimp only at h; omega)]
                  have HRE : Hid (armsOkF pats ⟨op, a, b, c, A, cap, args⟩ = r) := by show _ = _; rw [← HR3.out]; simp [h11]
                  clear h11 HR3 HAO
                  go_wp2_with fail
                  go_meet
                  exact ⟨A, cap, by rw [HAA.out], by rw [HAA.out]; exact HROW.out, HRE.out, 0, rfl⟩
                | true =>
                  have h16 : op = 16 := by have := HQ16.out; simpa using this
                  subst h16
                  have HRE : Hid ((decide (0 < args.length) && decide (-1 ≤ c) && decide (-1 ≤ hd0 ⟨16, a, b, c, A, cap, args⟩) && (decide (c < 0) == decide (hd0 ⟨16, a, b, c, A, cap, args⟩ < 0)) && armsOkF pats ⟨16, a, b, c, A, cap, args⟩) = r) := by show _ = _; rw [← HR3.out]; simp
                  clear HR3 HAO HVS HOK HCP2
                  rcases args with _ | ⟨z, zs'⟩
                  · have HRV : Hid (r = false) := by show _ = _; rw [← HRE.out]; rfl
                    have n0 : (([] : List Int).length : Int) = 0 := rfl
                    clear HRE
                    go_upto_region 55 with fail
                    go_quiet (fail)
                    go_wp2_with fail
                    go_ret
                    exact ⟨by rw [HRV.out]; rfl, below_drewN HBWW.out _⟩
                  have HRE2 : Hid ((decide (-1 ≤ c) && decide (-1 ≤ z) && (decide (c < 0) == decide (z < 0)) && armsOkF pats ⟨16, a, b, c, A, cap, z :: zs'⟩) = r) := by show _ = _; rw [← HRE.out]; simp [hd0]
                  have HAA : Hid (armArgs ⟨16, a, b, c, A, cap, z :: zs'⟩ = zs') := rfl
                  have HCAP2 : Hid (zs'.length + 1 ≤ cap) := HCAP.out
                  obtain ⟨b1, o1, b2, o2, rfl, ht, hr⟩ := tail_lo HROW.out HCAP.out
                  have HRT := Lib.hid hr
                  obtain ⟨b3, o3, e3, _, hcc⟩ := HROW.out (by rw [ints_len]; simp)
                  injection e3 with e3
                  injection e3 with e3 e4
                  subst e3 e4
                  have y0 := hcc 0 (.int .i64 z) rfl
                  rw [Nat.add_zero] at y0
                  clear hcc hr HRE HCAP HROW
                  have hL : (z :: zs').length = zs'.length + 1 := rfl
                  have hc1 := HCAP2.out
                  have i1 : (1 : Int) ≤ (zs'.length : Int) + 1 := by omega
                  have i2 : 1 ≤ zs'.length + 1 := by omega
                  have i3 : (0 : Int) < (zs'.length : Int) + 1 := by omega
                  have i4 : ((zs'.length : Int) + 1 == 0) = false := by rw [beq_eq_false_iff_ne]; omega
                  have i5 : (((zs'.length + 1 : Nat) : Int) == 0) = false := by rw [beq_eq_false_iff_ne]; omega
                  simp only [hL] at *
                  cases d1 : decide (c < -1) with
                  | true =>
                    have f1 : c < -1 := of_decide_eq_true d1
                    have HRV : Hid (r = false) := by show _ = _; rw [← HRE2.out, decide_eq_false (show ¬ -1 ≤ c by omega)]; simp
                    clear HRE2
                    go_upto_region 55 with fail
                    go_quiet (fail)
                    go_wp2_with fail
                    go_ret
                    exact ⟨by rw [HRV.out]; rfl, below_drewN HBWW.out _⟩
                  | false =>
                  have f1 : ¬ c < -1 := of_decide_eq_false d1
                  rw [decide_eq_true (show -1 ≤ c by omega), Bool.true_and] at HRE2
                  cases d2 : decide (z < -1) with
                  | true =>
                    have f2 : z < -1 := of_decide_eq_true d2
                    have HRV : Hid (r = false) := by show _ = _; rw [← HRE2.out, decide_eq_false (show ¬ -1 ≤ z by omega)]; simp
                    clear HRE2
                    go_upto_region 55 with fail
                    go_quiet (fail)
                    go_wp2_with fail
                    go_ret
                    exact ⟨by rw [HRV.out]; rfl, below_drewN HBWW.out _⟩
                  | false =>
                  have f2 : ¬ z < -1 := of_decide_eq_false d2
                  rw [decide_eq_true (show -1 ≤ z by omega), Bool.true_and] at HRE2
                  have HCZ : Hid ((decide (c < 0) == decide (z < 0)) = !((z == -1) != (c == -1))) := by
                    show _ = _
                    rw [show decide (c < 0) = (c == -1) from by rw [Bool.eq_iff_iff]; simp; omega, show decide (z < 0) = (z == -1) from by rw [Bool.eq_iff_iff]; simp; omega]
                    cases (c == -1) <;> cases (z == -1) <;> rfl
                  rw [HCZ.out] at HRE2
                  cases g1 : (z == -1) with
                  | false =>
                    rw [g1] at HRE2
                    cases g2 : (c == -1) with
                    | false =>
                      rw [g2] at HRE2
                      have HRF : Hid (armsOkF pats ⟨16, a, b, c, some ⟨b1, o1, none⟩, cap, z :: zs'⟩ = r) := by show _ = _; rw [← HRE2.out]; rfl
                      clear HRE2
                      go_upto_region 55 with fail
                      go_quiet (fail)
                      go_wp2_with fail
                      go_meet
                      exact ⟨some ⟨b2, o2, none⟩, cap - 1, by rw [HAA.out], by rw [HAA.out]; exact HRT.out, HRF.out, _, rfl⟩
                    | true =>
                      rw [g2] at HRE2
                      have HRV : Hid (r = false) := by show _ = _; rw [← HRE2.out]; rfl
                      clear HRE2
                      go_upto_region 55 with fail
                      go_quiet (fail)
                      go_wp2_with fail
                      go_ret
                      exact ⟨by rw [HRV.out]; rfl, below_drewN HBWW.out _⟩
                  | true =>
                    rw [g1] at HRE2
                    cases g2 : (c == -1) with
                    | false =>
                      rw [g2] at HRE2
                      have HRV : Hid (r = false) := by show _ = _; rw [← HRE2.out]; rfl
                      clear HRE2
                      go_upto_region 55 with fail
                      go_quiet (fail)
                      go_wp2_with fail
                      go_ret
                      exact ⟨by rw [HRV.out]; rfl, below_drewN HBWW.out _⟩
                    | true =>
                      rw [g2] at HRE2
                      have HRF : Hid (armsOkF pats ⟨16, a, b, c, some ⟨b1, o1, none⟩, cap, z :: zs'⟩ = r) := by show _ = _; rw [← HRE2.out]; rfl
                      clear HRE2
                      go_upto_region 55 with fail
                      go_quiet (fail)
                      go_wp2_with fail
                      go_meet
                      exact ⟨some ⟨b2, o2, none⟩, cap - 1, by rw [HAA.out], by rw [HAA.out]; exact HRT.out, HRF.out, _, rfl⟩
              case rest =>
              obtain ⟨A7, c7, rfl, hrow7, hE, m, rfl⟩ := hcut
              have HLL : Hid ((armArgs ⟨op, a, b, c, A, cap, args⟩).length ≤ 1048576) := by
                show _ ≤ _
                have := HCP2.out
                unfold armArgs
                dsimp only at this ⊢
                split
                · rw [List.length_tail]; omega
                · exact this
              generalize armArgs ⟨op, a, b, c, A, cap, args⟩ = L at *
              have HRR : Hid (((gatF L).isSome && inB b pats.length && armsFit (gatL L) (pats.getD b.toNat [])) = r) := HAO.out.symm.trans hE
              have hbm := below_drewN (Below.refl we.heap.size we) m
              have HBM := Lib.hid hbm
              have hBw := HBWW.out.size
              have HSP := Lib.hid (split_any A7 c7 L B (we.drewN m) (hrow7.below (hbm.mono (Nat.le_trans hB hBw))) (Nat.le_trans (Nat.le_trans hB hBw) hbm.size) HLL.out)
              clear HR3 HAO hrow7 hE hbm hBw HROW HCAP HVS HQ16 k16 HCP2
              go_wp2_with fail
              refine HSP.out.mono ?_
              intro e w6 hg
              obtain ⟨hb6, hg⟩ := hg
              have HB6 := Lib.hid (HBM.out.trans (hb6.mono HBM.out.size))
              have HBF := Lib.hid (HBWW.out.trans (HB6.out.mono HBWW.out.size))
              cases hgt : gatF L with
              | none =>
                rw [hgt] at hg
                obtain rfl := hg
                have HRV : Hid (r = false) := by show _ = _; rw [← HRR.out, hgt]; rfl
                clear HRR hb6 hgt
                go_wp2_with fail
                go_ret
                exact ⟨by rw [HRV.out]; rfl, HBF.out⟩
              | some vs2 =>
              rw [hgt] at hg
              obtain ⟨Aa, ca, la, rfl, harms, _, _, _, _⟩ := hg
              have HGS := Lib.hid (gat_small _ _ _ hgt)
              have HRS : Hid ((inB b pats.length && armsFit vs2 (pats.getD b.toNat [])) = r) := by show _ = _; rw [← HRR.out, hgt]; unfold gatL; rw [hgt]; rfl
              have HAR2 := Lib.hid harms
              have HLV := Lib.hid harms.1
              clear HRR hgt harms hb6
              have x2 : w6.cell? ⟨w.heap.size + 2, 2, none⟩ = some (.int .i64 b) := (HXI.out.below (HBW.out.trans (HB6.out.mono HBW.out.size)) HXI.out.lt).cell 2
              have x6 : w6.cell? ⟨w.heap.size, 6, none⟩ = some (.slice A6 pats.length c6) := (HXC.out.below (HBW.out.trans (HB6.out.mono HBW.out.size)) HXC.out.lt).cell 6
              have HWQ := Lib.hid (fun w' => rin_any b pats.length w')
              cases hin : inB b pats.length with
              | false =>
                rw [hin] at HWQ HRS
                have HRV : Hid (r = false) := by show _ = _; rw [← HRS.out]; rfl
                clear HRS
                go_wp2_with fail
                refine (HWQ.out _).mono ?_
                rintro e w9 ⟨rfl, rfl⟩
                go_wp2_with fail
                go_ret
                exact ⟨by rw [HRV.out]; rfl, HBF.out⟩
              | true =>
              rw [hin] at HWQ HRS
              obtain ⟨hi0, hi1⟩ := inB_spec hin
              obtain ⟨j, rfl⟩ : ∃ j : Nat, b = (j : Int) := ⟨b.toNat, by omega⟩
              have hj : j < pats.length := by omega
              have HRT : Hid (armsFit vs2 (pats.getD j []) = r) := by show _ = _; rw [← HRS.out, Int.toNat_natCast, Bool.true_and]
              obtain ⟨ls, hls, hlr, hle⟩ := (HC.out.below (HBF.out.mono hB)).pats
              dsimp only at hls hlr hle
              have hjl : j < ls.length := by omega
              obtain ⟨p1, o1, rfl, hp1, y0⟩ := hlr.sl hjl
              obtain ⟨hl1, hl2, lp, hl3, hl4, hl5⟩ := hle j hjl
              generalize ls.getD j slc0 = s at *
              generalize pats.getD j [] = ps at *
              obtain ⟨sA, sl, sc⟩ := s
              dsimp only at y0 hl1 hl3 hl4
              subst hl1
              have HLP := Lib.hid hl3
              have HPR := Lib.hid hl4
              have HPI := Lib.hid hl5
              have HFW := Lib.hid hl2
              clear HRS hls hlr hle hl2 hl3 hl4 hl5 hin
              by_cases hlen : la.length = ps.length
              case neg =>
                have n1 : ((la.length : Int) != (ps.length : Int)) = true := by simp; omega
                have HRV : Hid (r = false) := by show _ = _; rw [← HRT.out]; exact armsFit_len _ _ (by rw [← HLV.out]; exact hlen)
                clear HRT hlen
                go_wp2_with fail
                refine (HWQ.out _).mono ?_
                rintro e w9 ⟨rfl, rfl⟩
                go_wp2_with fail
                go_ret
                exact ⟨by rw [HRV.out]; rfl, HBF.out⟩
              have n1 : ((la.length : Int) != (ps.length : Int)) = false := by simp [hlen]
              have HLE := Lib.hid hlen
              have HYC := Lib.hid y0
              have HPB : Hid (p1 < w6.heap.size) := Nat.lt_of_lt_of_le hp1 (Nat.le_trans hB HBF.out.size)
              have hvl : vs2.length ≤ 1048576 := by have := HGS.out.1; have := HLL.out; omega
              clear hlen
              go_wp2_with fail
              refine (HWQ.out _).mono ?_
              rintro e w9 ⟨rfl, rfl⟩
              go_wp2_with fail
              clear n1 HWQ x2 x6 y0
              go_loopg [289] vs2.length (fun gk i wr => ∃ k : Nat, gk = vs2.length - k ∧ k ≤ vs2.length ∧ i = .int .i64 k ∧ armsFit (vs2.drop k) (ps.drop k) = armsFit vs2 ps ∧ Below w6.heap.size w6 wr)
              case atStart => exact ⟨0, by omega, by omega, rfl, rfl, Below.refl _ _⟩
              case round =>
                obtain ⟨k, hgk, hk, rfl, hall, hbw⟩ := hrel
                have HK := Lib.hid hgk
                have HAL := Lib.hid hall
                have HBR := Lib.hid hbw
                clear hgk hall
                by_cases hlt : k < vs2.length
                · have hkl : k < la.length := by rw [HLV.out]; exact hlt
                  have hkp : k < lp.length := by rw [HLP.out, ← HLE.out]; exact hkl
                  obtain ⟨b3, o3, rfl, hb3, g0, g1⟩ := (HAR2.out.2.1.below hbw).ar hkl arc0
                  have e1 := (HAR2.out.2.2 k hkl).2.1
                  have hkps : k < ps.length := by rw [← HLE.out]; exact hkl
                  obtain ⟨b4, o4, rfl, hb4, d0, d1, d2, d3⟩ := (HPR.out.below (hbw.mono (Nat.le_trans hB HBF.out.size))).pa hkp pac0
                  have HPX := Lib.hid ((HPI.out k hkp).below (B := B) (hbw.mono (Nat.le_trans hB HBF.out.size)) (fun _ h => h))
                  have HFS := Lib.hid (HFW.out.at hkps)
                  have HD := Lib.hid (armsFit_drop vs2 ps hlt hkps)
                  have hk1 : (k : Int) < (la.length : Int) := by omega
                  have hk2 : (k : Int) < (ps.length : Int) := by omega
                  generalize la.getD k arc0 = y at *
                  generalize lp.getD k pac0 = px at *
                  generalize vs2.getD k arv0 = v2 at *
                  generalize ps.getD k pt0 = pt at *
                  obtain ⟨ypc, yA2, yl2, yc2⟩ := y
                  obtain ⟨pk, pn, ptx, pA, pl, pc⟩ := px
                  dsimp only at g0 g1 e1 d0 d1 d2 d3
                  subst e1
                  have hba : Below wr.heap.size wr (wr.alloc (.cells #[.int .i64 ypc, .slice yA2 v2.2.length yc2] 60)) := (Below.refl _ _).alloc (Nat.le_refl _) _
                  have hxa := Box.new wr 60 #[.int .i64 ypc, .slice yA2 v2.2.length yc2]
                  have HXA := Lib.hid hxa
                  have HBA := Lib.hid (hbw.trans (hba.mono hbw.size))
                  have HDM : Hid (∀ w', Below (wr.alloc (.cells #[.int .i64 ypc, .slice yA2 v2.2.length yc2] 60)).heap.size (wr.alloc (.cells #[.int .i64 ypc, .slice yA2 v2.2.length yc2] 60)) w' → w'.cell? ⟨b4, o4 + k * 4, none⟩ = some (.int .i64 pk) ∧ w'.cell? ⟨b4, o4 + k * 4 + 1, none⟩ = some (.int .i64 pn) ∧ w'.cell? ⟨b4, o4 + k * 4 + 2, none⟩ = some (.string ptx) ∧ w'.cell? ⟨b4, o4 + k * 4 + 3, none⟩ = some (.slice pA pl pc)) := fun w' hb => by
                    have hlt4 : b4 < wr.heap.size := Nat.lt_of_lt_of_le hb4 (Nat.le_trans (Nat.le_trans hB HBF.out.size) hbw.size)
                    have hkc : ∀ q : Nat, w'.cell? ⟨b4, q, none⟩ = wr.cell? ⟨b4, q, none⟩ := fun q => ((hba.trans (hb.mono hba.size)).cell (p := ⟨b4, q, none⟩) hlt4)
                    exact ⟨(hkc _).trans d0, (hkc _).trans d1, (hkc _).trans d2, (hkc _).trans d3⟩
                  have HYM : Hid (∀ w', Below (wr.alloc (.cells #[.int .i64 ypc, .slice yA2 v2.2.length yc2] 60)).heap.size (wr.alloc (.cells #[.int .i64 ypc, .slice yA2 v2.2.length yc2] 60)) w' → w'.cell? ⟨p1, o1 + j, none⟩ = some (.slice (some ⟨b4, o4, none⟩) ps.length sc)) := fun w' hb =>
                    ((HBA.out.trans (hb.mono HBA.out.size)).cell (p := ⟨p1, o1 + j, none⟩) HPB.out).trans HYC.out
                  have HBN := Lib.hid (fun w1 (hb1 : Below wr.heap.size wr w1) => rbinds_pa n ⟨pk, pn, ptx, pA, pl, pc⟩ pt B w1 (HPX.out.below (hb1.mono (Nat.le_trans (Nat.le_trans hB HBF.out.size) hbw.size)) (fun _ h => h)) (Nat.le_trans (Nat.le_trans (Nat.le_trans hB HBF.out.size) hbw.size) hb1.size) HFS.out)
                  unfold paV at HBN
                  dsimp only at HBN
                  have HBA0 := Lib.hid hba
                  clear hba hxa hbw hb3 d0 d1 d2 d3
                  go_upto_region 64 with fail
                  generalize wr.alloc (.cells #[.int .i64 ypc, .slice yA2 v2.2.length yc2] 60) = w7 at *
                  have HSK : Hid (∀ w', Below w7.heap.size w7 w' → Below w7.heap.size w7 w' ∧ w'.cell? ⟨wr.heap.size, 1, none⟩ = some (.slice yA2 v2.2.length yc2) ∧ w'.cell? ⟨w.heap.size, 6, none⟩ = some (.slice (some ⟨p1, o1, none⟩) pats.length c6) ∧ w'.cell? ⟨w.heap.size + 2, 2, none⟩ = some (.int .i64 (j : Int)) ∧ w'.cell? ⟨p1, o1 + j, none⟩ = some (.slice (some ⟨b4, o4, none⟩) ps.length sc) ∧ w'.cell? ⟨b4, o4 + k * 4, none⟩ = some (.int .i64 pk) ∧ w'.cell? ⟨b4, o4 + k * 4 + 1, none⟩ = some (.int .i64 pn) ∧ w'.cell? ⟨b4, o4 + k * 4 + 2, none⟩ = some (.string ptx) ∧ w'.cell? ⟨b4, o4 + k * 4 + 3, none⟩ = some (.slice pA pl pc)) := fun w' hb => ⟨hb, (HXA.out.below hb HXA.out.lt).cell 1, (HXC.out.below (HBW.out.trans (((HB6.out.trans (HBA.out.mono HB6.out.size)).trans (hb.mono ((HB6.out.trans (HBA.out.mono HB6.out.size)).size))).mono HBW.out.size)) HXC.out.lt).cell 6, (HXI.out.below (HBW.out.trans (((HB6.out.trans (HBA.out.mono HB6.out.size)).trans (hb.mono ((HB6.out.trans (HBA.out.mono HB6.out.size)).size))).mono HBW.out.size)) HXI.out.lt).cell 2, HYM.out _ hb, HDM.out _ hb⟩
                  have hbk0 := Below.refl w7.heap.size w7
                  clear g0 g1
                  go_cut [307] from 294 to 307 (fun v wx => v = .bool (!(decide (v2.2.length = pt.bn))) ∧ Below w7.heap.size w7 wx)
                  case first =>
                    go_region_held3 (fun w' => Below w7.heap.size w7 w' ∧ w'.cell? ⟨wr.heap.size, 1, none⟩ = some (.slice yA2 v2.2.length yc2) ∧ w'.cell? ⟨w.heap.size, 6, none⟩ = some (.slice (some ⟨p1, o1, none⟩) pats.length c6) ∧ w'.cell? ⟨w.heap.size + 2, 2, none⟩ = some (.int .i64 (j : Int)) ∧ w'.cell? ⟨p1, o1 + j, none⟩ = some (.slice (some ⟨b4, o4, none⟩) ps.length sc) ∧ w'.cell? ⟨b4, o4 + k * 4, none⟩ = some (.int .i64 pk) ∧ w'.cell? ⟨b4, o4 + k * 4 + 1, none⟩ = some (.int .i64 pn) ∧ w'.cell? ⟨b4, o4 + k * 4 + 2, none⟩ = some (.string ptx) ∧ w'.cell? ⟨b4, o4 + k * 4 + 3, none⟩ = some (.slice pA pl pc))
                      ((first
                        | with_reducible exact HSK.out _ hbk
                        | with_reducible exact HSK.out _ (below_drewK hbk0)
                        | go_keep))
                      ((first
                        | (go_at_call 18; refine (HBN.out _ (HBA0.out.trans ((show Below w7.heap.size w7 _ ∧ _ by assumption).1.mono HBA0.out.size))).mono ?_; rintro e wk ⟨rfl, hbw⟩; have hbk := (show Below w7.heap.size w7 _ ∧ _ by assumption).1.trans (hbw.mono (show Below w7.heap.size w7 _ ∧ _ by assumption).1.size); clear hbw)
                        | fail))
                    all_goals (
                      have HBK := Lib.hid hbk
                      clear hbk hbk0
                      (try go_wp2_with fail)
                      go_meet
                      exact ⟨by rw [show ((v2.2.length : Int) != ((pt.bn : Nat) : Int)) = !(decide (v2.2.length = pt.bn)) from by by_cases e : v2.2.length = pt.bn <;> simp [e] <;> omega], HBK.out⟩)
                  case rest =>
                  obtain ⟨rfl, hb8⟩ := hcut
                  have HB8 := Lib.hid (HBA.out.trans (hb8.mono HBA.out.size))
                  have HB8w := Lib.hid (HBF.out.trans (HB8.out.mono HBF.out.size))
                  clear hb8 hbk0
                  cases q2 : decide (v2.2.length = pt.bn) with
                  | false =>
                    rw [q2] at HD
                    have HRV : Hid (r = false) := by show _ = _; rw [← HRT.out, ← HAL.out, HD.out]; rfl
                    clear HRT HAL HD
                    go_wp2_with fail
                    go_ret
                    exact ⟨by rw [HRV.out]; rfl, HB8w.out⟩
                  | true =>
                    rw [q2] at HD
                    have HAL2 : Hid (armsFit (vs2.drop (k + 1)) (ps.drop (k + 1)) = armsFit vs2 ps) := by show _ = _; rw [← HAL.out, HD.out]; rfl
                    clear HRT HAL HD
                    go_wp2_with fail
                    go_roundg (vs2.length - (k + 1))
                    case measure => have := HK.out; omega
                    case rel => exact ⟨k + 1, rfl, by omega, by go_num, HAL2.out, HB8.out⟩
                · obtain rfl : k = vs2.length := by omega
                  have hln : ¬ (vs2.length : Int) < (la.length : Int) := by have := HLV.out; omega
                  have hln2 : ¬ vs2.length < la.length := by have := HLV.out; omega
                  have HRV : Hid (r = true) := by show _ = _; rw [← HRT.out, ← HAL.out]; exact armsFit_end _ _ (by rw [← HLV.out]; exact HLE.out)
                  have HBX := Lib.hid (HBF.out.trans (hbw.mono HBF.out.size))
                  clear HRT HAL HK hbw HBR
                  go_wp2_with fail
                  go_ret
                  exact ⟨by rw [HRV.out]; rfl, HBX.out⟩

end Go.Proofs.Ythglcnodoophaaa
