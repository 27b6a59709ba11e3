
/-
  code.validFields: the instructions Call, Close and Spawn.
-/
import Derived.Test.YthglcnodoophaaaCk2
import Derived.Test.YthglcnodoophaaaIn6
import Derived.Deep.QuietTactic
import Derived.BigQuiet
namespace Go.Proofs.Ythglcnodoophaaa
open Go.RowKit

theorem within_q (i n : Int) (w : World) : Calls Try.prog 8 #[.int .i64 i, .int .i64 n] w fun e w' => e = .returned (.bool (inB i n)) ∧ w' = w :=
  (within_any i n w).mono fun _ _ ⟨h1, h2⟩ => ⟨h1, h2.symm⟩
set_option maxRecDepth 100000 in
set_option maxHeartbeats 4000000 in
theorem vf6_any (B n : Nat) (v : CkV) (P : CkP) (x : InC) (w : World) (h : CkIn w B n v P) (hok : InOk w B x) (hop : x.op = 6) :
    Calls Try.prog 24 #[.agg (ckC v P), inV x] w fun e w' => e = .returned (.bool (fieldsF P x)) ∧ Below w.heap.size w w' := by
  obtain ⟨r, hr⟩ : ∃ r, fieldsF P x = r := ⟨_, rfl⟩
  rw [hr]
  have hB := hok.hB
  have HVA := Lib.hid (fun hx w1 (hb : Below w.heap.size w w1) => validArms_any B n v P x w1 hx (h.below (hb.mono hB)) (hok.below hb))
  obtain ⟨s0, s1, s2, s3, s4, s5, s6⟩ := h.small
  have hxl := hok.len
  have HC := Lib.hid h
  have HOK := Lib.hid hok
  obtain ⟨q0, q1, A2, c2, A3, c3, A4, c4, A5, c5, A6, c6⟩ := v
  obtain ⟨nT, nN, fns, acs, ims, mks, pats⟩ := P
  obtain ⟨op, a, b, c, A, cap, args⟩ := x
  unfold fieldsF at hr
  unfold inV at HVA ⊢
  unfold ckC at HVA ⊢
  dsimp only at hop HVA s0 s1 s2 s3 s4 s5 s6 hxl hr ⊢
  have hb : Below w.heap.size w ((w.alloc (.cells #[.slice q0.A nT q0.cap, .slice q1.A nN q1.cap, .slice A2 fns.length c2, .slice A3 acs.length c3, .slice A4 ims.length c4, .slice A5 mks.length c5, .slice A6 pats.length c6] 30)).alloc (.cells #[.int .i64 op, .int .i64 a, .int .i64 b, .int .i64 c, .slice A args.length cap] 33)) := ((Below.refl _ _).alloc (Nat.le_refl _) _).alloc (by simp) _
  have hx2 := (Box.new w 30 #[.slice q0.A nT q0.cap, .slice q1.A nN q1.cap, .slice A2 fns.length c2, .slice A3 acs.length c3, .slice A4 ims.length c4, .slice A5 mks.length c5, .slice A6 pats.length c6]).alloc (.cells #[.int .i64 op, .int .i64 a, .int .i64 b, .int .i64 c, .slice A args.length cap] 33)
  have hx3 := Box.new (w.alloc (.cells #[.slice q0.A nT q0.cap, .slice q1.A nN q1.cap, .slice A2 fns.length c2, .slice A3 acs.length c3, .slice A4 ims.length c4, .slice A5 mks.length c5, .slice A6 pats.length c6] 30)) 33 #[.int .i64 op, .int .i64 a, .int .i64 b, .int .i64 c, .slice A args.length cap]
  rw [show (w.alloc (.cells #[.slice q0.A nT q0.cap, .slice q1.A nN q1.cap, .slice A2 fns.length c2, .slice A3 acs.length c3, .slice A4 ims.length c4, .slice A5 mks.length c5, .slice A6 pats.length c6] 30)).heap.size = w.heap.size + 1 by simp] at hx3
  have HOP := Lib.hid hop
  have HR := Lib.hid hr
  have HB := Lib.hid hb
  have HX2 := Lib.hid hx2
  have HX3 := Lib.hid hx3
  have HWI := Lib.hid (fun i n w' => within_any i n w')
  clear h hok hb hx2 hx3 hr hop
  go_enter Try.func24, Try.ntmps24
  go_upto_region 1 with fail
  generalize (w.alloc (.cells #[.slice q0.A nT q0.cap, .slice q1.A nN q1.cap, .slice A2 fns.length c2, .slice A3 acs.length c3, .slice A4 ims.length c4, .slice A5 mks.length c5, .slice A6 pats.length c6] 30)).alloc (.cells #[.int .i64 op, .int .i64 a, .int .i64 b, .int .i64 c, .slice A args.length cap] 33) = w1 at *
  have f0 : w1.cell? ⟨w.heap.size, 0, none⟩ = some (.slice q0.A nT q0.cap) := HX2.out.cell 0
  have f1 : w1.cell? ⟨w.heap.size, 1, none⟩ = some (.slice q1.A nN q1.cap) := HX2.out.cell 1
  have f2 : w1.cell? ⟨w.heap.size, 2, none⟩ = some (.slice A2 fns.length c2) := HX2.out.cell 2
  have f3 : w1.cell? ⟨w.heap.size, 3, none⟩ = some (.slice A3 acs.length c3) := HX2.out.cell 3
  have f4 : w1.cell? ⟨w.heap.size, 4, none⟩ = some (.slice A4 ims.length c4) := HX2.out.cell 4
  have f5 : w1.cell? ⟨w.heap.size, 5, none⟩ = some (.slice A5 mks.length c5) := HX2.out.cell 5
  have f6 : w1.cell? ⟨w.heap.size, 6, none⟩ = some (.slice A6 pats.length c6) := HX2.out.cell 6
  have g0 : w1.cell? ⟨w.heap.size + 1, 0, none⟩ = some (.int .i64 op) := HX3.out.cell 0
  have g1 : w1.cell? ⟨w.heap.size + 1, 1, none⟩ = some (.int .i64 a) := HX3.out.cell 1
  have g2 : w1.cell? ⟨w.heap.size + 1, 2, none⟩ = some (.int .i64 b) := HX3.out.cell 2
  have g3 : w1.cell? ⟨w.heap.size + 1, 3, none⟩ = some (.int .i64 c) := HX3.out.cell 3
  have g4 : w1.cell? ⟨w.heap.size + 1, 4, none⟩ = some (.slice A args.length cap) := HX3.out.cell 4
  have hop := HOP.out
  clear HOP
  subst hop
  cases hin : inB b fns.length with
  | false =>
    have HRV : Hid (r = false) := by show _ = _; rw [← HR.out]; simp [hin]
    have HWQ := Lib.hid (fun w' => within_q b fns.length w')
    rw [hin] at HWQ
    clear HR
    go_upto_region 19 with fail
    go_quiet ((go_at_call 8; exact Calls.quiet_of_same (HWQ.out _)))
    go_wp2_with fail
    go_ret
    exact ⟨by rw [HRV.out]; rfl, below_drewN HB.out _⟩
  | true =>
    have HWQ := Lib.hid (fun w' => within_q b fns.length w')
    rw [hin] at HWQ
    obtain ⟨hi0, hi1⟩ := inB_spec hin
    obtain ⟨k, rfl⟩ : ∃ k : Nat, b = (k : Int) := ⟨b.toNat, by omega⟩
    have hk : k < fns.length := by omega
    have hto : ((k : Int)).toNat = k := Int.toNat_natCast k
    obtain ⟨l, hl1, hl2, hl3⟩ := HC.out.fns
    dsimp only at hl1 hl2 hl3
    have hkl : k < l.length := by omega
    obtain ⟨b', o', rfl, hb', _, y1, y2, _, _⟩ := (hl2.below (HB.out.mono hB)).fc hkl fcc0
    have hf := hl3 k hkl
    rw [hf.hp] at y1
    rw [hf.hh] at y2
    clear hf hl1 hl2 hl3 hkl
    rw [hto] at HR
    generalize fns.getD k fnp0 = f at *
    obtain ⟨fp, fh, fr, fi⟩ := f
    dsimp only at y1 y2 HR
    cases q0 : (fh == 0) with
    | false =>
      have HRV : Hid (r = false) := by
        show _ = _
        rw [← HR.out]
        simp only [beq_eq_false_iff_ne] at q0
        simp [hin, q0]
      clear HR hin
      go_upto_region 19 with fail
      go_quiet ((go_at_call 8; exact Calls.quiet_of_same (HWQ.out _)))
      go_wp2_with fail
      go_ret
      exact ⟨by rw [HRV.out]; rfl, below_drewN HB.out _⟩

    | true =>
      cases q1 : (fp == (args.length : Int)) with
      | false =>
        have HRV : Hid (r = false) := by
          show _ = _
          rw [← HR.out]
          simp only [beq_iff_eq] at q0
          simp only [beq_eq_false_iff_ne] at q1
          simp [hin, q0, q1]
        clear HR hin
        go_upto_region 19 with fail
        go_quiet ((go_at_call 8; exact Calls.quiet_of_same (HWQ.out _)))
        go_wp2_with fail
        go_ret
        exact ⟨by rw [HRV.out]; rfl, below_drewN HB.out _⟩

      | true =>
        have HRV : Hid (r = true) := by
          show _ = _
          rw [← HR.out]
          simp only [beq_iff_eq] at q0
          simp only [beq_iff_eq] at q1
          simp [hin, q0, q1]
        clear HR hin
        go_upto_region 19 with fail
        go_quiet ((go_at_call 8; exact Calls.quiet_of_same (HWQ.out _)))
        go_wp2_with fail
        go_ret
        exact ⟨by rw [HRV.out]; rfl, below_drewN HB.out _⟩

set_option maxRecDepth 100000 in
set_option maxHeartbeats 4000000 in
theorem vf8_any (B n : Nat) (v : CkV) (P : CkP) (x : InC) (w : World) (h : CkIn w B n v P) (hok : InOk w B x) (hop : x.op = 8) :
    Calls Try.prog 24 #[.agg (ckC v P), inV x] w fun e w' => e = .returned (.bool (fieldsF P x)) ∧ Below w.heap.size w w' := by
  obtain ⟨r, hr⟩ : ∃ r, fieldsF P x = r := ⟨_, rfl⟩
  rw [hr]
  have hB := hok.hB
  have HVA := Lib.hid (fun hx w1 (hb : Below w.heap.size w w1) => validArms_any B n v P x w1 hx (h.below (hb.mono hB)) (hok.below hb))
  obtain ⟨s0, s1, s2, s3, s4, s5, s6⟩ := h.small
  have hxl := hok.len
  have HC := Lib.hid h
  have HOK := Lib.hid hok
  obtain ⟨q0, q1, A2, c2, A3, c3, A4, c4, A5, c5, A6, c6⟩ := v
  obtain ⟨nT, nN, fns, acs, ims, mks, pats⟩ := P
  obtain ⟨op, a, b, c, A, cap, args⟩ := x
  unfold fieldsF at hr
  unfold inV at HVA ⊢
  unfold ckC at HVA ⊢
  dsimp only at hop HVA s0 s1 s2 s3 s4 s5 s6 hxl hr ⊢
  have hb : Below w.heap.size w ((w.alloc (.cells #[.slice q0.A nT q0.cap, .slice q1.A nN q1.cap, .slice A2 fns.length c2, .slice A3 acs.length c3, .slice A4 ims.length c4, .slice A5 mks.length c5, .slice A6 pats.length c6] 30)).alloc (.cells #[.int .i64 op, .int .i64 a, .int .i64 b, .int .i64 c, .slice A args.length cap] 33)) := ((Below.refl _ _).alloc (Nat.le_refl _) _).alloc (by simp) _
  have hx2 := (Box.new w 30 #[.slice q0.A nT q0.cap, .slice q1.A nN q1.cap, .slice A2 fns.length c2, .slice A3 acs.length c3, .slice A4 ims.length c4, .slice A5 mks.length c5, .slice A6 pats.length c6]).alloc (.cells #[.int .i64 op, .int .i64 a, .int .i64 b, .int .i64 c, .slice A args.length cap] 33)
  have hx3 := Box.new (w.alloc (.cells #[.slice q0.A nT q0.cap, .slice q1.A nN q1.cap, .slice A2 fns.length c2, .slice A3 acs.length c3, .slice A4 ims.length c4, .slice A5 mks.length c5, .slice A6 pats.length c6] 30)) 33 #[.int .i64 op, .int .i64 a, .int .i64 b, .int .i64 c, .slice A args.length cap]
  rw [show (w.alloc (.cells #[.slice q0.A nT q0.cap, .slice q1.A nN q1.cap, .slice A2 fns.length c2, .slice A3 acs.length c3, .slice A4 ims.length c4, .slice A5 mks.length c5, .slice A6 pats.length c6] 30)).heap.size = w.heap.size + 1 by simp] at hx3
  have HOP := Lib.hid hop
  have HR := Lib.hid hr
  have HB := Lib.hid hb
  have HX2 := Lib.hid hx2
  have HX3 := Lib.hid hx3
  have HWI := Lib.hid (fun i n w' => within_any i n w')
  clear h hok hb hx2 hx3 hr hop
  go_enter Try.func24, Try.ntmps24
  go_upto_region 1 with fail
  generalize (w.alloc (.cells #[.slice q0.A nT q0.cap, .slice q1.A nN q1.cap, .slice A2 fns.length c2, .slice A3 acs.length c3, .slice A4 ims.length c4, .slice A5 mks.length c5, .slice A6 pats.length c6] 30)).alloc (.cells #[.int .i64 op, .int .i64 a, .int .i64 b, .int .i64 c, .slice A args.length cap] 33) = w1 at *
  have f0 : w1.cell? ⟨w.heap.size, 0, none⟩ = some (.slice q0.A nT q0.cap) := HX2.out.cell 0
  have f1 : w1.cell? ⟨w.heap.size, 1, none⟩ = some (.slice q1.A nN q1.cap) := HX2.out.cell 1
  have f2 : w1.cell? ⟨w.heap.size, 2, none⟩ = some (.slice A2 fns.length c2) := HX2.out.cell 2
  have f3 : w1.cell? ⟨w.heap.size, 3, none⟩ = some (.slice A3 acs.length c3) := HX2.out.cell 3
  have f4 : w1.cell? ⟨w.heap.size, 4, none⟩ = some (.slice A4 ims.length c4) := HX2.out.cell 4
  have f5 : w1.cell? ⟨w.heap.size, 5, none⟩ = some (.slice A5 mks.length c5) := HX2.out.cell 5
  have f6 : w1.cell? ⟨w.heap.size, 6, none⟩ = some (.slice A6 pats.length c6) := HX2.out.cell 6
  have g0 : w1.cell? ⟨w.heap.size + 1, 0, none⟩ = some (.int .i64 op) := HX3.out.cell 0
  have g1 : w1.cell? ⟨w.heap.size + 1, 1, none⟩ = some (.int .i64 a) := HX3.out.cell 1
  have g2 : w1.cell? ⟨w.heap.size + 1, 2, none⟩ = some (.int .i64 b) := HX3.out.cell 2
  have g3 : w1.cell? ⟨w.heap.size + 1, 3, none⟩ = some (.int .i64 c) := HX3.out.cell 3
  have g4 : w1.cell? ⟨w.heap.size + 1, 4, none⟩ = some (.slice A args.length cap) := HX3.out.cell 4
  have hop := HOP.out
  clear HOP
  subst hop
  cases hin : inB b fns.length with
  | false =>
    have HRV : Hid (r = false) := by show _ = _; rw [← HR.out]; simp [hin]
    have HWQ := Lib.hid (fun w' => within_q b fns.length w')
    rw [hin] at HWQ
    clear HR
    go_upto_region 21 with fail
    go_quiet ((go_at_call 8; exact Calls.quiet_of_same (HWQ.out _)))
    go_wp2_with fail
    go_ret
    exact ⟨by rw [HRV.out]; rfl, below_drewN HB.out _⟩
  | true =>
    have HWQ := Lib.hid (fun w' => within_q b fns.length w')
    rw [hin] at HWQ
    obtain ⟨hi0, hi1⟩ := inB_spec hin
    obtain ⟨k, rfl⟩ : ∃ k : Nat, b = (k : Int) := ⟨b.toNat, by omega⟩
    have hk : k < fns.length := by omega
    have hto : ((k : Int)).toNat = k := Int.toNat_natCast k
    obtain ⟨l, hl1, hl2, hl3⟩ := HC.out.fns
    dsimp only at hl1 hl2 hl3
    have hkl : k < l.length := by omega
    obtain ⟨b', o', rfl, hb', _, y1, y2, _, _⟩ := (hl2.below (HB.out.mono hB)).fc hkl fcc0
    have hf := hl3 k hkl
    rw [hf.hp] at y1
    rw [hf.hh] at y2
    clear hf hl1 hl2 hl3 hkl
    rw [hto] at HR
    generalize fns.getD k fnp0 = f at *
    obtain ⟨fp, fh, fr, fi⟩ := f
    dsimp only at y1 y2 HR
    cases q0 : (fh == (args.length : Int)) with
    | false =>
      have HRV : Hid (r = false) := by
        show _ = _
        rw [← HR.out]
        simp only [beq_eq_false_iff_ne] at q0
        simp [hin, q0]
      clear HR hin
      go_upto_region 21 with fail
      go_quiet ((go_at_call 8; exact Calls.quiet_of_same (HWQ.out _)))
      go_wp2_with fail
      go_ret
      exact ⟨by rw [HRV.out]; rfl, below_drewN HB.out _⟩

    | true =>
      have HRV : Hid (r = true) := by
        show _ = _
        rw [← HR.out]
        simp only [beq_iff_eq] at q0
        simp [hin, q0]
      clear HR hin
      go_upto_region 21 with fail
      go_quiet ((go_at_call 8; exact Calls.quiet_of_same (HWQ.out _)))
      go_wp2_with fail
      go_ret
      exact ⟨by rw [HRV.out]; rfl, below_drewN HB.out _⟩

set_option maxRecDepth 100000 in
set_option maxHeartbeats 4000000 in
theorem vf12_any (B n : Nat) (v : CkV) (P : CkP) (x : InC) (w : World) (h : CkIn w B n v P) (hok : InOk w B x) (hop : x.op = 12) :
    Calls Try.prog 24 #[.agg (ckC v P), inV x] w fun e w' => e = .returned (.bool (fieldsF P x)) ∧ Below w.heap.size w w' := by
  obtain ⟨r, hr⟩ : ∃ r, fieldsF P x = r := ⟨_, rfl⟩
  rw [hr]
  have hB := hok.hB
  have HVA := Lib.hid (fun hx w1 (hb : Below w.heap.size w w1) => validArms_any B n v P x w1 hx (h.below (hb.mono hB)) (hok.below hb))
  obtain ⟨s0, s1, s2, s3, s4, s5, s6⟩ := h.small
  have hxl := hok.len
  have HC := Lib.hid h
  have HOK := Lib.hid hok
  obtain ⟨q0, q1, A2, c2, A3, c3, A4, c4, A5, c5, A6, c6⟩ := v
  obtain ⟨nT, nN, fns, acs, ims, mks, pats⟩ := P
  obtain ⟨op, a, b, c, A, cap, args⟩ := x
  unfold fieldsF at hr
  unfold inV at HVA ⊢
  unfold ckC at HVA ⊢
  dsimp only at hop HVA s0 s1 s2 s3 s4 s5 s6 hxl hr ⊢
  have hb : Below w.heap.size w ((w.alloc (.cells #[.slice q0.A nT q0.cap, .slice q1.A nN q1.cap, .slice A2 fns.length c2, .slice A3 acs.length c3, .slice A4 ims.length c4, .slice A5 mks.length c5, .slice A6 pats.length c6] 30)).alloc (.cells #[.int .i64 op, .int .i64 a, .int .i64 b, .int .i64 c, .slice A args.length cap] 33)) := ((Below.refl _ _).alloc (Nat.le_refl _) _).alloc (by simp) _
  have hx2 := (Box.new w 30 #[.slice q0.A nT q0.cap, .slice q1.A nN q1.cap, .slice A2 fns.length c2, .slice A3 acs.length c3, .slice A4 ims.length c4, .slice A5 mks.length c5, .slice A6 pats.length c6]).alloc (.cells #[.int .i64 op, .int .i64 a, .int .i64 b, .int .i64 c, .slice A args.length cap] 33)
  have hx3 := Box.new (w.alloc (.cells #[.slice q0.A nT q0.cap, .slice q1.A nN q1.cap, .slice A2 fns.length c2, .slice A3 acs.length c3, .slice A4 ims.length c4, .slice A5 mks.length c5, .slice A6 pats.length c6] 30)) 33 #[.int .i64 op, .int .i64 a, .int .i64 b, .int .i64 c, .slice A args.length cap]
  rw [show (w.alloc (.cells #[.slice q0.A nT q0.cap, .slice q1.A nN q1.cap, .slice A2 fns.length c2, .slice A3 acs.length c3, .slice A4 ims.length c4, .slice A5 mks.length c5, .slice A6 pats.length c6] 30)).heap.size = w.heap.size + 1 by simp] at hx3
  have HOP := Lib.hid hop
  have HR := Lib.hid hr
  have HB := Lib.hid hb
  have HX2 := Lib.hid hx2
  have HX3 := Lib.hid hx3
  have HWI := Lib.hid (fun i n w' => within_any i n w')
  clear h hok hb hx2 hx3 hr hop
  go_enter Try.func24, Try.ntmps24
  go_upto_region 1 with fail
  generalize (w.alloc (.cells #[.slice q0.A nT q0.cap, .slice q1.A nN q1.cap, .slice A2 fns.length c2, .slice A3 acs.length c3, .slice A4 ims.length c4, .slice A5 mks.length c5, .slice A6 pats.length c6] 30)).alloc (.cells #[.int .i64 op, .int .i64 a, .int .i64 b, .int .i64 c, .slice A args.length cap] 33) = w1 at *
  have f0 : w1.cell? ⟨w.heap.size, 0, none⟩ = some (.slice q0.A nT q0.cap) := HX2.out.cell 0
  have f1 : w1.cell? ⟨w.heap.size, 1, none⟩ = some (.slice q1.A nN q1.cap) := HX2.out.cell 1
  have f2 : w1.cell? ⟨w.heap.size, 2, none⟩ = some (.slice A2 fns.length c2) := HX2.out.cell 2
  have f3 : w1.cell? ⟨w.heap.size, 3, none⟩ = some (.slice A3 acs.length c3) := HX2.out.cell 3
  have f4 : w1.cell? ⟨w.heap.size, 4, none⟩ = some (.slice A4 ims.length c4) := HX2.out.cell 4
  have f5 : w1.cell? ⟨w.heap.size, 5, none⟩ = some (.slice A5 mks.length c5) := HX2.out.cell 5
  have f6 : w1.cell? ⟨w.heap.size, 6, none⟩ = some (.slice A6 pats.length c6) := HX2.out.cell 6
  have g0 : w1.cell? ⟨w.heap.size + 1, 0, none⟩ = some (.int .i64 op) := HX3.out.cell 0
  have g1 : w1.cell? ⟨w.heap.size + 1, 1, none⟩ = some (.int .i64 a) := HX3.out.cell 1
  have g2 : w1.cell? ⟨w.heap.size + 1, 2, none⟩ = some (.int .i64 b) := HX3.out.cell 2
  have g3 : w1.cell? ⟨w.heap.size + 1, 3, none⟩ = some (.int .i64 c) := HX3.out.cell 3
  have g4 : w1.cell? ⟨w.heap.size + 1, 4, none⟩ = some (.slice A args.length cap) := HX3.out.cell 4
  have hop := HOP.out
  clear HOP
  subst hop
  cases hin : inB b acs.length with
  | false =>
    have HRV : Hid (r = false) := by show _ = _; rw [← HR.out]; simp [hin]
    have HWQ := Lib.hid (fun w' => within_q b acs.length w')
    rw [hin] at HWQ
    clear HR
    go_upto_region 29 with fail
    go_quiet ((go_at_call 8; exact Calls.quiet_of_same (HWQ.out _)))
    go_wp2_with fail
    go_ret
    exact ⟨by rw [HRV.out]; rfl, below_drewN HB.out _⟩
  | true =>
    have HWQ := Lib.hid (fun w' => within_q b acs.length w')
    rw [hin] at HWQ
    obtain ⟨hi0, hi1⟩ := inB_spec hin
    obtain ⟨k, rfl⟩ : ∃ k : Nat, b = (k : Int) := ⟨b.toNat, by omega⟩
    have hk : k < acs.length := by omega
    have hto : ((k : Int)).toNat = k := Int.toNat_natCast k
    obtain ⟨b', o', rfl, hb', _, y1, _, _⟩ := (HC.out.acs.below (HB.out.mono hB)).ac hk acc0
    dsimp only at y1
    rw [hto] at HR
    generalize acs.getD k acc0 = f at *
    obtain ⟨fn, fs, ff, ft⟩ := f
    dsimp only at y1 HR
    cases q0 : (fs == (args.length : Int)) with
    | false =>
      have HRV : Hid (r = false) := by
        show _ = _
        rw [← HR.out]
        simp only [beq_eq_false_iff_ne] at q0
        simp [hin, q0]
      clear HR hin
      go_upto_region 29 with fail
      go_quiet ((go_at_call 8; exact Calls.quiet_of_same (HWQ.out _)))
      go_wp2_with fail
      go_ret
      exact ⟨by rw [HRV.out]; rfl, below_drewN HB.out _⟩

    | true =>
      have HRV : Hid (r = true) := by
        show _ = _
        rw [← HR.out]
        simp only [beq_iff_eq] at q0
        simp [hin, q0]
      clear HR hin
      go_upto_region 29 with fail
      go_quiet ((go_at_call 8; exact Calls.quiet_of_same (HWQ.out _)))
      go_wp2_with fail
      go_ret
      exact ⟨by rw [HRV.out]; rfl, below_drewN HB.out _⟩

end Go.Proofs.Ythglcnodoophaaa
