
/-
  code.validFields.
-/
import Derived.Test.YthglcnodoophaaaCk2
import Derived.Test.YthglcnodoophaaaIn6
import Derived.Deep.QuietTactic
import Derived.BigQuiet
import Derived.Test.YthglcnodoophaaaCk3a
import Derived.Test.YthglcnodoophaaaCk3b
import Derived.Deep.RegionHeld3
namespace Go.Proofs.Ythglcnodoophaaa
open Go.RowKit

set_option maxRecDepth 100000 in
set_option maxHeartbeats 4000000 in
theorem vf7_any (B n : Nat) (v : CkV) (P : CkP) (x : InC) (w : World) (h : CkIn w B n v P) (hok : InOk w B x) (hop : x.op = 7) :
    Calls Try.prog 24 #[.agg (ckC v P), inV x] w fun e w' => e = .returned (.bool (fieldsF P x)) ∧ Below w.heap.size w w' := by
  obtain ⟨r, hr⟩ : ∃ r, fieldsF P x = r := ⟨_, rfl⟩
  rw [hr]
  have hB := hok.hB
  have HVA := Lib.hid (fun hx w1 (hb : Below w.heap.size w w1) => validArms_any B n v P x w1 hx (h.below (hb.mono hB)) (hok.below hb))
  obtain ⟨s0, s1, s2, s3, s4, s5, s6⟩ := h.small
  have hxl := hok.len
  have HC := Lib.hid h
  have HOK := Lib.hid hok
  obtain ⟨q0, q1, A2, c2, A3, c3, A4, c4, A5, c5, A6, c6⟩ := v
  obtain ⟨nT, nN, fns, acs, ims, mks, pats⟩ := P
  obtain ⟨op, a, b, c, A, cap, args⟩ := x
  unfold fieldsF at hr
  unfold inV at HVA ⊢
  unfold ckC at HVA ⊢
  dsimp only at hop HVA s0 s1 s2 s3 s4 s5 s6 hxl hr ⊢
  have hb : Below w.heap.size w ((w.alloc (.cells #[.slice q0.A nT q0.cap, .slice q1.A nN q1.cap, .slice A2 fns.length c2, .slice A3 acs.length c3, .slice A4 ims.length c4, .slice A5 mks.length c5, .slice A6 pats.length c6] 30)).alloc (.cells #[.int .i64 op, .int .i64 a, .int .i64 b, .int .i64 c, .slice A args.length cap] 33)) := ((Below.refl _ _).alloc (Nat.le_refl _) _).alloc (by simp) _
  have hx2 := (Box.new w 30 #[.slice q0.A nT q0.cap, .slice q1.A nN q1.cap, .slice A2 fns.length c2, .slice A3 acs.length c3, .slice A4 ims.length c4, .slice A5 mks.length c5, .slice A6 pats.length c6]).alloc (.cells #[.int .i64 op, .int .i64 a, .int .i64 b, .int .i64 c, .slice A args.length cap] 33)
  have hx3 := Box.new (w.alloc (.cells #[.slice q0.A nT q0.cap, .slice q1.A nN q1.cap, .slice A2 fns.length c2, .slice A3 acs.length c3, .slice A4 ims.length c4, .slice A5 mks.length c5, .slice A6 pats.length c6] 30)) 33 #[.int .i64 op, .int .i64 a, .int .i64 b, .int .i64 c, .slice A args.length cap]
  rw [show (w.alloc (.cells #[.slice q0.A nT q0.cap, .slice q1.A nN q1.cap, .slice A2 fns.length c2, .slice A3 acs.length c3, .slice A4 ims.length c4, .slice A5 mks.length c5, .slice A6 pats.length c6] 30)).heap.size = w.heap.size + 1 by simp] at hx3
  have HOP := Lib.hid hop
  have HR := Lib.hid hr
  have HB := Lib.hid hb
  have HX2 := Lib.hid hx2
  have HX3 := Lib.hid hx3
  have HWI := Lib.hid (fun i n w' => within_any i n w')
  clear h hok hb hx2 hx3 hr hop
  go_enter Try.func24, Try.ntmps24
  go_upto_region 1 with fail
  generalize (w.alloc (.cells #[.slice q0.A nT q0.cap, .slice q1.A nN q1.cap, .slice A2 fns.length c2, .slice A3 acs.length c3, .slice A4 ims.length c4, .slice A5 mks.length c5, .slice A6 pats.length c6] 30)).alloc (.cells #[.int .i64 op, .int .i64 a, .int .i64 b, .int .i64 c, .slice A args.length cap] 33) = w1 at *
  have f0 : w1.cell? ⟨w.heap.size, 0, none⟩ = some (.slice q0.A nT q0.cap) := HX2.out.cell 0
  have f1 : w1.cell? ⟨w.heap.size, 1, none⟩ = some (.slice q1.A nN q1.cap) := HX2.out.cell 1
  have f2 : w1.cell? ⟨w.heap.size, 2, none⟩ = some (.slice A2 fns.length c2) := HX2.out.cell 2
  have f3 : w1.cell? ⟨w.heap.size, 3, none⟩ = some (.slice A3 acs.length c3) := HX2.out.cell 3
  have f4 : w1.cell? ⟨w.heap.size, 4, none⟩ = some (.slice A4 ims.length c4) := HX2.out.cell 4
  have f5 : w1.cell? ⟨w.heap.size, 5, none⟩ = some (.slice A5 mks.length c5) := HX2.out.cell 5
  have f6 : w1.cell? ⟨w.heap.size, 6, none⟩ = some (.slice A6 pats.length c6) := HX2.out.cell 6
  have g0 : w1.cell? ⟨w.heap.size + 1, 0, none⟩ = some (.int .i64 op) := HX3.out.cell 0
  have g1 : w1.cell? ⟨w.heap.size + 1, 1, none⟩ = some (.int .i64 a) := HX3.out.cell 1
  have g2 : w1.cell? ⟨w.heap.size + 1, 2, none⟩ = some (.int .i64 b) := HX3.out.cell 2
  have g3 : w1.cell? ⟨w.heap.size + 1, 3, none⟩ = some (.int .i64 c) := HX3.out.cell 3
  have g4 : w1.cell? ⟨w.heap.size + 1, 4, none⟩ = some (.slice A args.length cap) := HX3.out.cell 4
  have hop := HOP.out
  clear HOP
  subst hop
  have HWT := Lib.hid (fun w' => within_any b nT w')
  cases hin : inB b nT with
  | false =>
    rw [hin] at HWT
    have HRV : Hid (r = false) := by show _ = _; rw [← HR.out]; simp [hin]
    clear HR
    go_wp2_with fail
    refine (HWT.out _).mono ?_
    rintro e w3 ⟨rfl, rfl⟩
    go_wp2_with fail
    go_ret
    exact ⟨by rw [HRV.out]; rfl, HB.out⟩
  | true =>
    rw [hin] at HWT
    by_cases la : 0 < args.length
    · have la1 : (0 : Int) < (args.length : Int) := by omega
      have la2 : decide ((args.length : Int) > 0) = true := decide_eq_true la1
      have HRV : Hid (r = true) := by show _ = _; rw [← HR.out]; simp [hin, la]
      clear HR
      go_wp2_with fail
      refine (HWT.out _).mono ?_
      rintro e w3 ⟨rfl, rfl⟩
      go_wp2_with fail
      go_ret
      exact ⟨by rw [HRV.out]; rfl, HB.out⟩
    · have la1 : ¬ (0 : Int) < (args.length : Int) := by omega
      have la2 : decide ((args.length : Int) > 0) = false := decide_eq_false la1
      have HRV : Hid (r = false) := by show _ = _; rw [← HR.out]; simp [hin, la]
      clear HR
      go_wp2_with fail
      refine (HWT.out _).mono ?_
      rintro e w3 ⟨rfl, rfl⟩
      go_wp2_with fail
      go_ret
      exact ⟨by rw [HRV.out]; rfl, HB.out⟩

set_option maxRecDepth 100000 in
set_option maxHeartbeats 4000000 in
theorem vf10_any (B n : Nat) (v : CkV) (P : CkP) (x : InC) (w : World) (h : CkIn w B n v P) (hok : InOk w B x) (hop : x.op = 10) :
    Calls Try.prog 24 #[.agg (ckC v P), inV x] w fun e w' => e = .returned (.bool (fieldsF P x)) ∧ Below w.heap.size w w' := by
  obtain ⟨r, hr⟩ : ∃ r, fieldsF P x = r := ⟨_, rfl⟩
  rw [hr]
  have hB := hok.hB
  have HVA := Lib.hid (fun hx w1 (hb : Below w.heap.size w w1) => validArms_any B n v P x w1 hx (h.below (hb.mono hB)) (hok.below hb))
  obtain ⟨s0, s1, s2, s3, s4, s5, s6⟩ := h.small
  have hxl := hok.len
  have HC := Lib.hid h
  have HOK := Lib.hid hok
  obtain ⟨q0, q1, A2, c2, A3, c3, A4, c4, A5, c5, A6, c6⟩ := v
  obtain ⟨nT, nN, fns, acs, ims, mks, pats⟩ := P
  obtain ⟨op, a, b, c, A, cap, args⟩ := x
  unfold fieldsF at hr
  unfold inV at HVA ⊢
  unfold ckC at HVA ⊢
  dsimp only at hop HVA s0 s1 s2 s3 s4 s5 s6 hxl hr ⊢
  have hb : Below w.heap.size w ((w.alloc (.cells #[.slice q0.A nT q0.cap, .slice q1.A nN q1.cap, .slice A2 fns.length c2, .slice A3 acs.length c3, .slice A4 ims.length c4, .slice A5 mks.length c5, .slice A6 pats.length c6] 30)).alloc (.cells #[.int .i64 op, .int .i64 a, .int .i64 b, .int .i64 c, .slice A args.length cap] 33)) := ((Below.refl _ _).alloc (Nat.le_refl _) _).alloc (by simp) _
  have hx2 := (Box.new w 30 #[.slice q0.A nT q0.cap, .slice q1.A nN q1.cap, .slice A2 fns.length c2, .slice A3 acs.length c3, .slice A4 ims.length c4, .slice A5 mks.length c5, .slice A6 pats.length c6]).alloc (.cells #[.int .i64 op, .int .i64 a, .int .i64 b, .int .i64 c, .slice A args.length cap] 33)
  have hx3 := Box.new (w.alloc (.cells #[.slice q0.A nT q0.cap, .slice q1.A nN q1.cap, .slice A2 fns.length c2, .slice A3 acs.length c3, .slice A4 ims.length c4, .slice A5 mks.length c5, .slice A6 pats.length c6] 30)) 33 #[.int .i64 op, .int .i64 a, .int .i64 b, .int .i64 c, .slice A args.length cap]
  rw [show (w.alloc (.cells #[.slice q0.A nT q0.cap, .slice q1.A nN q1.cap, .slice A2 fns.length c2, .slice A3 acs.length c3, .slice A4 ims.length c4, .slice A5 mks.length c5, .slice A6 pats.length c6] 30)).heap.size = w.heap.size + 1 by simp] at hx3
  have HOP := Lib.hid hop
  have HR := Lib.hid hr
  have HB := Lib.hid hb
  have HX2 := Lib.hid hx2
  have HX3 := Lib.hid hx3
  have HWI := Lib.hid (fun i n w' => within_any i n w')
  clear h hok hb hx2 hx3 hr hop
  go_enter Try.func24, Try.ntmps24
  go_upto_region 1 with fail
  generalize (w.alloc (.cells #[.slice q0.A nT q0.cap, .slice q1.A nN q1.cap, .slice A2 fns.length c2, .slice A3 acs.length c3, .slice A4 ims.length c4, .slice A5 mks.length c5, .slice A6 pats.length c6] 30)).alloc (.cells #[.int .i64 op, .int .i64 a, .int .i64 b, .int .i64 c, .slice A args.length cap] 33) = w1 at *
  have f0 : w1.cell? ⟨w.heap.size, 0, none⟩ = some (.slice q0.A nT q0.cap) := HX2.out.cell 0
  have f1 : w1.cell? ⟨w.heap.size, 1, none⟩ = some (.slice q1.A nN q1.cap) := HX2.out.cell 1
  have f2 : w1.cell? ⟨w.heap.size, 2, none⟩ = some (.slice A2 fns.length c2) := HX2.out.cell 2
  have f3 : w1.cell? ⟨w.heap.size, 3, none⟩ = some (.slice A3 acs.length c3) := HX2.out.cell 3
  have f4 : w1.cell? ⟨w.heap.size, 4, none⟩ = some (.slice A4 ims.length c4) := HX2.out.cell 4
  have f5 : w1.cell? ⟨w.heap.size, 5, none⟩ = some (.slice A5 mks.length c5) := HX2.out.cell 5
  have f6 : w1.cell? ⟨w.heap.size, 6, none⟩ = some (.slice A6 pats.length c6) := HX2.out.cell 6
  have g0 : w1.cell? ⟨w.heap.size + 1, 0, none⟩ = some (.int .i64 op) := HX3.out.cell 0
  have g1 : w1.cell? ⟨w.heap.size + 1, 1, none⟩ = some (.int .i64 a) := HX3.out.cell 1
  have g2 : w1.cell? ⟨w.heap.size + 1, 2, none⟩ = some (.int .i64 b) := HX3.out.cell 2
  have g3 : w1.cell? ⟨w.heap.size + 1, 3, none⟩ = some (.int .i64 c) := HX3.out.cell 3
  have g4 : w1.cell? ⟨w.heap.size + 1, 4, none⟩ = some (.slice A args.length cap) := HX3.out.cell 4
  have hop := HOP.out
  clear HOP
  subst hop
  have hrv : r = inB b nT := by rw [← HR.out]; simp
  have HRV := Lib.hid hrv
  clear hrv
  go_wp2_with fail
  refine (HWI.out _ _ _).mono ?_
  rintro e w3 ⟨rfl, rfl⟩
  go_wp2_with fail
  go_ret
  exact ⟨by rw [HRV.out]; rfl, HB.out⟩

set_option maxRecDepth 100000 in
set_option maxHeartbeats 4000000 in
theorem vf17_any (B n : Nat) (v : CkV) (P : CkP) (x : InC) (w : World) (h : CkIn w B n v P) (hok : InOk w B x) (hop : x.op = 17) :
    Calls Try.prog 24 #[.agg (ckC v P), inV x] w fun e w' => e = .returned (.bool (fieldsF P x)) ∧ Below w.heap.size w w' := by
  obtain ⟨r, hr⟩ : ∃ r, fieldsF P x = r := ⟨_, rfl⟩
  rw [hr]
  have hB := hok.hB
  have HVA := Lib.hid (fun hx w1 (hb : Below w.heap.size w w1) => validArms_any B n v P x w1 hx (h.below (hb.mono hB)) (hok.below hb))
  obtain ⟨s0, s1, s2, s3, s4, s5, s6⟩ := h.small
  have hxl := hok.len
  have HC := Lib.hid h
  have HOK := Lib.hid hok
  obtain ⟨q0, q1, A2, c2, A3, c3, A4, c4, A5, c5, A6, c6⟩ := v
  obtain ⟨nT, nN, fns, acs, ims, mks, pats⟩ := P
  obtain ⟨op, a, b, c, A, cap, args⟩ := x
  unfold fieldsF at hr
  unfold inV at HVA ⊢
  unfold ckC at HVA ⊢
  dsimp only at hop HVA s0 s1 s2 s3 s4 s5 s6 hxl hr ⊢
  have hb : Below w.heap.size w ((w.alloc (.cells #[.slice q0.A nT q0.cap, .slice q1.A nN q1.cap, .slice A2 fns.length c2, .slice A3 acs.length c3, .slice A4 ims.length c4, .slice A5 mks.length c5, .slice A6 pats.length c6] 30)).alloc (.cells #[.int .i64 op, .int .i64 a, .int .i64 b, .int .i64 c, .slice A args.length cap] 33)) := ((Below.refl _ _).alloc (Nat.le_refl _) _).alloc (by simp) _
  have hx2 := (Box.new w 30 #[.slice q0.A nT q0.cap, .slice q1.A nN q1.cap, .slice A2 fns.length c2, .slice A3 acs.length c3, .slice A4 ims.length c4, .slice A5 mks.length c5, .slice A6 pats.length c6]).alloc (.cells #[.int .i64 op, .int .i64 a, .int .i64 b, .int .i64 c, .slice A args.length cap] 33)
  have hx3 := Box.new (w.alloc (.cells #[.slice q0.A nT q0.cap, .slice q1.A nN q1.cap, .slice A2 fns.length c2, .slice A3 acs.length c3, .slice A4 ims.length c4, .slice A5 mks.length c5, .slice A6 pats.length c6] 30)) 33 #[.int .i64 op, .int .i64 a, .int .i64 b, .int .i64 c, .slice A args.length cap]
  rw [show (w.alloc (.cells #[.slice q0.A nT q0.cap, .slice q1.A nN q1.cap, .slice A2 fns.length c2, .slice A3 acs.length c3, .slice A4 ims.length c4, .slice A5 mks.length c5, .slice A6 pats.length c6] 30)).heap.size = w.heap.size + 1 by simp] at hx3
  have HOP := Lib.hid hop
  have HR := Lib.hid hr
  have HB := Lib.hid hb
  have HX2 := Lib.hid hx2
  have HX3 := Lib.hid hx3
  have HWI := Lib.hid (fun i n w' => within_any i n w')
  clear h hok hb hx2 hx3 hr hop
  go_enter Try.func24, Try.ntmps24
  go_upto_region 1 with fail
  generalize (w.alloc (.cells #[.slice q0.A nT q0.cap, .slice q1.A nN q1.cap, .slice A2 fns.length c2, .slice A3 acs.length c3, .slice A4 ims.length c4, .slice A5 mks.length c5, .slice A6 pats.length c6] 30)).alloc (.cells #[.int .i64 op, .int .i64 a, .int .i64 b, .int .i64 c, .slice A args.length cap] 33) = w1 at *
  have f0 : w1.cell? ⟨w.heap.size, 0, none⟩ = some (.slice q0.A nT q0.cap) := HX2.out.cell 0
  have f1 : w1.cell? ⟨w.heap.size, 1, none⟩ = some (.slice q1.A nN q1.cap) := HX2.out.cell 1
  have f2 : w1.cell? ⟨w.heap.size, 2, none⟩ = some (.slice A2 fns.length c2) := HX2.out.cell 2
  have f3 : w1.cell? ⟨w.heap.size, 3, none⟩ = some (.slice A3 acs.length c3) := HX2.out.cell 3
  have f4 : w1.cell? ⟨w.heap.size, 4, none⟩ = some (.slice A4 ims.length c4) := HX2.out.cell 4
  have f5 : w1.cell? ⟨w.heap.size, 5, none⟩ = some (.slice A5 mks.length c5) := HX2.out.cell 5
  have f6 : w1.cell? ⟨w.heap.size, 6, none⟩ = some (.slice A6 pats.length c6) := HX2.out.cell 6
  have g0 : w1.cell? ⟨w.heap.size + 1, 0, none⟩ = some (.int .i64 op) := HX3.out.cell 0
  have g1 : w1.cell? ⟨w.heap.size + 1, 1, none⟩ = some (.int .i64 a) := HX3.out.cell 1
  have g2 : w1.cell? ⟨w.heap.size + 1, 2, none⟩ = some (.int .i64 b) := HX3.out.cell 2
  have g3 : w1.cell? ⟨w.heap.size + 1, 3, none⟩ = some (.int .i64 c) := HX3.out.cell 3
  have g4 : w1.cell? ⟨w.heap.size + 1, 4, none⟩ = some (.slice A args.length cap) := HX3.out.cell 4
  have hop := HOP.out
  clear HOP
  subst hop
  have hrv : r = inB b nT := by rw [← HR.out]; simp
  have HRV := Lib.hid hrv
  clear hrv
  go_wp2_with fail
  refine (HWI.out _ _ _).mono ?_
  rintro e w3 ⟨rfl, rfl⟩
  go_wp2_with fail
  go_ret
  exact ⟨by rw [HRV.out]; rfl, HB.out⟩

set_option maxRecDepth 100000 in
set_option maxHeartbeats 4000000 in
theorem vf27_any (B n : Nat) (v : CkV) (P : CkP) (x : InC) (w : World) (h : CkIn w B n v P) (hok : InOk w B x) (hop : x.op = 27) :
    Calls Try.prog 24 #[.agg (ckC v P), inV x] w fun e w' => e = .returned (.bool (fieldsF P x)) ∧ Below w.heap.size w w' := by
  obtain ⟨r, hr⟩ : ∃ r, fieldsF P x = r := ⟨_, rfl⟩
  rw [hr]
  have hB := hok.hB
  have HVA := Lib.hid (fun hx w1 (hb : Below w.heap.size w w1) => validArms_any B n v P x w1 hx (h.below (hb.mono hB)) (hok.below hb))
  obtain ⟨s0, s1, s2, s3, s4, s5, s6⟩ := h.small
  have hxl := hok.len
  have HC := Lib.hid h
  have HOK := Lib.hid hok
  obtain ⟨q0, q1, A2, c2, A3, c3, A4, c4, A5, c5, A6, c6⟩ := v
  obtain ⟨nT, nN, fns, acs, ims, mks, pats⟩ := P
  obtain ⟨op, a, b, c, A, cap, args⟩ := x
  unfold fieldsF at hr
  unfold inV at HVA ⊢
  unfold ckC at HVA ⊢
  dsimp only at hop HVA s0 s1 s2 s3 s4 s5 s6 hxl hr ⊢
  have hb : Below w.heap.size w ((w.alloc (.cells #[.slice q0.A nT q0.cap, .slice q1.A nN q1.cap, .slice A2 fns.length c2, .slice A3 acs.length c3, .slice A4 ims.length c4, .slice A5 mks.length c5, .slice A6 pats.length c6] 30)).alloc (.cells #[.int .i64 op, .int .i64 a, .int .i64 b, .int .i64 c, .slice A args.length cap] 33)) := ((Below.refl _ _).alloc (Nat.le_refl _) _).alloc (by simp) _
  have hx2 := (Box.new w 30 #[.slice q0.A nT q0.cap, .slice q1.A nN q1.cap, .slice A2 fns.length c2, .slice A3 acs.length c3, .slice A4 ims.length c4, .slice A5 mks.length c5, .slice A6 pats.length c6]).alloc (.cells #[.int .i64 op, .int .i64 a, .int .i64 b, .int .i64 c, .slice A args.length cap] 33)
  have hx3 := Box.new (w.alloc (.cells #[.slice q0.A nT q0.cap, .slice q1.A nN q1.cap, .slice A2 fns.length c2, .slice A3 acs.length c3, .slice A4 ims.length c4, .slice A5 mks.length c5, .slice A6 pats.length c6] 30)) 33 #[.int .i64 op, .int .i64 a, .int .i64 b, .int .i64 c, .slice A args.length cap]
  rw [show (w.alloc (.cells #[.slice q0.A nT q0.cap, .slice q1.A nN q1.cap, .slice A2 fns.length c2, .slice A3 acs.length c3, .slice A4 ims.length c4, .slice A5 mks.length c5, .slice A6 pats.length c6] 30)).heap.size = w.heap.size + 1 by simp] at hx3
  have HOP := Lib.hid hop
  have HR := Lib.hid hr
  have HB := Lib.hid hb
  have HX2 := Lib.hid hx2
  have HX3 := Lib.hid hx3
  have HWI := Lib.hid (fun i n w' => within_any i n w')
  clear h hok hb hx2 hx3 hr hop
  go_enter Try.func24, Try.ntmps24
  go_upto_region 1 with fail
  generalize (w.alloc (.cells #[.slice q0.A nT q0.cap, .slice q1.A nN q1.cap, .slice A2 fns.length c2, .slice A3 acs.length c3, .slice A4 ims.length c4, .slice A5 mks.length c5, .slice A6 pats.length c6] 30)).alloc (.cells #[.int .i64 op, .int .i64 a, .int .i64 b, .int .i64 c, .slice A args.length cap] 33) = w1 at *
  have f0 : w1.cell? ⟨w.heap.size, 0, none⟩ = some (.slice q0.A nT q0.cap) := HX2.out.cell 0
  have f1 : w1.cell? ⟨w.heap.size, 1, none⟩ = some (.slice q1.A nN q1.cap) := HX2.out.cell 1
  have f2 : w1.cell? ⟨w.heap.size, 2, none⟩ = some (.slice A2 fns.length c2) := HX2.out.cell 2
  have f3 : w1.cell? ⟨w.heap.size, 3, none⟩ = some (.slice A3 acs.length c3) := HX2.out.cell 3
  have f4 : w1.cell? ⟨w.heap.size, 4, none⟩ = some (.slice A4 ims.length c4) := HX2.out.cell 4
  have f5 : w1.cell? ⟨w.heap.size, 5, none⟩ = some (.slice A5 mks.length c5) := HX2.out.cell 5
  have f6 : w1.cell? ⟨w.heap.size, 6, none⟩ = some (.slice A6 pats.length c6) := HX2.out.cell 6
  have g0 : w1.cell? ⟨w.heap.size + 1, 0, none⟩ = some (.int .i64 op) := HX3.out.cell 0
  have g1 : w1.cell? ⟨w.heap.size + 1, 1, none⟩ = some (.int .i64 a) := HX3.out.cell 1
  have g2 : w1.cell? ⟨w.heap.size + 1, 2, none⟩ = some (.int .i64 b) := HX3.out.cell 2
  have g3 : w1.cell? ⟨w.heap.size + 1, 3, none⟩ = some (.int .i64 c) := HX3.out.cell 3
  have g4 : w1.cell? ⟨w.heap.size + 1, 4, none⟩ = some (.slice A args.length cap) := HX3.out.cell 4
  have hop := HOP.out
  clear HOP
  subst hop
  have hrv : r = inB b nT := by rw [← HR.out]; simp
  have HRV := Lib.hid hrv
  clear hrv
  go_wp2_with fail
  refine (HWI.out _ _ _).mono ?_
  rintro e w3 ⟨rfl, rfl⟩
  go_wp2_with fail
  go_ret
  exact ⟨by rw [HRV.out]; rfl, HB.out⟩

set_option maxRecDepth 100000 in
set_option maxHeartbeats 4000000 in
theorem vf11_any (B n : Nat) (v : CkV) (P : CkP) (x : InC) (w : World) (h : CkIn w B n v P) (hok : InOk w B x) (hop : x.op = 11) :
    Calls Try.prog 24 #[.agg (ckC v P), inV x] w fun e w' => e = .returned (.bool (fieldsF P x)) ∧ Below w.heap.size w w' := by
  obtain ⟨r, hr⟩ : ∃ r, fieldsF P x = r := ⟨_, rfl⟩
  rw [hr]
  have hB := hok.hB
  have HVA := Lib.hid (fun hx w1 (hb : Below w.heap.size w w1) => validArms_any B n v P x w1 hx (h.below (hb.mono hB)) (hok.below hb))
  obtain ⟨s0, s1, s2, s3, s4, s5, s6⟩ := h.small
  have hxl := hok.len
  have HC := Lib.hid h
  have HOK := Lib.hid hok
  obtain ⟨q0, q1, A2, c2, A3, c3, A4, c4, A5, c5, A6, c6⟩ := v
  obtain ⟨nT, nN, fns, acs, ims, mks, pats⟩ := P
  obtain ⟨op, a, b, c, A, cap, args⟩ := x
  unfold fieldsF at hr
  unfold inV at HVA ⊢
  unfold ckC at HVA ⊢
  dsimp only at hop HVA s0 s1 s2 s3 s4 s5 s6 hxl hr ⊢
  have hb : Below w.heap.size w ((w.alloc (.cells #[.slice q0.A nT q0.cap, .slice q1.A nN q1.cap, .slice A2 fns.length c2, .slice A3 acs.length c3, .slice A4 ims.length c4, .slice A5 mks.length c5, .slice A6 pats.length c6] 30)).alloc (.cells #[.int .i64 op, .int .i64 a, .int .i64 b, .int .i64 c, .slice A args.length cap] 33)) := ((Below.refl _ _).alloc (Nat.le_refl _) _).alloc (by simp) _
  have hx2 := (Box.new w 30 #[.slice q0.A nT q0.cap, .slice q1.A nN q1.cap, .slice A2 fns.length c2, .slice A3 acs.length c3, .slice A4 ims.length c4, .slice A5 mks.length c5, .slice A6 pats.length c6]).alloc (.cells #[.int .i64 op, .int .i64 a, .int .i64 b, .int .i64 c, .slice A args.length cap] 33)
  have hx3 := Box.new (w.alloc (.cells #[.slice q0.A nT q0.cap, .slice q1.A nN q1.cap, .slice A2 fns.length c2, .slice A3 acs.length c3, .slice A4 ims.length c4, .slice A5 mks.length c5, .slice A6 pats.length c6] 30)) 33 #[.int .i64 op, .int .i64 a, .int .i64 b, .int .i64 c, .slice A args.length cap]
  rw [show (w.alloc (.cells #[.slice q0.A nT q0.cap, .slice q1.A nN q1.cap, .slice A2 fns.length c2, .slice A3 acs.length c3, .slice A4 ims.length c4, .slice A5 mks.length c5, .slice A6 pats.length c6] 30)).heap.size = w.heap.size + 1 by simp] at hx3
  have HOP := Lib.hid hop
  have HR := Lib.hid hr
  have HB := Lib.hid hb
  have HX2 := Lib.hid hx2
  have HX3 := Lib.hid hx3
  have HWI := Lib.hid (fun i n w' => within_any i n w')
  clear h hok hb hx2 hx3 hr hop
  go_enter Try.func24, Try.ntmps24
  go_upto_region 1 with fail
  generalize (w.alloc (.cells #[.slice q0.A nT q0.cap, .slice q1.A nN q1.cap, .slice A2 fns.length c2, .slice A3 acs.length c3, .slice A4 ims.length c4, .slice A5 mks.length c5, .slice A6 pats.length c6] 30)).alloc (.cells #[.int .i64 op, .int .i64 a, .int .i64 b, .int .i64 c, .slice A args.length cap] 33) = w1 at *
  have f0 : w1.cell? ⟨w.heap.size, 0, none⟩ = some (.slice q0.A nT q0.cap) := HX2.out.cell 0
  have f1 : w1.cell? ⟨w.heap.size, 1, none⟩ = some (.slice q1.A nN q1.cap) := HX2.out.cell 1
  have f2 : w1.cell? ⟨w.heap.size, 2, none⟩ = some (.slice A2 fns.length c2) := HX2.out.cell 2
  have f3 : w1.cell? ⟨w.heap.size, 3, none⟩ = some (.slice A3 acs.length c3) := HX2.out.cell 3
  have f4 : w1.cell? ⟨w.heap.size, 4, none⟩ = some (.slice A4 ims.length c4) := HX2.out.cell 4
  have f5 : w1.cell? ⟨w.heap.size, 5, none⟩ = some (.slice A5 mks.length c5) := HX2.out.cell 5
  have f6 : w1.cell? ⟨w.heap.size, 6, none⟩ = some (.slice A6 pats.length c6) := HX2.out.cell 6
  have g0 : w1.cell? ⟨w.heap.size + 1, 0, none⟩ = some (.int .i64 op) := HX3.out.cell 0
  have g1 : w1.cell? ⟨w.heap.size + 1, 1, none⟩ = some (.int .i64 a) := HX3.out.cell 1
  have g2 : w1.cell? ⟨w.heap.size + 1, 2, none⟩ = some (.int .i64 b) := HX3.out.cell 2
  have g3 : w1.cell? ⟨w.heap.size + 1, 3, none⟩ = some (.int .i64 c) := HX3.out.cell 3
  have g4 : w1.cell? ⟨w.heap.size + 1, 4, none⟩ = some (.slice A args.length cap) := HX3.out.cell 4
  have hop := HOP.out
  clear HOP
  subst hop
  have HVB := Lib.hid (HVA.out (.inl rfl) w1 HB.out)
  clear HVA
  go_wp2_with fail
  refine HVB.out.mono ?_
  rintro e w3 ⟨rfl, hb3⟩
  have HBK := Lib.hid (HB.out.trans (hb3.mono HB.out.size))
  clear hb3
  go_wp2_with fail
  go_ret
  exact ⟨by rw [← HR.out]; rfl, HBK.out⟩

set_option maxRecDepth 100000 in
set_option maxHeartbeats 4000000 in
theorem vfo_any (B n : Nat) (v : CkV) (P : CkP) (x : InC) (w : World) (h : CkIn w B n v P) (hok : InOk w B x) (hop : ¬ (x.op = 1 ∨ x.op = 5 ∨ x.op = 6 ∨ x.op = 7 ∨ x.op = 8 ∨ x.op = 10 ∨ x.op = 11 ∨ x.op = 12 ∨ x.op = 16 ∨ x.op = 17 ∨ x.op = 27)) :
    Calls Try.prog 24 #[.agg (ckC v P), inV x] w fun e w' => e = .returned (.bool (fieldsF P x)) ∧ Below w.heap.size w w' := by
  obtain ⟨r, hr⟩ : ∃ r, fieldsF P x = r := ⟨_, rfl⟩
  rw [hr]
  have hB := hok.hB
  have HVA := Lib.hid (fun hx w1 (hb : Below w.heap.size w w1) => validArms_any B n v P x w1 hx (h.below (hb.mono hB)) (hok.below hb))
  obtain ⟨s0, s1, s2, s3, s4, s5, s6⟩ := h.small
  have hxl := hok.len
  have HC := Lib.hid h
  have HOK := Lib.hid hok
  obtain ⟨q0, q1, A2, c2, A3, c3, A4, c4, A5, c5, A6, c6⟩ := v
  obtain ⟨nT, nN, fns, acs, ims, mks, pats⟩ := P
  obtain ⟨op, a, b, c, A, cap, args⟩ := x
  unfold fieldsF at hr
  unfold inV at HVA ⊢
  unfold ckC at HVA ⊢
  dsimp only at hop HVA s0 s1 s2 s3 s4 s5 s6 hxl hr ⊢
  have hb : Below w.heap.size w ((w.alloc (.cells #[.slice q0.A nT q0.cap, .slice q1.A nN q1.cap, .slice A2 fns.length c2, .slice A3 acs.length c3, .slice A4 ims.length c4, .slice A5 mks.length c5, .slice A6 pats.length c6] 30)).alloc (.cells #[.int .i64 op, .int .i64 a, .int .i64 b, .int .i64 c, .slice A args.length cap] 33)) := ((Below.refl _ _).alloc (Nat.le_refl _) _).alloc (by simp) _
  have hx2 := (Box.new w 30 #[.slice q0.A nT q0.cap, .slice q1.A nN q1.cap, .slice A2 fns.length c2, .slice A3 acs.length c3, .slice A4 ims.length c4, .slice A5 mks.length c5, .slice A6 pats.length c6]).alloc (.cells #[.int .i64 op, .int .i64 a, .int .i64 b, .int .i64 c, .slice A args.length cap] 33)
  have hx3 := Box.new (w.alloc (.cells #[.slice q0.A nT q0.cap, .slice q1.A nN q1.cap, .slice A2 fns.length c2, .slice A3 acs.length c3, .slice A4 ims.length c4, .slice A5 mks.length c5, .slice A6 pats.length c6] 30)) 33 #[.int .i64 op, .int .i64 a, .int .i64 b, .int .i64 c, .slice A args.length cap]
  rw [show (w.alloc (.cells #[.slice q0.A nT q0.cap, .slice q1.A nN q1.cap, .slice A2 fns.length c2, .slice A3 acs.length c3, .slice A4 ims.length c4, .slice A5 mks.length c5, .slice A6 pats.length c6] 30)).heap.size = w.heap.size + 1 by simp] at hx3
  have HOP := Lib.hid hop
  have HR := Lib.hid hr
  have HB := Lib.hid hb
  have HX2 := Lib.hid hx2
  have HX3 := Lib.hid hx3
  have HWI := Lib.hid (fun i n w' => within_any i n w')
  clear h hok hb hx2 hx3 hr hop
  go_enter Try.func24, Try.ntmps24
  go_upto_region 1 with fail
  generalize (w.alloc (.cells #[.slice q0.A nT q0.cap, .slice q1.A nN q1.cap, .slice A2 fns.length c2, .slice A3 acs.length c3, .slice A4 ims.length c4, .slice A5 mks.length c5, .slice A6 pats.length c6] 30)).alloc (.cells #[.int .i64 op, .int .i64 a, .int .i64 b, .int .i64 c, .slice A args.length cap] 33) = w1 at *
  have f0 : w1.cell? ⟨w.heap.size, 0, none⟩ = some (.slice q0.A nT q0.cap) := HX2.out.cell 0
  have f1 : w1.cell? ⟨w.heap.size, 1, none⟩ = some (.slice q1.A nN q1.cap) := HX2.out.cell 1
  have f2 : w1.cell? ⟨w.heap.size, 2, none⟩ = some (.slice A2 fns.length c2) := HX2.out.cell 2
  have f3 : w1.cell? ⟨w.heap.size, 3, none⟩ = some (.slice A3 acs.length c3) := HX2.out.cell 3
  have f4 : w1.cell? ⟨w.heap.size, 4, none⟩ = some (.slice A4 ims.length c4) := HX2.out.cell 4
  have f5 : w1.cell? ⟨w.heap.size, 5, none⟩ = some (.slice A5 mks.length c5) := HX2.out.cell 5
  have f6 : w1.cell? ⟨w.heap.size, 6, none⟩ = some (.slice A6 pats.length c6) := HX2.out.cell 6
  have g0 : w1.cell? ⟨w.heap.size + 1, 0, none⟩ = some (.int .i64 op) := HX3.out.cell 0
  have g1 : w1.cell? ⟨w.heap.size + 1, 1, none⟩ = some (.int .i64 a) := HX3.out.cell 1
  have g2 : w1.cell? ⟨w.heap.size + 1, 2, none⟩ = some (.int .i64 b) := HX3.out.cell 2
  have g3 : w1.cell? ⟨w.heap.size + 1, 3, none⟩ = some (.int .i64 c) := HX3.out.cell 3
  have g4 : w1.cell? ⟨w.heap.size + 1, 4, none⟩ = some (.slice A args.length cap) := HX3.out.cell 4
  have hop := HOP.out
  clear HOP
  simp only [not_or] at hop
  obtain ⟨h1, h5, h6, h7, h8, h10, h11, h12, h16, h17, h27⟩ := hop
  have e1 : (op == 1) = false := by simp [h1]
  have e5 : (op == 5) = false := by simp [h5]
  have e6 : (op == 6) = false := by simp [h6]
  have e7 : (op == 7) = false := by simp [h7]
  have e8 : (op == 8) = false := by simp [h8]
  have e10 : (op == 10) = false := by simp [h10]
  have e11 : (op == 11) = false := by simp [h11]
  have e12 : (op == 12) = false := by simp [h12]
  have e16 : (op == 16) = false := by simp [h16]
  have e17 : (op == 17) = false := by simp [h17]
  have e27 : (op == 27) = false := by simp [h27]
  have HRV : Hid (r = true) := by show _ = _; rw [← HR.out]; simp [h1, h5, h6, h7, h8, h10, h11, h12, h16, h17, h27]
  clear HR
  go_wp2_with fail
  go_ret
  exact ⟨by rw [HRV.out]; rfl, HB.out⟩

end Go.Proofs.Ythglcnodoophaaa
namespace Go.Proofs.Ythglcnodoophaaa
open Go.RowKit

set_option maxRecDepth 100000 in
set_option maxHeartbeats 4000000 in
theorem vf16_any (B n : Nat) (v : CkV) (P : CkP) (x : InC) (w : World) (h : CkIn w B n v P) (hok : InOk w B x) (hop : x.op = 16) :
    Calls Try.prog 24 #[.agg (ckC v P), inV x] w fun e w' => e = .returned (.bool (fieldsF P x)) ∧ Below w.heap.size w w' := by
  obtain ⟨r, hr⟩ : ∃ r, fieldsF P x = r := ⟨_, rfl⟩
  rw [hr]
  have hB := hok.hB
  have HVA := Lib.hid (fun hx w1 (hb : Below w.heap.size w w1) => validArms_any B n v P x w1 hx (h.below (hb.mono hB)) (hok.below hb))
  obtain ⟨s0, s1, s2, s3, s4, s5, s6⟩ := h.small
  have hxl := hok.len
  have HC := Lib.hid h
  have HOK := Lib.hid hok
  obtain ⟨q0, q1, A2, c2, A3, c3, A4, c4, A5, c5, A6, c6⟩ := v
  obtain ⟨nT, nN, fns, acs, ims, mks, pats⟩ := P
  obtain ⟨op, a, b, c, A, cap, args⟩ := x
  unfold fieldsF at hr
  unfold inV at HVA ⊢
  unfold ckC at HVA ⊢
  dsimp only at hop HVA s0 s1 s2 s3 s4 s5 s6 hxl hr ⊢
  have hb : Below w.heap.size w ((w.alloc (.cells #[.slice q0.A nT q0.cap, .slice q1.A nN q1.cap, .slice A2 fns.length c2, .slice A3 acs.length c3, .slice A4 ims.length c4, .slice A5 mks.length c5, .slice A6 pats.length c6] 30)).alloc (.cells #[.int .i64 op, .int .i64 a, .int .i64 b, .int .i64 c, .slice A args.length cap] 33)) := ((Below.refl _ _).alloc (Nat.le_refl _) _).alloc (by simp) _
  have hx2 := (Box.new w 30 #[.slice q0.A nT q0.cap, .slice q1.A nN q1.cap, .slice A2 fns.length c2, .slice A3 acs.length c3, .slice A4 ims.length c4, .slice A5 mks.length c5, .slice A6 pats.length c6]).alloc (.cells #[.int .i64 op, .int .i64 a, .int .i64 b, .int .i64 c, .slice A args.length cap] 33)
  have hx3 := Box.new (w.alloc (.cells #[.slice q0.A nT q0.cap, .slice q1.A nN q1.cap, .slice A2 fns.length c2, .slice A3 acs.length c3, .slice A4 ims.length c4, .slice A5 mks.length c5, .slice A6 pats.length c6] 30)) 33 #[.int .i64 op, .int .i64 a, .int .i64 b, .int .i64 c, .slice A args.length cap]
  rw [show (w.alloc (.cells #[.slice q0.A nT q0.cap, .slice q1.A nN q1.cap, .slice A2 fns.length c2, .slice A3 acs.length c3, .slice A4 ims.length c4, .slice A5 mks.length c5, .slice A6 pats.length c6] 30)).heap.size = w.heap.size + 1 by simp] at hx3
  have HOP := Lib.hid hop
  have HR := Lib.hid hr
  have HB := Lib.hid hb
  have HX2 := Lib.hid hx2
  have HX3 := Lib.hid hx3
  have HWI := Lib.hid (fun i n w' => within_any i n w')
  clear h hok hb hx2 hx3 hr hop
  go_enter Try.func24, Try.ntmps24
  go_upto_region 1 with fail
  generalize (w.alloc (.cells #[.slice q0.A nT q0.cap, .slice q1.A nN q1.cap, .slice A2 fns.length c2, .slice A3 acs.length c3, .slice A4 ims.length c4, .slice A5 mks.length c5, .slice A6 pats.length c6] 30)).alloc (.cells #[.int .i64 op, .int .i64 a, .int .i64 b, .int .i64 c, .slice A args.length cap] 33) = w1 at *
  have f0 : w1.cell? ⟨w.heap.size, 0, none⟩ = some (.slice q0.A nT q0.cap) := HX2.out.cell 0
  have f1 : w1.cell? ⟨w.heap.size, 1, none⟩ = some (.slice q1.A nN q1.cap) := HX2.out.cell 1
  have f2 : w1.cell? ⟨w.heap.size, 2, none⟩ = some (.slice A2 fns.length c2) := HX2.out.cell 2
  have f3 : w1.cell? ⟨w.heap.size, 3, none⟩ = some (.slice A3 acs.length c3) := HX2.out.cell 3
  have f4 : w1.cell? ⟨w.heap.size, 4, none⟩ = some (.slice A4 ims.length c4) := HX2.out.cell 4
  have f5 : w1.cell? ⟨w.heap.size, 5, none⟩ = some (.slice A5 mks.length c5) := HX2.out.cell 5
  have f6 : w1.cell? ⟨w.heap.size, 6, none⟩ = some (.slice A6 pats.length c6) := HX2.out.cell 6
  have g0 : w1.cell? ⟨w.heap.size + 1, 0, none⟩ = some (.int .i64 op) := HX3.out.cell 0
  have g1 : w1.cell? ⟨w.heap.size + 1, 1, none⟩ = some (.int .i64 a) := HX3.out.cell 1
  have g2 : w1.cell? ⟨w.heap.size + 1, 2, none⟩ = some (.int .i64 b) := HX3.out.cell 2
  have g3 : w1.cell? ⟨w.heap.size + 1, 3, none⟩ = some (.int .i64 c) := HX3.out.cell 3
  have g4 : w1.cell? ⟨w.heap.size + 1, 4, none⟩ = some (.slice A args.length cap) := HX3.out.cell 4
  have hop := HOP.out
  clear HOP
  subst hop
  by_cases la : 0 < args.length
  case neg =>
    have la1 : ¬ (0 : Int) < (args.length : Int) := by omega
    have la2 : decide ((0 : Int) < (args.length : Int)) = false := decide_eq_false la1
    have la3 : ¬ ((args.length : Int) > 0) := la1
    have HRV : Hid (r = false) := by show _ = _; rw [← HR.out]; simp [hd0, la]
    clear HR
    go_upto_region 33 with fail
    go_quiet (fail)
    go_wp2_with fail
    go_ret
    exact ⟨by rw [HRV.out]; rfl, below_drewN HB.out _⟩
  have la1 : (0 : Int) < (args.length : Int) := by omega
  have la2 : decide ((0 : Int) < (args.length : Int)) = true := decide_eq_true la1
  have hne : args ≠ [] := by intro e; subst e; simp at la
  obtain ⟨b', o', rfl, hb', hcc⟩ := (HOK.out.row.below (HB.out.mono hB)) (by rw [ints_len]; exact la)
  have y0 := hcc 0 (.int .i64 (args.getD 0 0)) (by simp [ints, List.getD_eq_getElem?_getD, List.getElem?_eq_getElem la])
  rw [Nat.add_zero] at y0
  have HH : Hid (hd0 ⟨16, a, b, c, some ⟨b', o', none⟩, cap, args⟩ = args.getD 0 0) := rfl
  clear hcc
  generalize args.getD 0 0 = z at *
  have HR2 : Hid ((decide (-1 ≤ c) && decide (-1 ≤ z) && (decide (c < 0) == decide (z < 0)) && armsOkF pats ⟨16, a, b, c, some ⟨b', o', none⟩, cap, args⟩) = r) := by show _ = _; rw [← HR.out]; simp [la, HH.out]
  clear HR
  cases d1 : decide (-1 ≤ c) with
  | false =>
    rw [d1] at HR2
    have e1 : ¬ -1 ≤ c := of_decide_eq_false d1
    have e2 : ¬ c ≥ -1 := e1
    have HRV : Hid (r = false) := by show _ = _; rw [← HR2.out]; simp
    clear HR2
    go_upto_region 33 with fail
    go_quiet (fail)
    go_wp2_with fail
    go_ret
    exact ⟨by rw [HRV.out]; rfl, below_drewN HB.out _⟩
  | true =>
  have e1 : -1 ≤ c := of_decide_eq_true d1
  rw [d1] at HR2
  cases d2 : decide (-1 ≤ z) with
  | false =>
    rw [d2] at HR2
    have e2 : ¬ -1 ≤ z := of_decide_eq_false d2
    have HRV : Hid (r = false) := by show _ = _; rw [← HR2.out]; simp
    clear HR2
    go_upto_region 33 with fail
    go_quiet (fail)
    go_wp2_with fail
    go_ret
    exact ⟨by rw [HRV.out]; rfl, below_drewN HB.out _⟩
  | true =>
  have e2 : -1 ≤ z := of_decide_eq_true d2
  rw [d2] at HR2
  cases d3 : decide (c < 0) == decide (z < 0) with
  | false =>
    rw [d3] at HR2
    have HRV : Hid (r = false) := by show _ = _; rw [← HR2.out]; simp
    clear HR2
    go_upto_region 33 with fail
    go_quiet (fail)
    go_wp2_with fail
    go_ret
    exact ⟨by rw [HRV.out]; rfl, below_drewN HB.out _⟩
  | true =>
  rw [d3] at HR2
  have HVB := Lib.hid (fun (w2 : World) (hb2 : Below w1.heap.size w1 w2) => HVA.out (.inr ⟨rfl, hne⟩) w2 (HB.out.trans (hb2.mono HB.out.size)))
  have HRV : Hid (armsOkF pats ⟨16, a, b, c, some ⟨b', o', none⟩, cap, args⟩ = r) := by show _ = _; rw [← HR2.out]; simp
  have HY0 : Hid (∀ w2, Below w1.heap.size w1 w2 → w2.cell? ⟨b', o', none⟩ = some (.int .i64 z)) := fun w2 hb2 => (hb2.cell (p := ⟨b', o', none⟩) (by have := HB.out.size; have := hB; exact Nat.lt_of_lt_of_le hb' (by omega))).trans y0
  clear HVA HR2
  have HSK : Hid (∀ w', Below w1.heap.size w1 w' → Below w1.heap.size w1 w' ∧ w'.cell? ⟨w.heap.size, 0, none⟩ = some (.slice q0.A nT q0.cap) ∧ w'.cell? ⟨w.heap.size, 1, none⟩ = some (.slice q1.A nN q1.cap) ∧ w'.cell? ⟨w.heap.size, 2, none⟩ = some (.slice A2 fns.length c2) ∧ w'.cell? ⟨w.heap.size, 3, none⟩ = some (.slice A3 acs.length c3) ∧ w'.cell? ⟨w.heap.size, 4, none⟩ = some (.slice A4 ims.length c4) ∧ w'.cell? ⟨w.heap.size, 5, none⟩ = some (.slice A5 mks.length c5) ∧ w'.cell? ⟨w.heap.size, 6, none⟩ = some (.slice A6 pats.length c6) ∧ w'.cell? ⟨w.heap.size + 1, 0, none⟩ = some (.int .i64 16) ∧ w'.cell? ⟨w.heap.size + 1, 1, none⟩ = some (.int .i64 a) ∧ w'.cell? ⟨w.heap.size + 1, 2, none⟩ = some (.int .i64 b) ∧ w'.cell? ⟨w.heap.size + 1, 3, none⟩ = some (.int .i64 c) ∧ w'.cell? ⟨w.heap.size + 1, 4, none⟩ = some (.slice (some ⟨b', o', none⟩) args.length cap) ∧ w'.cell? ⟨b', o', none⟩ = some (.int .i64 z)) := fun w' hb => ⟨hb, (HX2.out.below hb HX2.out.lt).cell 0, (HX2.out.below hb HX2.out.lt).cell 1, (HX2.out.below hb HX2.out.lt).cell 2, (HX2.out.below hb HX2.out.lt).cell 3, (HX2.out.below hb HX2.out.lt).cell 4, (HX2.out.below hb HX2.out.lt).cell 5, (HX2.out.below hb HX2.out.lt).cell 6, (HX3.out.below hb HX3.out.lt).cell 0, (HX3.out.below hb HX3.out.lt).cell 1, (HX3.out.below hb HX3.out.lt).cell 2, (HX3.out.below hb HX3.out.lt).cell 3, (HX3.out.below hb HX3.out.lt).cell 4, HY0.out _ hb⟩
  have hbk0 := Below.refl w1.heap.size w1
  go_upto_region 33 with fail
  clear f0 f1 f2 f3 f4 f5 f6 g1 g2 g3 g4 g0 y0
  go_region_held3 (fun w' => Below w1.heap.size w1 w' ∧ w'.cell? ⟨w.heap.size, 0, none⟩ = some (.slice q0.A nT q0.cap) ∧ w'.cell? ⟨w.heap.size, 1, none⟩ = some (.slice q1.A nN q1.cap) ∧ w'.cell? ⟨w.heap.size, 2, none⟩ = some (.slice A2 fns.length c2) ∧ w'.cell? ⟨w.heap.size, 3, none⟩ = some (.slice A3 acs.length c3) ∧ w'.cell? ⟨w.heap.size, 4, none⟩ = some (.slice A4 ims.length c4) ∧ w'.cell? ⟨w.heap.size, 5, none⟩ = some (.slice A5 mks.length c5) ∧ w'.cell? ⟨w.heap.size, 6, none⟩ = some (.slice A6 pats.length c6) ∧ w'.cell? ⟨w.heap.size + 1, 0, none⟩ = some (.int .i64 16) ∧ w'.cell? ⟨w.heap.size + 1, 1, none⟩ = some (.int .i64 a) ∧ w'.cell? ⟨w.heap.size + 1, 2, none⟩ = some (.int .i64 b) ∧ w'.cell? ⟨w.heap.size + 1, 3, none⟩ = some (.int .i64 c) ∧ w'.cell? ⟨w.heap.size + 1, 4, none⟩ = some (.slice (some ⟨b', o', none⟩) args.length cap) ∧ w'.cell? ⟨b', o', none⟩ = some (.int .i64 z))
    ((first
      | with_reducible exact HSK.out _ hbk
      | with_reducible exact HSK.out _ (below_drewK hbk0)
      | go_keep))
    ((first
      | (go_at_call 28; refine (HVB.out _ (show Below w1.heap.size w1 _ ∧ _ by assumption).1).mono ?_; rintro e wk ⟨rfl, hbw⟩; have hbk := (show Below w1.heap.size w1 _ ∧ _ by assumption).1.trans (hbw.mono (show Below w1.heap.size w1 _ ∧ _ by assumption).1.size); clear hbw)
      | fail))
  all_goals (
    have HBK := Lib.hid (HB.out.trans (hbk.mono HB.out.size))
    clear hbk hbk0
    go_wp2_with fail
    go_ret
    exact ⟨by rw [HRV.out]; rfl, HBK.out⟩)

theorem validFields_any (B n : Nat) (v : CkV) (P : CkP) (x : InC) (w : World) (h : CkIn w B n v P) (hok : InOk w B x) :
    Calls Try.prog 24 #[.agg (ckC v P), inV x] w fun e w' => e = .returned (.bool (fieldsF P x)) ∧ Below w.heap.size w w' := by
  by_cases h1 : x.op = 1
  · exact vf1_any B n v P x w h hok h1
  by_cases h5 : x.op = 5
  · exact vf5_any B n v P x w h hok h5
  by_cases h6 : x.op = 6
  · exact vf6_any B n v P x w h hok h6
  by_cases h7 : x.op = 7
  · exact vf7_any B n v P x w h hok h7
  by_cases h8 : x.op = 8
  · exact vf8_any B n v P x w h hok h8
  by_cases h10 : x.op = 10
  · exact vf10_any B n v P x w h hok h10
  by_cases h11 : x.op = 11
  · exact vf11_any B n v P x w h hok h11
  by_cases h12 : x.op = 12
  · exact vf12_any B n v P x w h hok h12
  by_cases h16 : x.op = 16
  · exact vf16_any B n v P x w h hok h16
  by_cases h17 : x.op = 17
  · exact vf17_any B n v P x w h hok h17
  by_cases h27 : x.op = 27
  · exact vf27_any B n v P x w h hok h27
  exact vfo_any B n v P x w h hok (by simp only [not_or]; exact ⟨h1, h5, h6, h7, h8, h10, h11, h12, h16, h17, h27⟩)
end Go.Proofs.Ythglcnodoophaaa
