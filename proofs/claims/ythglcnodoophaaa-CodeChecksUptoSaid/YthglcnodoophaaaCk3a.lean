
/-
  code.validFields: the instructions Const and Op.
-/
import Derived.Test.YthglcnodoophaaaCk2
import Derived.Test.YthglcnodoophaaaIn6
import Derived.Deep.QuietTactic
import Derived.BigQuiet
namespace Go.Proofs.Ythglcnodoophaaa
open Go.RowKit

theorem names_len (w : World) : Calls Try.prog 27 #[] w fun e w' => ∃ A, e = .returned (.slice A 9 9) ∧ Below w.heap.size w w' :=
  (names_any w).mono fun e w' ⟨h1, h2⟩ => ⟨_, h1, by rw [h2]; exact (Below.refl _ _).alloc (Nat.le_refl _) _⟩
set_option maxRecDepth 100000 in
set_option maxHeartbeats 4000000 in
theorem vf1_any (B n : Nat) (v : CkV) (P : CkP) (x : InC) (w : World) (h : CkIn w B n v P) (hok : InOk w B x) (hop : x.op = 1) :
    Calls Try.prog 24 #[.agg (ckC v P), inV x] w fun e w' => e = .returned (.bool (fieldsF P x)) ∧ Below w.heap.size w w' := by
  obtain ⟨r, hr⟩ : ∃ r, fieldsF P x = r := ⟨_, rfl⟩
  rw [hr]
  have hB := hok.hB
  have HVA := Lib.hid (fun hx w1 (hb : Below w.heap.size w w1) => validArms_any B n v P x w1 hx (h.below (hb.mono hB)) (hok.below hb))
  obtain ⟨s0, s1, s2, s3, s4, s5, s6⟩ := h.small
  have hxl := hok.len
  have HC := Lib.hid h
  have HOK := Lib.hid hok
  obtain ⟨q0, q1, A2, c2, A3, c3, A4, c4, A5, c5, A6, c6⟩ := v
  obtain ⟨nT, nN, fns, acs, ims, mks, pats⟩ := P
  obtain ⟨op, a, b, c, A, cap, args⟩ := x
  unfold fieldsF at hr
  unfold inV at HVA ⊢
  unfold ckC at HVA ⊢
  dsimp only at hop HVA s0 s1 s2 s3 s4 s5 s6 hxl hr ⊢
  have hb : Below w.heap.size w ((w.alloc (.cells #[.slice q0.A nT q0.cap, .slice q1.A nN q1.cap, .slice A2 fns.length c2, .slice A3 acs.length c3, .slice A4 ims.length c4, .slice A5 mks.length c5, .slice A6 pats.length c6] 30)).alloc (.cells #[.int .i64 op, .int .i64 a, .int .i64 b, .int .i64 c, .slice A args.length cap] 33)) := ((Below.refl _ _).alloc (Nat.le_refl _) _).alloc (by simp) _
  have hx2 := (Box.new w 30 #[.slice q0.A nT q0.cap, .slice q1.A nN q1.cap, .slice A2 fns.length c2, .slice A3 acs.length c3, .slice A4 ims.length c4, .slice A5 mks.length c5, .slice A6 pats.length c6]).alloc (.cells #[.int .i64 op, .int .i64 a, .int .i64 b, .int .i64 c, .slice A args.length cap] 33)
  have hx3 := Box.new (w.alloc (.cells #[.slice q0.A nT q0.cap, .slice q1.A nN q1.cap, .slice A2 fns.length c2, .slice A3 acs.length c3, .slice A4 ims.length c4, .slice A5 mks.length c5, .slice A6 pats.length c6] 30)) 33 #[.int .i64 op, .int .i64 a, .int .i64 b, .int .i64 c, .slice A args.length cap]
  rw [show (w.alloc (.cells #[.slice q0.A nT q0.cap, .slice q1.A nN q1.cap, .slice A2 fns.length c2, .slice A3 acs.length c3, .slice A4 ims.length c4, .slice A5 mks.length c5, .slice A6 pats.length c6] 30)).heap.size = w.heap.size + 1 by simp] at hx3
  have HOP := Lib.hid hop
  have HR := Lib.hid hr
  have HB := Lib.hid hb
  have HX2 := Lib.hid hx2
  have HX3 := Lib.hid hx3
  have HWI := Lib.hid (fun i n w' => within_any i n w')
  clear h hok hb hx2 hx3 hr hop
  go_enter Try.func24, Try.ntmps24
  go_upto_region 1 with fail
  generalize (w.alloc (.cells #[.slice q0.A nT q0.cap, .slice q1.A nN q1.cap, .slice A2 fns.length c2, .slice A3 acs.length c3, .slice A4 ims.length c4, .slice A5 mks.length c5, .slice A6 pats.length c6] 30)).alloc (.cells #[.int .i64 op, .int .i64 a, .int .i64 b, .int .i64 c, .slice A args.length cap] 33) = w1 at *
  have f0 : w1.cell? ⟨w.heap.size, 0, none⟩ = some (.slice q0.A nT q0.cap) := HX2.out.cell 0
  have f1 : w1.cell? ⟨w.heap.size, 1, none⟩ = some (.slice q1.A nN q1.cap) := HX2.out.cell 1
  have f2 : w1.cell? ⟨w.heap.size, 2, none⟩ = some (.slice A2 fns.length c2) := HX2.out.cell 2
  have f3 : w1.cell? ⟨w.heap.size, 3, none⟩ = some (.slice A3 acs.length c3) := HX2.out.cell 3
  have f4 : w1.cell? ⟨w.heap.size, 4, none⟩ = some (.slice A4 ims.length c4) := HX2.out.cell 4
  have f5 : w1.cell? ⟨w.heap.size, 5, none⟩ = some (.slice A5 mks.length c5) := HX2.out.cell 5
  have f6 : w1.cell? ⟨w.heap.size, 6, none⟩ = some (.slice A6 pats.length c6) := HX2.out.cell 6
  have g0 : w1.cell? ⟨w.heap.size + 1, 0, none⟩ = some (.int .i64 op) := HX3.out.cell 0
  have g1 : w1.cell? ⟨w.heap.size + 1, 1, none⟩ = some (.int .i64 a) := HX3.out.cell 1
  have g2 : w1.cell? ⟨w.heap.size + 1, 2, none⟩ = some (.int .i64 b) := HX3.out.cell 2
  have g3 : w1.cell? ⟨w.heap.size + 1, 3, none⟩ = some (.int .i64 c) := HX3.out.cell 3
  have g4 : w1.cell? ⟨w.heap.size + 1, 4, none⟩ = some (.slice A args.length cap) := HX3.out.cell 4
  have hop := HOP.out
  clear HOP
  · subst hop
    by_cases b1 : b = 1
    · subst b1
      have hrv : r = true := by rw [← HR.out]; simp
      subst hrv
      clear HR
      go_wp2_with fail
      go_ret
      exact ⟨rfl, HB.out⟩
    have n1 : (b == 1) = false := by simp [b1]
    by_cases b3 : b = 3
    · subst b3
      by_cases k0 : c = 0
      · subst k0
        have hrv : r = true := by rw [← HR.out]; simp [inB]
        subst hrv
        clear HR
        go_wp2_with fail
        go_ret
        exact ⟨rfl, HB.out⟩
      · have m0 : (c == 0) = false := by simp [k0]
        by_cases k1 : c = 1
        · subst k1
          have hrv : r = true := by rw [← HR.out]; simp [inB]
          subst hrv
          clear HR
          go_wp2_with fail
          go_ret
          exact ⟨rfl, HB.out⟩
        · have m1 : (c == 1) = false := by simp [k1]
          have hrv : r = false := by
            rw [← HR.out]
            simp only [inB]
            simp
            omega
          subst hrv
          clear HR
          go_wp2_with fail
          go_ret
          exact ⟨rfl, HB.out⟩
    have n3 : (b == 3) = false := by simp [b3]
    by_cases b2 : b = 2
    · subst b2
      have hrv : r = inB c nN := by rw [← HR.out]; simp
      have HRV := Lib.hid hrv
      clear hrv
      go_wp2_with fail
      refine (HWI.out _ _ _).mono ?_
      rintro e w3 ⟨rfl, rfl⟩
      go_wp2_with fail
      go_ret
      exact ⟨by rw [HRV.out]; rfl, HB.out⟩
    have n2 : (b == 2) = false := by simp [b2]
    by_cases b4 : b = 4
    · subst b4
      have hrv : r = inB c nT := by rw [← HR.out]; simp
      have HRV := Lib.hid hrv
      clear hrv
      go_wp2_with fail
      refine (HWI.out _ _ _).mono ?_
      rintro e w3 ⟨rfl, rfl⟩
      go_wp2_with fail
      go_ret
      exact ⟨by rw [HRV.out]; rfl, HB.out⟩
    have n4 : (b == 4) = false := by simp [b4]
    have hrv : r = false := by rw [← HR.out]; simp [b1, b2, b3, b4]
    subst hrv
    clear HR b1 b2 b3 b4
    go_wp2_with fail
    go_ret
    exact ⟨rfl, HB.out⟩

set_option maxRecDepth 100000 in
set_option maxHeartbeats 4000000 in
theorem vf5_any (B n : Nat) (v : CkV) (P : CkP) (x : InC) (w : World) (h : CkIn w B n v P) (hok : InOk w B x) (hop : x.op = 5) :
    Calls Try.prog 24 #[.agg (ckC v P), inV x] w fun e w' => e = .returned (.bool (fieldsF P x)) ∧ Below w.heap.size w w' := by
  obtain ⟨r, hr⟩ : ∃ r, fieldsF P x = r := ⟨_, rfl⟩
  rw [hr]
  have hB := hok.hB
  have HVA := Lib.hid (fun hx w1 (hb : Below w.heap.size w w1) => validArms_any B n v P x w1 hx (h.below (hb.mono hB)) (hok.below hb))
  obtain ⟨s0, s1, s2, s3, s4, s5, s6⟩ := h.small
  have hxl := hok.len
  have HC := Lib.hid h
  have HOK := Lib.hid hok
  obtain ⟨q0, q1, A2, c2, A3, c3, A4, c4, A5, c5, A6, c6⟩ := v
  obtain ⟨nT, nN, fns, acs, ims, mks, pats⟩ := P
  obtain ⟨op, a, b, c, A, cap, args⟩ := x
  unfold fieldsF at hr
  unfold inV at HVA ⊢
  unfold ckC at HVA ⊢
  dsimp only at hop HVA s0 s1 s2 s3 s4 s5 s6 hxl hr ⊢
  have hb : Below w.heap.size w ((w.alloc (.cells #[.slice q0.A nT q0.cap, .slice q1.A nN q1.cap, .slice A2 fns.length c2, .slice A3 acs.length c3, .slice A4 ims.length c4, .slice A5 mks.length c5, .slice A6 pats.length c6] 30)).alloc (.cells #[.int .i64 op, .int .i64 a, .int .i64 b, .int .i64 c, .slice A args.length cap] 33)) := ((Below.refl _ _).alloc (Nat.le_refl _) _).alloc (by simp) _
  have hx2 := (Box.new w 30 #[.slice q0.A nT q0.cap, .slice q1.A nN q1.cap, .slice A2 fns.length c2, .slice A3 acs.length c3, .slice A4 ims.length c4, .slice A5 mks.length c5, .slice A6 pats.length c6]).alloc (.cells #[.int .i64 op, .int .i64 a, .int .i64 b, .int .i64 c, .slice A args.length cap] 33)
  have hx3 := Box.new (w.alloc (.cells #[.slice q0.A nT q0.cap, .slice q1.A nN q1.cap, .slice A2 fns.length c2, .slice A3 acs.length c3, .slice A4 ims.length c4, .slice A5 mks.length c5, .slice A6 pats.length c6] 30)) 33 #[.int .i64 op, .int .i64 a, .int .i64 b, .int .i64 c, .slice A args.length cap]
  rw [show (w.alloc (.cells #[.slice q0.A nT q0.cap, .slice q1.A nN q1.cap, .slice A2 fns.length c2, .slice A3 acs.length c3, .slice A4 ims.length c4, .slice A5 mks.length c5, .slice A6 pats.length c6] 30)).heap.size = w.heap.size + 1 by simp] at hx3
  have HOP := Lib.hid hop
  have HR := Lib.hid hr
  have HB := Lib.hid hb
  have HX2 := Lib.hid hx2
  have HX3 := Lib.hid hx3
  have HWI := Lib.hid (fun i n w' => within_any i n w')
  clear h hok hb hx2 hx3 hr hop
  go_enter Try.func24, Try.ntmps24
  go_upto_region 1 with fail
  generalize (w.alloc (.cells #[.slice q0.A nT q0.cap, .slice q1.A nN q1.cap, .slice A2 fns.length c2, .slice A3 acs.length c3, .slice A4 ims.length c4, .slice A5 mks.length c5, .slice A6 pats.length c6] 30)).alloc (.cells #[.int .i64 op, .int .i64 a, .int .i64 b, .int .i64 c, .slice A args.length cap] 33) = w1 at *
  have f0 : w1.cell? ⟨w.heap.size, 0, none⟩ = some (.slice q0.A nT q0.cap) := HX2.out.cell 0
  have f1 : w1.cell? ⟨w.heap.size, 1, none⟩ = some (.slice q1.A nN q1.cap) := HX2.out.cell 1
  have f2 : w1.cell? ⟨w.heap.size, 2, none⟩ = some (.slice A2 fns.length c2) := HX2.out.cell 2
  have f3 : w1.cell? ⟨w.heap.size, 3, none⟩ = some (.slice A3 acs.length c3) := HX2.out.cell 3
  have f4 : w1.cell? ⟨w.heap.size, 4, none⟩ = some (.slice A4 ims.length c4) := HX2.out.cell 4
  have f5 : w1.cell? ⟨w.heap.size, 5, none⟩ = some (.slice A5 mks.length c5) := HX2.out.cell 5
  have f6 : w1.cell? ⟨w.heap.size, 6, none⟩ = some (.slice A6 pats.length c6) := HX2.out.cell 6
  have g0 : w1.cell? ⟨w.heap.size + 1, 0, none⟩ = some (.int .i64 op) := HX3.out.cell 0
  have g1 : w1.cell? ⟨w.heap.size + 1, 1, none⟩ = some (.int .i64 a) := HX3.out.cell 1
  have g2 : w1.cell? ⟨w.heap.size + 1, 2, none⟩ = some (.int .i64 b) := HX3.out.cell 2
  have g3 : w1.cell? ⟨w.heap.size + 1, 3, none⟩ = some (.int .i64 c) := HX3.out.cell 3
  have g4 : w1.cell? ⟨w.heap.size + 1, 4, none⟩ = some (.slice A args.length cap) := HX3.out.cell 4
  have hop := HOP.out
  clear HOP
  · subst hop
    by_cases b8 : b = 8
    · subst b8
      have hin : inB 8 9 = true := by decide
      by_cases la : args.length = 1
      · have la1 : ((args.length : Int) == 1) = true := by simp [la]
        have HRV : Hid (r = true) := by show _ = _; rw [← HR.out]; simp [la, inB]
        clear la HR
        have HW9 := Lib.hid (fun w' => within_any 8 9 w')
        rw [hin] at HW9
        have HSK : Hid (∀ w', Below w1.heap.size w1 w' → Below w1.heap.size w1 w' ∧ w'.cell? ⟨w.heap.size + 1, 2, none⟩ = some (.int .i64 8) ∧ w'.cell? ⟨w.heap.size + 1, 4, none⟩ = some (.slice A args.length cap)) := fun w' hb => ⟨hb, (HX3.out.below hb HX3.out.lt).cell 2, (HX3.out.below hb HX3.out.lt).cell 4⟩
        have hbk0 := Below.refl w1.heap.size w1
        go_upto_region 15 with fail
        clear f0 f1 f2 f3 f4 f5 f6 g1 g2 g3 g4 g0
        go_region_held3 (fun w' => Below w1.heap.size w1 w' ∧ w'.cell? ⟨w.heap.size + 1, 2, none⟩ = some (.int .i64 8) ∧ w'.cell? ⟨w.heap.size + 1, 4, none⟩ = some (.slice A args.length cap))
          ((first
            | with_reducible exact HSK.out _ hbk
            | with_reducible exact HSK.out _ (below_drewK hbk0)
            | go_keep))
          ((first
            | (go_at_call 27; refine (names_len _).mono ?_; rintro e wk ⟨An, rfl, hbw⟩; have hbk := (show Below w1.heap.size w1 _ ∧ _ by assumption).1.trans (hbw.mono (show Below w1.heap.size w1 _ ∧ _ by assumption).1.size); clear hbw)
            | (go_at_call 8; refine (HW9.out _).mono ?_; rintro e wk2 ⟨rfl, rfl⟩)
            | fail))
        go_upto_region 17 with fail
        have hbk1 := hbk
        clear hbk hbk0
        go_region_held3 (fun w' => Below w1.heap.size w1 w' ∧ w'.cell? ⟨w.heap.size + 1, 2, none⟩ = some (.int .i64 8) ∧ w'.cell? ⟨w.heap.size + 1, 4, none⟩ = some (.slice A args.length cap))
          ((first
            | with_reducible exact HSK.out _ hbk
            | with_reducible exact HSK.out _ (below_drewK hbk1)
            | go_keep))
          ((first
            | (go_at_call 27; refine (names_len _).mono ?_; rintro e wk ⟨An, rfl, hbw⟩; have hbk := (show Below w1.heap.size w1 _ ∧ _ by assumption).1.trans (hbw.mono (show Below w1.heap.size w1 _ ∧ _ by assumption).1.size); clear hbw)
            | (go_at_call 8; refine (HW9.out _).mono ?_; rintro e wk2 ⟨rfl, rfl⟩)
            | fail))
        all_goals (
          have HBK := Lib.hid (HB.out.trans (hbk.mono HB.out.size))
          clear hbk hbk1
          go_wp2_with fail
          go_ret
          exact ⟨by rw [HRV.out]; rfl, HBK.out⟩)
      · have la1 : ((args.length : Int) == 1) = false := by simp; omega
        have HRV : Hid (r = false) := by show _ = _; rw [← HR.out]; simp [la, inB]
        clear la HR
        have HW9 := Lib.hid (fun w' => within_any 8 9 w')
        rw [hin] at HW9
        have HSK : Hid (∀ w', Below w1.heap.size w1 w' → Below w1.heap.size w1 w' ∧ w'.cell? ⟨w.heap.size + 1, 2, none⟩ = some (.int .i64 8) ∧ w'.cell? ⟨w.heap.size + 1, 4, none⟩ = some (.slice A args.length cap)) := fun w' hb => ⟨hb, (HX3.out.below hb HX3.out.lt).cell 2, (HX3.out.below hb HX3.out.lt).cell 4⟩
        have hbk0 := Below.refl w1.heap.size w1
        go_upto_region 15 with fail
        clear f0 f1 f2 f3 f4 f5 f6 g1 g2 g3 g4 g0
        go_region_held3 (fun w' => Below w1.heap.size w1 w' ∧ w'.cell? ⟨w.heap.size + 1, 2, none⟩ = some (.int .i64 8) ∧ w'.cell? ⟨w.heap.size + 1, 4, none⟩ = some (.slice A args.length cap))
          ((first
            | with_reducible exact HSK.out _ hbk
            | with_reducible exact HSK.out _ (below_drewK hbk0)
            | go_keep))
          ((first
            | (go_at_call 27; refine (names_len _).mono ?_; rintro e wk ⟨An, rfl, hbw⟩; have hbk := (show Below w1.heap.size w1 _ ∧ _ by assumption).1.trans (hbw.mono (show Below w1.heap.size w1 _ ∧ _ by assumption).1.size); clear hbw)
            | (go_at_call 8; refine (HW9.out _).mono ?_; rintro e wk2 ⟨rfl, rfl⟩)
            | fail))
        go_upto_region 17 with fail
        have hbk1 := hbk
        clear hbk hbk0
        go_region_held3 (fun w' => Below w1.heap.size w1 w' ∧ w'.cell? ⟨w.heap.size + 1, 2, none⟩ = some (.int .i64 8) ∧ w'.cell? ⟨w.heap.size + 1, 4, none⟩ = some (.slice A args.length cap))
          ((first
            | with_reducible exact HSK.out _ hbk
            | with_reducible exact HSK.out _ (below_drewK hbk1)
            | go_keep))
          ((first
            | (go_at_call 27; refine (names_len _).mono ?_; rintro e wk ⟨An, rfl, hbw⟩; have hbk := (show Below w1.heap.size w1 _ ∧ _ by assumption).1.trans (hbw.mono (show Below w1.heap.size w1 _ ∧ _ by assumption).1.size); clear hbw)
            | (go_at_call 8; refine (HW9.out _).mono ?_; rintro e wk2 ⟨rfl, rfl⟩)
            | fail))
        all_goals (
          have HBK := Lib.hid (HB.out.trans (hbk.mono HB.out.size))
          clear hbk hbk1
          go_wp2_with fail
          go_ret
          exact ⟨by rw [HRV.out]; rfl, HBK.out⟩)
    · have n8 : (b == 8) = false := by simp [b8]
      have n8' : (b == IntKind.i64.wrap 8) = false := by rw [show IntKind.i64.wrap 8 = 8 by decide]; exact n8
      cases hin : inB b 9 with
      | true =>
        by_cases la : args.length = 2
        · have la1 : ((args.length : Int) == 2) = true := by simp [la]
          have HRV : Hid (r = true) := by show _ = _; rw [← HR.out]; simp [la, b8, hin]
          clear la HR
          have HW9 := Lib.hid (fun w' => within_any b 9 w')
          rw [hin] at HW9
          have HSK : Hid (∀ w', Below w1.heap.size w1 w' → Below w1.heap.size w1 w' ∧ w'.cell? ⟨w.heap.size + 1, 2, none⟩ = some (.int .i64 b) ∧ w'.cell? ⟨w.heap.size + 1, 4, none⟩ = some (.slice A args.length cap)) := fun w' hb => ⟨hb, (HX3.out.below hb HX3.out.lt).cell 2, (HX3.out.below hb HX3.out.lt).cell 4⟩
          have hbk0 := Below.refl w1.heap.size w1
          go_upto_region 15 with fail
          clear f0 f1 f2 f3 f4 f5 f6 g1 g2 g3 g4 g0
          go_region_held3 (fun w' => Below w1.heap.size w1 w' ∧ w'.cell? ⟨w.heap.size + 1, 2, none⟩ = some (.int .i64 b) ∧ w'.cell? ⟨w.heap.size + 1, 4, none⟩ = some (.slice A args.length cap))
            ((first
              | with_reducible exact HSK.out _ hbk
              | with_reducible exact HSK.out _ (below_drewK hbk0)
              | go_keep))
            ((first
              | (go_at_call 27; refine (names_len _).mono ?_; rintro e wk ⟨An, rfl, hbw⟩; have hbk := (show Below w1.heap.size w1 _ ∧ _ by assumption).1.trans (hbw.mono (show Below w1.heap.size w1 _ ∧ _ by assumption).1.size); clear hbw)
              | (go_at_call 8; refine (HW9.out _).mono ?_; rintro e wk2 ⟨rfl, rfl⟩)
              | fail))
          go_upto_region 17 with fail
          have hbk1 := hbk
          clear hbk hbk0
          go_region_held3 (fun w' => Below w1.heap.size w1 w' ∧ w'.cell? ⟨w.heap.size + 1, 2, none⟩ = some (.int .i64 b) ∧ w'.cell? ⟨w.heap.size + 1, 4, none⟩ = some (.slice A args.length cap))
            ((first
              | with_reducible exact HSK.out _ hbk
              | with_reducible exact HSK.out _ (below_drewK hbk1)
              | go_keep))
            ((first
              | (go_at_call 27; refine (names_len _).mono ?_; rintro e wk ⟨An, rfl, hbw⟩; have hbk := (show Below w1.heap.size w1 _ ∧ _ by assumption).1.trans (hbw.mono (show Below w1.heap.size w1 _ ∧ _ by assumption).1.size); clear hbw)
              | (go_at_call 8; refine (HW9.out _).mono ?_; rintro e wk2 ⟨rfl, rfl⟩)
              | fail))
          all_goals (
            have HBK := Lib.hid (HB.out.trans (hbk.mono HB.out.size))
            clear hbk hbk1
            go_wp2_with fail
            go_ret
            exact ⟨by rw [HRV.out]; rfl, HBK.out⟩)
        · have la1 : ((args.length : Int) == 2) = false := by simp; omega
          have HRV : Hid (r = false) := by show _ = _; rw [← HR.out]; simp [la, b8, hin]
          clear la HR
          have HW9 := Lib.hid (fun w' => within_any b 9 w')
          rw [hin] at HW9
          have HSK : Hid (∀ w', Below w1.heap.size w1 w' → Below w1.heap.size w1 w' ∧ w'.cell? ⟨w.heap.size + 1, 2, none⟩ = some (.int .i64 b) ∧ w'.cell? ⟨w.heap.size + 1, 4, none⟩ = some (.slice A args.length cap)) := fun w' hb => ⟨hb, (HX3.out.below hb HX3.out.lt).cell 2, (HX3.out.below hb HX3.out.lt).cell 4⟩
          have hbk0 := Below.refl w1.heap.size w1
          go_upto_region 15 with fail
          clear f0 f1 f2 f3 f4 f5 f6 g1 g2 g3 g4 g0
          go_region_held3 (fun w' => Below w1.heap.size w1 w' ∧ w'.cell? ⟨w.heap.size + 1, 2, none⟩ = some (.int .i64 b) ∧ w'.cell? ⟨w.heap.size + 1, 4, none⟩ = some (.slice A args.length cap))
            ((first
              | with_reducible exact HSK.out _ hbk
              | with_reducible exact HSK.out _ (below_drewK hbk0)
              | go_keep))
            ((first
              | (go_at_call 27; refine (names_len _).mono ?_; rintro e wk ⟨An, rfl, hbw⟩; have hbk := (show Below w1.heap.size w1 _ ∧ _ by assumption).1.trans (hbw.mono (show Below w1.heap.size w1 _ ∧ _ by assumption).1.size); clear hbw)
              | (go_at_call 8; refine (HW9.out _).mono ?_; rintro e wk2 ⟨rfl, rfl⟩)
              | fail))
          go_upto_region 17 with fail
          have hbk1 := hbk
          clear hbk hbk0
          go_region_held3 (fun w' => Below w1.heap.size w1 w' ∧ w'.cell? ⟨w.heap.size + 1, 2, none⟩ = some (.int .i64 b) ∧ w'.cell? ⟨w.heap.size + 1, 4, none⟩ = some (.slice A args.length cap))
            ((first
              | with_reducible exact HSK.out _ hbk
              | with_reducible exact HSK.out _ (below_drewK hbk1)
              | go_keep))
            ((first
              | (go_at_call 27; refine (names_len _).mono ?_; rintro e wk ⟨An, rfl, hbw⟩; have hbk := (show Below w1.heap.size w1 _ ∧ _ by assumption).1.trans (hbw.mono (show Below w1.heap.size w1 _ ∧ _ by assumption).1.size); clear hbw)
              | (go_at_call 8; refine (HW9.out _).mono ?_; rintro e wk2 ⟨rfl, rfl⟩)
              | fail))
          all_goals (
            have HBK := Lib.hid (HB.out.trans (hbk.mono HB.out.size))
            clear hbk hbk1
            go_wp2_with fail
            go_ret
            exact ⟨by rw [HRV.out]; rfl, HBK.out⟩)
      | false =>
        have HRV : Hid (r = false) := by show _ = _; rw [← HR.out]; simp [hin]
        clear HR
        have HW9 := Lib.hid (fun w' => within_any b 9 w')
        rw [hin] at HW9
        have HSK : Hid (∀ w', Below w1.heap.size w1 w' → Below w1.heap.size w1 w' ∧ w'.cell? ⟨w.heap.size + 1, 2, none⟩ = some (.int .i64 b) ∧ w'.cell? ⟨w.heap.size + 1, 4, none⟩ = some (.slice A args.length cap)) := fun w' hb => ⟨hb, (HX3.out.below hb HX3.out.lt).cell 2, (HX3.out.below hb HX3.out.lt).cell 4⟩
        have hbk0 := Below.refl w1.heap.size w1
        go_upto_region 15 with fail
        clear f0 f1 f2 f3 f4 f5 f6 g1 g2 g3 g4 g0
        go_region_held3 (fun w' => Below w1.heap.size w1 w' ∧ w'.cell? ⟨w.heap.size + 1, 2, none⟩ = some (.int .i64 b) ∧ w'.cell? ⟨w.heap.size + 1, 4, none⟩ = some (.slice A args.length cap))
          ((first
            | with_reducible exact HSK.out _ hbk
            | with_reducible exact HSK.out _ (below_drewK hbk0)
            | go_keep))
          ((first
            | (go_at_call 27; refine (names_len _).mono ?_; rintro e wk ⟨An, rfl, hbw⟩; have hbk := (show Below w1.heap.size w1 _ ∧ _ by assumption).1.trans (hbw.mono (show Below w1.heap.size w1 _ ∧ _ by assumption).1.size); clear hbw)
            | (go_at_call 8; refine (HW9.out _).mono ?_; rintro e wk2 ⟨rfl, rfl⟩)
            | fail))
        go_upto_region 17 with fail
        have hbk1 := hbk
        clear hbk hbk0
        refine wp_region_held_drew (S := (fun w' => Below w1.heap.size w1 w' ∧ w'.cell? ⟨w.heap.size + 1, 2, none⟩ = some (.int .i64 b) ∧ w'.cell? ⟨w.heap.size + 1, 4, none⟩ = some (.slice A args.length cap))) (by kernel_rfl) (by exact HSK.out _ (below_drewK hbk1)) (fun hHeld => ?_)
        refine wpAnyH_take (i := 0) (v := ?_) rfl (by kernel_rfl) (by kernel_rfl) (by kernel_rfl) (fun _ _ _ h => h) (Or.inl ⟨by rfl, ?_⟩) (by assumption) ?_
        rotate_left
        · (intro w hSw; (try dsimp only at hSw); go_simp; (try with_reducible rfl))
        try simp only [List.getElem_toArray]
        try simp only [List.getElem_cons_succ]
        try simp only [List.getElem_cons_zero]
        try simp only [Act.put]
        try simp only [List.setIfInBounds_toArray]
        try simp only [List.set_cons_succ]
        try simp only [List.set_cons_zero]
        refine wpAnyH_take (i := 1) (v := ?_) rfl (by kernel_rfl) (by kernel_rfl) (by kernel_rfl) (fun _ _ _ h => h) (Or.inl ⟨by rfl, ?_⟩) (by assumption) ?_
        rotate_left
        · (intro w hSw; (try dsimp only at hSw); go_simp; (try with_reducible rfl))
        try simp only [List.getElem_toArray]
        try simp only [List.getElem_cons_succ]
        try simp only [List.getElem_cons_zero]
        try simp only [Act.put]
        try simp only [List.setIfInBounds_toArray]
        try simp only [List.set_cons_succ]
        try simp only [List.set_cons_zero]
        refine wpAnyH_ready (rs := [2]) (by kernel_rfl) (by simp) ?_
        refine AllReadyH.cons rfl (fun K hK => ?_) AllReadyH.nil
        go_simp
        go_at_call 27
        refine (names_len _).mono ?_
        rintro e wk ⟨An, rfl, hbw⟩
        have hbk := hHeld.1.trans (hbw.mono hHeld.1.size)
        clear hbw
        go_wp2_with fail
        refine hK.out _ _ (HSK.out _ hbk) (fun hHeld => ?_)
        clear hK K
        try simp only [List.getElem_toArray]
        try simp only [List.getElem_cons_succ]
        try simp only [List.getElem_cons_zero]
        try simp only [Act.put]
        try simp only [List.setIfInBounds_toArray]
        try simp only [List.set_cons_succ]
        try simp only [List.set_cons_zero]
        refine wpAnyH_take (i := 3) (v := ?_) rfl (by kernel_rfl) (by kernel_rfl) (by kernel_rfl) (fun _ _ _ h => h) (Or.inl ⟨by rfl, ?_⟩) (by assumption) ?_
        rotate_left
        · (intro w hSw; (try dsimp only at hSw); go_simp; (try with_reducible rfl))
        try simp only [List.getElem_toArray]
        try simp only [List.getElem_cons_succ]
        try simp only [List.getElem_cons_zero]
        try simp only [Act.put]
        try simp only [List.setIfInBounds_toArray]
        try simp only [List.set_cons_succ]
        try simp only [List.set_cons_zero]
        refine wpAnyH_ready (rs := [4]) (by kernel_rfl) (by simp) ?_
        refine AllReadyH.cons rfl (fun K hK => ?_) AllReadyH.nil
        go_simp
        go_at_call 8
        refine (HW9.out _).mono ?_
        rintro e wk2 ⟨rfl, rfl⟩
        go_wp2_with fail
        refine hK.out _ _ (HSK.out _ hbk) (fun hHeld => ?_)
        clear hK K
        try simp only [List.getElem_toArray]
        try simp only [List.getElem_cons_succ]
        try simp only [List.getElem_cons_zero]
        try simp only [Act.put]
        try simp only [List.setIfInBounds_toArray]
        try simp only [List.set_cons_succ]
        try simp only [List.set_cons_zero]
        refine wpAnyH_take (i := 5) (v := ?_) rfl (by kernel_rfl) (by kernel_rfl) (by kernel_rfl) (fun _ _ _ h => h) (Or.inl ⟨by rfl, ?_⟩) (by assumption) ?_
        rotate_left
        · (intro w hSw; (try dsimp only at hSw); go_simp; (try with_reducible rfl))
        try simp only [List.getElem_toArray]
        try simp only [List.getElem_cons_succ]
        try simp only [List.getElem_cons_zero]
        try simp only [Act.put]
        try simp only [List.setIfInBounds_toArray]
        try simp only [List.set_cons_succ]
        try simp only [List.set_cons_zero]
        refine wpAnyH_take (i := 6) (v := undef) rfl (by kernel_rfl) (by kernel_rfl) (by kernel_rfl) (fun _ _ _ h => h) (Or.inr ⟨by rfl, rfl⟩) (by assumption) ?_
        try simp only [List.getElem_toArray]
        try simp only [List.getElem_cons_succ]
        try simp only [List.getElem_cons_zero]
        try simp only [Act.put]
        try simp only [List.setIfInBounds_toArray]
        try simp only [List.set_cons_succ]
        try simp only [List.set_cons_zero]
        refine wpAnyH_take (i := 7) (v := undef) rfl (by kernel_rfl) (by kernel_rfl) (by kernel_rfl) (fun _ _ _ h => h) (Or.inr ⟨by rfl, rfl⟩) (by assumption) ?_
        try simp only [List.getElem_toArray]
        try simp only [List.getElem_cons_succ]
        try simp only [List.getElem_cons_zero]
        try simp only [Act.put]
        try simp only [List.setIfInBounds_toArray]
        try simp only [List.set_cons_succ]
        try simp only [List.set_cons_zero]
        refine wpAnyH_take (i := 8) (v := undef) rfl (by kernel_rfl) (by kernel_rfl) (by kernel_rfl) (fun _ _ _ h => h) (Or.inr ⟨by rfl, rfl⟩) (by assumption) ?_
        try simp only [List.getElem_toArray]
        try simp only [List.getElem_cons_succ]
        try simp only [List.getElem_cons_zero]
        try simp only [Act.put]
        try simp only [List.setIfInBounds_toArray]
        try simp only [List.set_cons_succ]
        try simp only [List.set_cons_zero]
        refine wpAnyH_take (i := 9) (v := undef) rfl (by kernel_rfl) (by kernel_rfl) (by kernel_rfl) (fun _ _ _ h => h) (Or.inr ⟨by rfl, rfl⟩) (by assumption) ?_
        try simp only [List.getElem_toArray]
        try simp only [List.getElem_cons_succ]
        try simp only [List.getElem_cons_zero]
        try simp only [Act.put]
        try simp only [List.setIfInBounds_toArray]
        try simp only [List.set_cons_succ]
        try simp only [List.set_cons_zero]
        refine wpAnyH_take (i := 10) (v := undef) rfl (by kernel_rfl) (by kernel_rfl) (by kernel_rfl) (fun _ _ _ h => h) (Or.inr ⟨by rfl, rfl⟩) (by assumption) ?_
        try simp only [List.getElem_toArray]
        try simp only [List.getElem_cons_succ]
        try simp only [List.getElem_cons_zero]
        try simp only [Act.put]
        try simp only [List.setIfInBounds_toArray]
        try simp only [List.set_cons_succ]
        try simp only [List.set_cons_zero]
        refine wpAnyH_take (i := 11) (v := ?_) rfl (by kernel_rfl) (by kernel_rfl) (by kernel_rfl) (fun _ _ _ h => h) (Or.inl ⟨by rfl, ?_⟩) (by assumption) ?_
        rotate_left
        · (intro w hSw; (try dsimp only at hSw); go_simp; (try with_reducible rfl))
        try simp only [List.getElem_toArray]
        try simp only [List.getElem_cons_succ]
        try simp only [List.getElem_cons_zero]
        try simp only [Act.put]
        try simp only [List.setIfInBounds_toArray]
        try simp only [List.set_cons_succ]
        try simp only [List.set_cons_zero]
        refine wpAnyH_take (i := 12) (v := ?_) rfl (by kernel_rfl) (by kernel_rfl) (by kernel_rfl) (fun _ _ _ h => h) (Or.inl ⟨by rfl, ?_⟩) (by assumption) ?_
        rotate_left
        · (intro w hSw; (try dsimp only at hSw); go_simp; (try with_reducible rfl))
        try simp only [List.getElem_toArray]
        try simp only [List.getElem_cons_succ]
        try simp only [List.getElem_cons_zero]
        try simp only [Act.put]
        try simp only [List.setIfInBounds_toArray]
        try simp only [List.set_cons_succ]
        try simp only [List.set_cons_zero]
        refine wpAnyH_done (by kernel_rfl) ?_ _
        have HBK := Lib.hid (HB.out.trans (hbk.mono HB.out.size))
        clear hbk hbk1 hHeld
        go_wp2_with fail
        go_ret
        exact ⟨by rw [HRV.out]; rfl, HBK.out⟩
end Go.Proofs.Ythglcnodoophaaa
