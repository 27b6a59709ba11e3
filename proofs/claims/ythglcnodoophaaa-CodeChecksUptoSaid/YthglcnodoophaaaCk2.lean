
/-
  code.validArms: is there an arm for each pattern?
-/
import Derived.Test.YthglcnodoophaaaCk1
import Derived.Deep.RegionHeld3
namespace Go.Proofs.Ythglcnodoophaaa
open Go.RowKit

theorem below_drewK {B : Nat} {w w' : World} (h : Below B w w') : Below B w w'.drew := ⟨h.os, h.tape, h.output, h.size, h.block⟩

set_option maxRecDepth 100000 in
set_option maxHeartbeats 1000000 in
theorem armFit_any (pc : Int) (A : Option Addr) (m cap n B : Nat) (p : PaC) (v : Pt) (w : World) (h : PaIn w (· < B) n p v) (hB : B ≤ w.heap.size) (hs : v.size ≤ 1048576) :
    Calls Try.prog 31 #[.agg #[.int .i64 pc, .slice A m cap], paV p] w fun e w' => e = .returned (.bool (decide (m = v.bn))) ∧ Below w.heap.size w w' := by
  obtain ⟨k, nm, tx, Ap, lp, cp⟩ := p
  have hb : Below w.heap.size w ((w.alloc (.cells #[.int .i64 pc, .slice A m cap] 60)).alloc (.cells #[.int .i64 k, .int .i64 nm, .string tx, .slice Ap lp cp] 41)) := ((Below.refl _ _).alloc (Nat.le_refl _) _).alloc (by simp) _
  have hx2 := (Box.new w 60 #[.int .i64 pc, .slice A m cap]).alloc (.cells #[.int .i64 k, .int .i64 nm, .string tx, .slice Ap lp cp] 41)
  have hx3 := Box.new (w.alloc (.cells #[.int .i64 pc, .slice A m cap] 60)) 41 #[.int .i64 k, .int .i64 nm, .string tx, .slice Ap lp cp]
  rw [show (w.alloc (.cells #[.int .i64 pc, .slice A m cap] 60)).heap.size = w.heap.size + 1 by simp] at hx3
  have HBN := Lib.hid (fun w1 (hb1 : Below w.heap.size w w1) => binds_pa n ⟨k, nm, tx, Ap, lp, cp⟩ v B w1 (h.below (hb1.mono hB) (fun _ h => h)) (Nat.le_trans hB hb1.size) hs)
  unfold paV at HBN ⊢
  dsimp only at HBN ⊢
  have HB := Lib.hid hb
  have HX2 := Lib.hid hx2
  have HX3 := Lib.hid hx3
  have HDC : Hid (((m : Int) == (v.bn : Int)) = decide (m = v.bn)) := by
    show _ = _
    by_cases e : m = v.bn
    · rw [e]; simp
    · have : (m : Int) ≠ (v.bn : Int) := by omega
      simp [e, this]
  clear h hb hx2 hx3 hs
  go_enter Try.func31, Try.ntmps31
  go_upto_region 1 with fail
  generalize (w.alloc (.cells #[.int .i64 pc, .slice A m cap] 60)).alloc (.cells #[.int .i64 k, .int .i64 nm, .string tx, .slice Ap lp cp] 41) = w1 at *
  have HSK : Hid (∀ w', Below w1.heap.size w1 w' → Below w1.heap.size w1 w' ∧ w'.cell? ⟨w.heap.size, 1, none⟩ = some (.slice A m cap) ∧ w'.cell? ⟨w.heap.size + 1, 0, none⟩ = some (.int .i64 k) ∧ w'.cell? ⟨w.heap.size + 1, 1, none⟩ = some (.int .i64 nm) ∧ w'.cell? ⟨w.heap.size + 1, 2, none⟩ = some (.string tx) ∧ w'.cell? ⟨w.heap.size + 1, 3, none⟩ = some (.slice Ap lp cp)) :=
    fun w' hb => ⟨hb, (HX2.out.below hb HX2.out.lt).cell 1, (HX3.out.below hb HX3.out.lt).cell 0, (HX3.out.below hb HX3.out.lt).cell 1, (HX3.out.below hb HX3.out.lt).cell 2, (HX3.out.below hb HX3.out.lt).cell 3⟩
  have hbk0 := Below.refl w1.heap.size w1
  go_region_held3 (fun w' => Below w1.heap.size w1 w' ∧ w'.cell? ⟨w.heap.size, 1, none⟩ = some (.slice A m cap) ∧ w'.cell? ⟨w.heap.size + 1, 0, none⟩ = some (.int .i64 k) ∧ w'.cell? ⟨w.heap.size + 1, 1, none⟩ = some (.int .i64 nm) ∧ w'.cell? ⟨w.heap.size + 1, 2, none⟩ = some (.string tx) ∧ w'.cell? ⟨w.heap.size + 1, 3, none⟩ = some (.slice Ap lp cp))
    ((first
      | with_reducible exact HSK.out _ hbk
      | with_reducible exact HSK.out _ (below_drewK hbk0)
      | go_keep))
    ((first
      | (go_at_call 32; refine (HBN.out _ (HB.out.trans ((show Below w1.heap.size w1 _ ∧ _ by assumption).1.mono HB.out.size))).mono ?_; rintro e wk ⟨rfl, hbw⟩; have hbk := (show Below w1.heap.size w1 _ ∧ _ by assumption).1.trans (hbw.mono (show Below w1.heap.size w1 _ ∧ _ by assumption).1.size); clear hbw)
      | fail))
  all_goals (
    have HBK := Lib.hid (HB.out.trans (hbk.mono HB.out.size))
    clear hbk hbk0
    go_wp2_with fail
    go_ret
    exact ⟨by rw [HDC.out]; rfl, HBK.out⟩)

set_option maxRecDepth 100000 in
set_option maxHeartbeats 1000000 in
theorem armsFit_any (A A' : Option Addr) (c c' n B : Nat) (l : List ArC) (vs : List ArV) (lp : List PaC) (ps : List Pt) (w : World) (h : Arms w A l vs) (hB : B ≤ w.heap.size) (hl : lp.length = ps.length) (hr : Row w B A' (flat paC lp)) (he : ∀ i, i < lp.length → PaIn w (· < B) n (lp.getD i pac0) (ps.getD i pt0)) (hf : Few ps) (hn : vs.length ≤ 1048576) :
    Calls Try.prog 30 #[.slice A l.length c, .slice A' lp.length c', .func (.func 31) #[] #[]] w fun e w' => e = .returned (.bool (armsFit vs ps)) ∧ Below w.heap.size w w' := by
  have hcf : ∀ args w, (callFunc 31 args).run Try.prog w = .ok (.enter 31 args) w := fun _ _ => by kernel_rfl
  have h1 := h.1
  have hfl := few_len hf
  have HH := Lib.hid h
  have HR := Lib.hid hr
  have HE := Lib.hid he
  have HF := Lib.hid hf
  clear h hr he hf
  by_cases hlen : vs.length = ps.length
  case neg =>
    rw [armsFit_len vs ps hlen]
    have hd1 : decide (l.length = lp.length) = false := by simp; omega
    have hd2 : ¬ ((l.length : Int) = (lp.length : Int)) := by omega
    clear hlen h1 hl
    go_enter Try.func30, Try.ntmps30
    go_wp2_with fail
    go_ret
    exact ⟨rfl, Below.refl _ _⟩
  rw [h1, hl, ← hlen]
  have HL := Lib.hid hlen
  have HLL := Lib.hid (And.intro h1 hl)
  clear hlen h1 hl
  go_enter Try.func30, Try.ntmps30
  go_wp2_with fail
  go_loopg [17] vs.length (fun gk i wr => ∃ k : Nat, gk = vs.length - k ∧ k ≤ vs.length ∧ i = .int .i64 k ∧ armsFit (vs.drop k) (ps.drop k) = armsFit vs ps ∧ Below w.heap.size w wr)
  case atStart => exact ⟨0, by omega, by omega, rfl, rfl, Below.refl _ _⟩
  case round =>
    obtain ⟨k, hgk, hk, rfl, hfit, hb⟩ := hrel
    have HK := Lib.hid hgk
    have HFIT := Lib.hid hfit
    clear hgk hfit
    by_cases hlt : k < vs.length
    · have hkl : k < l.length := by rw [HLL.out.1]; exact hlt
      have hkp : k < lp.length := by rw [HLL.out.2, ← HL.out]; exact hlt
      have hw := HH.out.below hb
      obtain ⟨b, o, rfl, hbl, hc0, hc1⟩ := hw.2.1.ar hkl arc0
      have e1 := (hw.2.2 k hkl).2.1
      have hp := (HE.out k hkp).below (B := B) (hb.mono hB) (fun _ h => h)
      obtain ⟨b2, o2, rfl, hbl2, d0, d1, d2, d3⟩ := (HR.out.below (hb.mono hB)).pa hkp pac0
      have HFS := Lib.hid (HF.out.at (show k < ps.length by rw [← HL.out]; exact hlt))
      have HST := Lib.hid (armsFit_drop vs ps hlt (by rw [← HL.out]; exact hlt))
      have HPI := Lib.hid hp
      clear hw hp
      generalize l.getD k arc0 = y at *
      generalize lp.getD k pac0 = p at *
      generalize vs.getD k arv0 = v at *
      generalize ps.getD k pt0 = t at *
      obtain ⟨ypc, yA, yl, yc⟩ := y
      obtain ⟨pk, pn, pt, pA, pl, pc⟩ := p
      dsimp only at hc0 hc1 e1 d0 d1 d2 d3
      subst e1
      have hbA : Below wr.heap.size wr ((wr.alloc (.cells #[.int .i64 ypc, .slice yA v.2.length yc] 60)).alloc (.cells #[.int .i64 pk, .int .i64 pn, .string pt, .slice pA pl pc] 41)) := ((Below.refl _ _).alloc (Nat.le_refl _) _).alloc (by simp) _
      have hbs := hb.size
      have HC := Lib.hid (armFit_any ypc yA v.2.length yc n B ⟨pk, pn, pt, pA, pl, pc⟩ t _ (HPI.out.below (hbA.mono (by omega)) (fun _ h => h)) (by have := hbA.size; omega) HFS.out)
      unfold paV at HC
      dsimp only at HC
      have HB := Lib.hid (hb.trans (hbA.mono hb.size))
      have hb2 : b2 < wr.heap.size := by omega
      clear hb hbA
      cases hq : decide (v.2.length = t.bn) with
      | false =>
        rw [hq] at HC HST
        go_wp2_with fail
        refine HC.out.mono ?_
        rintro e w5 ⟨rfl, hb5⟩
        have HB5 := Lib.hid (HB.out.trans (hb5.mono HB.out.size))
        clear hb5
        go_wp2_with fail
        go_ret
        exact ⟨by rw [← HFIT.out, HST.out]; rfl, HB5.out⟩
      | true =>
        rw [hq] at HC HST
        go_wp2_with fail
        refine HC.out.mono ?_
        rintro e w5 ⟨rfl, hb5⟩
        have HB5 := Lib.hid (HB.out.trans (hb5.mono HB.out.size))
        clear hb5
        go_wp2_with fail
        go_roundg (vs.length - (k + 1))
        case measure => have := HK.out; omega
        case rel => exact ⟨k + 1, rfl, by omega, by go_num, by rw [← HFIT.out, HST.out]; rfl, HB5.out⟩
    · obtain rfl : k = vs.length := by omega
      have HE2 := Lib.hid (armsFit_end vs ps HL.out)
      clear HK
      go_wp2_with fail
      go_ret
      exact ⟨by rw [← HFIT.out, HE2.out]; rfl, hb⟩

theorem armArgs_gat {x : InC} (hx : x.op = 11 ∨ (x.op = 16 ∧ x.args ≠ [])) : gatL (armArgs x) = armsT x ∧ errT x = errL (armArgs x) := by
  unfold armArgs armsT errT
  rcases hx with h | ⟨h, h2⟩
  · simp [h]
  · simp [h, h2]
set_option maxRecDepth 100000 in
set_option maxHeartbeats 1000000 in
theorem validArms_any (B n : Nat) (v : CkV) (P : CkP) (x : InC) (w : World) (hx : x.op = 11 ∨ (x.op = 16 ∧ x.args ≠ [])) (h : CkIn w B n v P) (hok : InOk w B x) :
    Calls Try.prog 28 #[.agg (ckC v P), inV x] w fun e w' => e = .returned (.bool (armsOkF P.pats x)) ∧ Below w.heap.size w w' := by
  obtain ⟨hg1, hg2⟩ := armArgs_gat hx
  have hsm := armsT_small x hok.len
  unfold armsOkF
  rw [hg1]
  obtain ⟨vs, hvs⟩ : ∃ vs, armsT x = vs := ⟨_, rfl⟩
  obtain ⟨er, her⟩ : ∃ er, errT x = er := ⟨_, rfl⟩
  have hge : (gatF (armArgs x)).isSome = (er == 0) := by
    rw [← her, hg2]
    unfold errL
    cases (gatF (armArgs x)).isSome <;> rfl
  rw [hge, hvs]
  rw [hvs] at hsm
  have HG := Lib.hid (fun w1 (hb : Below w.heap.size w w1) => gathered_any x B w1 (hok.below hb))
  rw [hvs, her] at HG
  clear hg1 hg2 hge hvs her hx
  have hB := hok.hB
  have hcl := h.small.2.2.2.2.2.2
  have HC := Lib.hid h
  obtain ⟨q0, q1, A2, c2, A3, c3, A4, c4, A5, c5, A6, c6⟩ := v
  obtain ⟨nT, nN, fns, acs, ims, mks, pats⟩ := P
  obtain ⟨op, a, b, c, A, cap, args⟩ := x
  unfold inV at HG ⊢
  unfold ckC
  dsimp only at HG hcl ⊢
  have hb : Below w.heap.size w ((w.alloc (.cells #[.slice q0.A nT q0.cap, .slice q1.A nN q1.cap, .slice A2 fns.length c2, .slice A3 acs.length c3, .slice A4 ims.length c4, .slice A5 mks.length c5, .slice A6 pats.length c6] 30)).alloc (.cells #[.int .i64 op, .int .i64 a, .int .i64 b, .int .i64 c, .slice A args.length cap] 33)) := ((Below.refl _ _).alloc (Nat.le_refl _) _).alloc (by simp) _
  have hx2 := (Box.new w 30 #[.slice q0.A nT q0.cap, .slice q1.A nN q1.cap, .slice A2 fns.length c2, .slice A3 acs.length c3, .slice A4 ims.length c4, .slice A5 mks.length c5, .slice A6 pats.length c6]).alloc (.cells #[.int .i64 op, .int .i64 a, .int .i64 b, .int .i64 c, .slice A args.length cap] 33)
  have hx3 := Box.new (w.alloc (.cells #[.slice q0.A nT q0.cap, .slice q1.A nN q1.cap, .slice A2 fns.length c2, .slice A3 acs.length c3, .slice A4 ims.length c4, .slice A5 mks.length c5, .slice A6 pats.length c6] 30)) 33 #[.int .i64 op, .int .i64 a, .int .i64 b, .int .i64 c, .slice A args.length cap]
  rw [show (w.alloc (.cells #[.slice q0.A nT q0.cap, .slice q1.A nN q1.cap, .slice A2 fns.length c2, .slice A3 acs.length c3, .slice A4 ims.length c4, .slice A5 mks.length c5, .slice A6 pats.length c6] 30)).heap.size = w.heap.size + 1 by simp] at hx3
  have HB := Lib.hid hb
  have HX2 := Lib.hid hx2
  have HX3 := Lib.hid hx3
  have HSM := Lib.hid hsm
  obtain ⟨r, hr⟩ : ∃ r, (er == 0 && inB b pats.length && armsFit vs (pats.getD b.toNat [])) = r := ⟨_, rfl⟩
  rw [hr]
  have HRR := Lib.hid hr
  clear h hok hb hx2 hx3 hsm hr
  go_enter Try.func28, Try.ntmps28
  go_upto_region 1 with fail
  generalize (w.alloc (.cells #[.slice q0.A nT q0.cap, .slice q1.A nN q1.cap, .slice A2 fns.length c2, .slice A3 acs.length c3, .slice A4 ims.length c4, .slice A5 mks.length c5, .slice A6 pats.length c6] 30)).alloc (.cells #[.int .i64 op, .int .i64 a, .int .i64 b, .int .i64 c, .slice A args.length cap] 33) = w1 at *
  have c0 : w1.cell? ⟨w.heap.size + 1, 0, none⟩ = some (.int .i64 op) := HX3.out.cell 0
  have c1 : w1.cell? ⟨w.heap.size + 1, 1, none⟩ = some (.int .i64 a) := HX3.out.cell 1
  have c2' : w1.cell? ⟨w.heap.size + 1, 2, none⟩ = some (.int .i64 b) := HX3.out.cell 2
  have c3' : w1.cell? ⟨w.heap.size + 1, 3, none⟩ = some (.int .i64 c) := HX3.out.cell 3
  have c4' : w1.cell? ⟨w.heap.size + 1, 4, none⟩ = some (.slice A args.length cap) := HX3.out.cell 4
  go_wp2_with fail
  refine (HG.out w1 HB.out).mono ?_
  rintro e w2 ⟨va, rfl, hia⟩
  obtain ⟨Aa, ca, la, rfl, har, hb2, _⟩ := hia
  have HAR := Lib.hid har
  have HB2 := Lib.hid (HB.out.trans (hb2.mono HB.out.size))
  have d6 : w2.cell? ⟨w.heap.size, 6, none⟩ = some (.slice A6 pats.length c6) := (HX2.out.below hb2 HX2.out.lt).cell 6
  have d2 : w2.cell? ⟨w.heap.size + 1, 2, none⟩ = some (.int .i64 b) := (HX3.out.below hb2 HX3.out.lt).cell 2
  clear har hb2 c0 c1 c2' c3' c4' HX2 HX3 HG HB
  by_cases he : er = 0
  case neg =>
    have he1 : (er != 0) = true := by simp [he]
    have hr : r = false := by rw [← HRR.out, show (er == 0) = false by simp [he]]; rfl
    subst hr
    clear HRR
    go_wp2_with fail
    go_ret
    exact ⟨rfl, HB2.out⟩
  subst he
  have HWI := Lib.hid (fun w' => within_any b pats.length w')
  cases hq : inB b pats.length with
  | false =>
    rw [hq] at HWI
    have hr : r = false := by rw [← HRR.out, hq]; rfl
    subst hr
    clear HRR hq
    go_wp2_with fail
    refine (HWI.out _).mono ?_
    rintro e w3 ⟨rfl, rfl⟩
    go_wp2_with fail
    go_ret
    exact ⟨rfl, HB2.out⟩
  | true =>
    rw [hq] at HWI
    obtain ⟨hb0, hb1⟩ := inB_spec hq
    obtain ⟨j, rfl⟩ := Int.eq_ofNat_of_zero_le hb0
    have hr : r = armsFit vs (pats.getD j []) := by rw [← HRR.out, hq]; rfl
    clear HRR
    have hj : j < pats.length := by omega
    obtain ⟨ls, hls, hlr, hle⟩ := (HC.out.below (HB2.out.mono hB)).pats
    dsimp only at hls hlr hle
    have hjl : j < ls.length := by omega
    obtain ⟨p1, o1, rfl, _, y0⟩ := hlr.sl hjl
    obtain ⟨hl1, hl2, lp, hl3, hl4, hl5⟩ := hle j hjl
    generalize ls.getD j slc0 = s at *
    generalize pats.getD j [] = ps at *
    obtain ⟨sA, sl, sc⟩ := s
    dsimp only at y0 hl1 hl3 hl4
    subst hl3
    have HEF := Lib.hid (armsFit_any Aa sA ca sc n B la vs lp ps w2 HAR.out (Nat.le_trans hB HB2.out.size) hl1 hl4 hl5 hl2 HSM.out.1)
    have HR := Lib.hid hr
    clear hls hlr hle hl1 hl2 hl4 hl5 hq hr
    go_wp2_with fail
    refine (HWI.out _).mono ?_
    rintro e w3 ⟨rfl, rfl⟩
    go_wp2_with fail
    refine HEF.out.mono ?_
    rintro e w3 ⟨rfl, hb3⟩
    have HB3 := Lib.hid (HB2.out.trans (hb3.mono HB2.out.size))
    clear hb3
    go_wp2_with fail
    go_ret
    exact ⟨by rw [HR.out]; rfl, HB3.out⟩
end Go.Proofs.Ythglcnodoophaaa
