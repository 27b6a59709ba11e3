/-
  Lines: a task taken (Pop).
-/
import Derived.Test.YtaecgapoaagjfaaSteal8
namespace Go.Proofs.Ytaecgapoaagjfaa
open Go.RowKit

/-- What Pop gives. -/
def PopPost (vs : List (List Int)) (cpu : Int) (n : Nat) (w : World) (e : Ending) (w' : World) : Prop :=
  Below w.heap.size w w' ∧ ((cpuFault vs cpu ≠ 0 ∧ e = .returned (.tuple #[.slice none 0 0, .int .i64 0, .int .i64 (cpuFault vs cpu)])) ∨
    (cpuFault vs cpu = 0 ∧ ready vs cpu.toNat = none ∧ e = .returned (.tuple #[.slice none 0 0, .int .i64 0, .int .i64 4])) ∨
    (cpuFault vs cpu = 0 ∧ ∃ us, ready vs cpu.toNat = some us ∧ ∃ A' c' l', e = .returned (.tuple #[.slice A' n c', .int .i64 (lastOf us cpu.toNat), .int .i64 0]) ∧ OwnLines w' w.heap.size A' c' l' (cutOf us cpu.toNat)))
theorem OwnLines.lower {w : World} {base base' : Nat} {A : Option Addr} {c : Nat} {l : List BC} {vs : List (List Int)} (h : OwnLines w base A c l vs) (hb : base' ≤ base) : OwnLines w base' A c l vs :=
  ⟨h.len, h.row.lower hb, fun i hi => (h.each i hi).lower hb, h.off, h.part⟩
/-- Line q's header. -/
theorem OwnLines.head {w : World} {base g o c : Nat} {l : List BC} {vs : List (List Int)} (h : OwnLines w base (some ⟨g, o, none⟩) c l vs) {q : Nat} (hq : q < l.length) :
    w.cell? ⟨g, o + q, none⟩ = some (.slice (l.getD q bc0).A (vs.getD q []).length (l.getD q bc0).cap) ∧ w.frozen? ⟨g, o + q, none⟩ = false := by
  obtain ⟨b', o', e', _, hcp⟩ := h.row.row.ln hq bc0
  injection e' with e'
  injection e' with hbb hoo
  subst hbb hoo
  rw [Nat.mul_one, (h.each q hq).len] at hcp
  exact ⟨hcp, h.row.frozen _⟩
/-- Both halves laid. -/
theorem OwnLines.steal {w wz : World} {base g o c : Nat} {l : List BC} {vs : List (List Int)} (h : OwnLines w base (some ⟨g, o, none⟩) c l vs) (hb : base ≤ w.heap.size) (hbz : Below w.heap.size w wz) {p v : Nat} (hp : p < l.length) (hv : v < l.length) (_hpv : p ≠ v) {ya yb : BC} {xa xb : List Int} (ha : LineOwn wz w.heap.size ya xa) (hyb : LineOwn wz w.heap.size yb xb) (hab : ∀ b, blkS ya.A b → ¬ blkS yb.A b) :
    OwnLines ((wz.setCell ⟨g, o + p, none⟩ (.slice ya.A ya.len ya.cap)).setCell ⟨g, o + v, none⟩ (.slice yb.A yb.len yb.cap)) base (some ⟨g, o, none⟩) c ((l.set p ya).set v yb) ((vs.set p xa).set v xb) := by
  have hglt := h.row.lt
  have h1 := h.put' hp (Only.of_below hbz) (ha.lower hb) (fun b hb => by
    have h1 := (blkS_lt ha.own hb).1
    exact ⟨by omega, fun j hj _ h2 => by have := (blkS_lt (h.each j hj).own h2).2; omega⟩)
  have hyg : ¬ blkS yb.A g := fun hb => by have := (blkS_lt hyb.own hb).1; omega
  refine h1.put' (by rw [List.length_set]; exact hv) (Only.refl _ _) ((hyb.lower hb).only ((Only.refl (fun b => b = g) wz).set (p := ⟨g, o + p, none⟩) rfl _) (fun b hb e => by subst e; exact hyg hb)) (fun b hb => ?_)
  have h2 := (blkS_lt hyb.own hb).1
  refine ⟨by omega, fun j hj hne h3 => ?_⟩
  rw [List.length_set] at hj
  rw [getD_setS l bc0 p j ya hp] at h3
  by_cases e : j = p
  · rw [if_pos e] at h3
    exact hab b h3 hb
  · rw [if_neg e] at h3
    have := (blkS_lt (h.each j hj).own h3).2
    omega

set_option maxRecDepth 100000 in
set_option maxHeartbeats 4000000 in
theorem pop_any (A : Option Addr) (c : Nat) (l : List BC) (vs : List (List Int)) (cpu : Int) (S : Nat → Prop) (w : World) (h : lnRow w S 0 A c l vs) :
    Calls Try.prog 135 #[.slice A l.length c, .int .i64 cpu] w (PopPost vs cpu l.length w) := by
  have HC := Lib.hid (checkCpu_any A c l vs cpu S w h)
  have hlv := h.1
  by_cases h0 : cpuFault vs cpu = 0
  · have HCF := Lib.hid h0
    have hvic : victim vs cpu = vicTo vs cpu.toNat (vs.length - 1) := by unfold victim; rw [if_pos h0]
    rw [h0] at HC
    obtain ⟨hlf, hc0, hc1, hn1, hn8⟩ := cpuFault_zero h0
    obtain ⟨p, rfl⟩ := Int.eq_ofNat_of_zero_le hc0
    rw [Int.toNat_natCast] at hvic
    have HVIC := Lib.hid hvic
    have HH := Lib.hid h.all
    have HLV := Lib.hid hlv
    have hpn : p < l.length := by omega
    have hl8 : l.length ≤ 8 := by omega
    have HFL := Lib.hid (fault_len hlf)
    clear h h0 hlv hc0 hc1 hn1 hn8 hvic hlf
    go_enter Try.func135, Try.ntmps135
    go_wp2_with fail
    refine HC.out.mono ?_
    rintro e w1 ⟨rfl, hb1⟩
    have HB1 := Lib.hid hb1
    have HR1 := Lib.hid (HH.out.below hb1 fun _ h => h)
    have HCP := Lib.hid (copyOf_any A c l vs _ w1 HR1.out hl8)
    clear hb1 HC HH
    go_wp2_with fail
    refine HCP.out.mono ?_
    rintro e w2 ⟨A2, c2, l2, rfl, hown2, hb2⟩
    have hl2 : l2.length = l.length := by rw [hown2.len, HLV.out]
    have hrow2 := hown2.row
    obtain ⟨g, o, hA2, hc2⟩ := hrow2.some_of (by omega)
    subst hA2
    have hp2 : p < l2.length := by omega
    have HOWN := Lib.hid hown2
    have HB2 := Lib.hid (HB1.out.trans (hb2.mono HB1.out.size))
    have hs1 := HB1.out.size
    have hs2 := hb2.size
    have HRV := Lib.hid (HR1.out.all.below hb2 fun _ h => h)
    obtain ⟨hcp, frp⟩ := hown2.head hp2
    have HL2 := Lib.hid hl2
    obtain ⟨x, hx⟩ : ∃ x, l2.getD p bc0 = x := ⟨_, rfl⟩
    obtain ⟨xs, hxs⟩ : ∃ xs, vs.getD p [] = xs := ⟨_, rfl⟩
    have HX := Lib.hid hx
    have HXS := Lib.hid hxs
    rw [hx, hxs] at hcp
    have HVM := Lib.hid (victim_any A c l vs p _ w2 HRV.out)
    rw [HVIC.out] at HVM
    clear hown2 hb2 hl2 HCP hx hxs hrow2 HR1
    by_cases hnone : ready vs p = none
    · have HRN := Lib.hid hnone
      have hz : xs.length = 0 ∧ vicTo vs p (vs.length - 1) < 0 := by
        unfold ready at hnone
        rw [HXS.out] at hnone
        by_cases e1 : xs.length = 0
        · rw [if_pos e1] at hnone
          by_cases e2 : vicTo vs p (vs.length - 1) < 0
          · exact ⟨e1, e2⟩
          · rw [if_neg e2] at hnone; cases hnone
        · rw [if_neg e1] at hnone; cases hnone
      obtain ⟨hz1, hz2⟩ := hz
      obtain rfl : xs = [] := List.eq_nil_of_length_eq_zero hz1
      have d1 : decide (vicTo vs p (vs.length - 1) < 0) = true := decide_eq_true hz2
      generalize vicTo vs p (vs.length - 1) = vi at *
      clear hnone hz1
      go_wp2_with fail
      refine HVM.out.mono ?_
      rintro e w3 ⟨rfl, hb3⟩
      have HB3 := Lib.hid (HB2.out.trans (hb3.mono (by omega)))
      clear hb3
      go_wp2_with fail
      go_ret3
      exact ⟨HB3.out, .inr (.inl ⟨HCF.out, by rw [Int.toNat_natCast]; exact HRN.out, rfl⟩)⟩
    · obtain ⟨us, hus⟩ : ∃ us, ready vs p = some us := by
        cases hr : ready vs p with
        | none => exact absurd hr hnone
        | some us => exact ⟨us, rfl⟩
      have HUS := Lib.hid hus
      have hrs := ready_some (by rw [← HLV.out]; exact hpn) hus
      have HRS := Lib.hid hrs
      go_upto_if 26 with fail
      go_cut [27] (fun _ wx => ∃ l3, OwnLines wx w1.heap.size (some ⟨g, o, none⟩) c2 l3 us ∧ Below w.heap.size w wx)
      case first =>
        by_cases hz : xs.length = 0
        · have hvv : ¬ vicTo vs p (vs.length - 1) < 0 ∧ us = stolen vs p (vicTo vs p (vs.length - 1)).toNat := by
            have h1 := HUS.out
            unfold ready at h1
            rw [HXS.out, if_pos hz] at h1
            by_cases e2 : vicTo vs p (vs.length - 1) < 0
            · rw [if_pos e2] at h1; cases h1
            · rw [if_neg e2] at h1; injection h1 with h1; exact ⟨e2, h1.symm⟩
          have hvp : vicTo vs p (vs.length - 1) < vs.length := vicTo_lt vs p (by rw [← HLV.out]; exact hpn) _ (by omega) (by omega)
          have hspec : 0 < (vs.getD (vicTo vs p (vs.length - 1)).toNat []).length ∧ (vicTo vs p (vs.length - 1)).toNat ≠ p := by
            rcases vic_spec vs p (vs.length - 1) with ⟨e, _⟩ | ⟨k0, k1, k2, e, e2, _⟩
            · have := hvv.1; omega
            · rw [e, Int.toNat_natCast]; exact ⟨e2, rot_ne (by rw [← HLV.out]; exact hpn) k1 k2⟩
          obtain ⟨v, hv⟩ := Int.eq_ofNat_of_zero_le (show 0 ≤ vicTo vs p (vs.length - 1) by omega)
          rw [hv] at hvv hvp hspec HVM
          rw [Int.toNat_natCast] at hvv hspec
          obtain ⟨_, hvv2⟩ := hvv
          have HUE := Lib.hid hvv2
          have hvl : v < l2.length := by rw [HL2.out, HLV.out]; omega
          obtain ⟨hv1, hvp2⟩ := hspec
          have hpv : p ≠ v := fun e => hvp2 e.symm
          obtain rfl : xs = [] := List.eq_nil_of_length_eq_zero hz
          clear hz hv hvv2 hvp hvp2 hus hrs hnone
          go_wp2_with fail
          refine HVM.out.mono ?_
          rintro e w3 ⟨rfl, hb3⟩
          have HO3 := Lib.hid (HOWN.out.below hb3)
          have HB3 := Lib.hid (HB2.out.trans (hb3.mono (by omega)))
          have hs3 := hb3.size
          obtain ⟨hcv, frv⟩ := HO3.out.head hvl
          have hev := HO3.out.each v hvl
          have h100 : (vs.getD v []).length ≤ 100 := Nat.le_trans (one_le vs v) HFL.out
          obtain ⟨y, hy⟩ : ∃ y, l2.getD v bc0 = y := ⟨_, rfl⟩
          obtain ⟨ys, hys⟩ : ∃ ys, vs.getD v [] = ys := ⟨_, rfl⟩
          have HYS := Lib.hid hys
          rw [hy, hys] at hcv hev
          rw [hys] at h100 hv1
          obtain ⟨YA, YL, YC⟩ := y
          dsimp only at hcv
          have hown := hev.own
          dsimp only at hown
          obtain ⟨gy, oy, hYA, hyc⟩ := hown.some_of hv1
          subst hYA
          obtain ⟨i0, hi0, _, hz1, _⟩ := int_parts
          obtain ⟨n, hn⟩ : ∃ n, (ys.length + 1) / 2 = n := ⟨_, rfl⟩
          have hn2 : n ≤ ys.length := by omega
          have HNN := Lib.hid hn
          have hdiv : ((ys.length : Int) + 1) / 2 = (n : Int) := by omega
          obtain ⟨o', hrun, hrow⟩ := hown.tailsS Try.underlying64 hi0 hz1 hn2
          rw [Nat.mul_one, ints_drop] at hrow
          have hcl := hown.cap_le
          have hcap : YC ≤ 9223372036854775807 := by have := hcl.2; unfold maxLen at this; omega
          have hgl := HO3.out.row.lt
          obtain ⟨hcp3, frp3⟩ := HO3.out.head hp2
          obtain ⟨px, hpx⟩ : ∃ px : Value, Value.slice (l2.getD p bc0).A (vs.getD p []).length (l2.getD p bc0).cap = px := ⟨_, rfl⟩
          rw [hpx] at hcp3
          have HC1 := Lib.hid (fun (w' : World) (hb : Below w3.heap.size w3 w') => clone_front (w := w') ⟨some ⟨gy, oy, none⟩, YL, YC⟩ ys (hev.below hb) n hn2)
          have HC2 := Lib.hid (fun (w' : World) (hb : Below w3.heap.size w3 w') => clone_rest (w := w') (some ⟨gy, o', none⟩) (YC - n) (ys.length - n) n ys _ (hrow.below hb) (fun e => by cases e) rfl hev.rng hev.big)
          have hb0 : Below w3.heap.size w3 w3.drew := below_drewN (Below.refl _ _) 1
          have HKV := Lib.hid (fun (w' : World) (hb : Below w3.heap.size w3 w') => And.intro ((hb.cell (p := ⟨g, o + v, none⟩) hgl.2).trans hcv) (And.intro ((hb.frozen (p := ⟨g, o + v, none⟩) hgl.2).trans frv) (And.intro ((hb.cell (p := ⟨g, o + p, none⟩) hgl.2).trans hcp3) ((hb.frozen (p := ⟨g, o + p, none⟩) hgl.2).trans frp3))))
          have HFIN : Hid (∀ (wz : World) (_ : Below w3.heap.size w3 wz) (ya yb : BC) (_ : LineOwn wz w3.heap.size ya (ys.take n)) (_ : LineOwn wz w3.heap.size yb (ys.drop n)) (_ : ∀ b, blkS ya.A b → ¬ blkS yb.A b), OwnLines ((wz.setCell ⟨g, o + p, none⟩ (.slice ya.A n ya.cap)).setCell ⟨g, o + v, none⟩ (.slice yb.A (ys.length - n) yb.cap)) w1.heap.size (some ⟨g, o, none⟩) c2 ((l2.set p ya).set v yb) us ∧ Below w.heap.size w ((wz.setCell ⟨g, o + p, none⟩ (.slice ya.A n ya.cap)).setCell ⟨g, o + v, none⟩ (.slice yb.A (ys.length - n) yb.cap))) := Lib.hid (fun wz hbz ya yb ha hb hab => by
            have h := HO3.out.steal (by omega) hbz hp2 hvl hpv ha hb hab
            rw [ha.len, hb.len, List.length_take, Nat.min_eq_left hn2, List.length_drop] at h
            refine ⟨?_, ((HB3.out.trans (hbz.mono (by omega))).setCell (p := ⟨g, o + p, none⟩) (by show w.heap.size ≤ g; omega) _).setCell (p := ⟨g, o + v, none⟩) (by show w.heap.size ≤ g; omega) _⟩
            rw [HUE.out]
            unfold stolen
            rw [HYS.out, HNN.out]
            exact h)
          have dv : decide ((v : Int) < 0) = false := decide_eq_false (by omega)
          clear hb3 hy hys hown hi0 hz1 hev hrow hn hpx
          have hnc : n ≤ YC := by omega
          have hvl' : v < l.length := by rw [← HL2.out]; exact hvl
          go_upto_region 10 with fail
          rw [hdiv]
          clear hdiv
          go_region_law ((first
            | (go_simp; go_at_call 147; (with_reducible refine (HC1.out _ hb0).mono ?_); rintro e wa ⟨ya, rfl, hya, hba⟩; have hba' := hb0.trans hba; obtain ⟨ka1, ka2, ka3, ka4⟩ := HKV.out wa hba')
            | (go_simp; go_at_call 147; (with_reducible refine (HC2.out _ hb0).mono ?_); rintro e wa ⟨yb, rfl, hyb, hba⟩; have hba' := hb0.trans hba; obtain ⟨ka1, ka2, ka3, ka4⟩ := HKV.out wa hba')
            | (go_simp; go_at_call 147; (with_reducible refine (HC1.out _ hba').mono ?_); rintro e wz ⟨ya, rfl, hya, hbz⟩; have hbz' := hba'.trans (hbz.mono hba'.size); obtain ⟨kz1, kz2, kz3, kz4⟩ := HKV.out wz hbz'; have hfin := HFIN.out wz hbz' ya yb (hya.lower hba'.size) ((hyb.lower (Nat.le_refl _)).below hbz) (fun b h1 h2 => by have e1 := (blkS_lt hya.own h1).1; have e2 := (blkS_lt hyb.own h2).2; omega))
            | (go_simp; go_at_call 147; (with_reducible refine (HC2.out _ hba').mono ?_); rintro e wz ⟨yb, rfl, hyb, hbz⟩; have hbz' := hba'.trans (hbz.mono hba'.size); obtain ⟨kz1, kz2, kz3, kz4⟩ := HKV.out wz hbz'; have hfin := HFIN.out wz hbz' ya yb ((hya.lower (Nat.le_refl _)).below hbz) (hyb.lower hba'.size) (fun b h1 h2 => by have e1 := (blkS_lt hyb.own h2).1; have e2 := (blkS_lt hya.own h1).2; omega))))
          all_goals (
            clear hya hyb hba hbz ka1 ka2 ka3 ka4 kz1 kz2 kz3 kz4 HC1 HC2
            go_wp2_with fail
            go_meet
            exact ⟨_, hfin.1, hfin.2⟩)
        · have HUE := Lib.hid (show us = vs by
            have h1 := HUS.out
            unfold ready at h1
            rw [HXS.out, if_neg hz] at h1
            injection h1 with h1
            exact h1.symm)
          have e1 : ((xs.length : Int) == 0) = false := by rw [beq_eq_false_iff_ne]; omega
          have e1' : (xs.length == 0) = false := by rw [beq_eq_false_iff_ne]; omega
          clear hz hus hrs hnone
          go_wp2_with fail
          go_meet
          exact ⟨l2, by rw [HUE.out]; exact HOWN.out, HB2.out⟩
      case rest =>
        obtain ⟨l3, hown3, hb3⟩ := hcut
        have hl3 : l3.length = l.length := by rw [hown3.len, HRS.out.1, HLV.out]
        have hp3 : p < l3.length := by omega
        obtain ⟨hcq, frq⟩ := hown3.head hp3
        have hep := hown3.each p hp3
        have hup : 1 ≤ (us.getD p []).length := HRS.out.2
        have hgl := hown3.row.lt
        have HRES := Lib.hid (show lastOf us p = (us.getD p []).getD ((us.getD p []).length - 1) 0 from rfl)
        have HCUT := Lib.hid (show cutOf us p = us.set p ((us.getD p []).take ((us.getD p []).length - 1)) from rfl)
        obtain ⟨y, hy⟩ : ∃ y, l3.getD p bc0 = y := ⟨_, rfl⟩
        obtain ⟨ys, hys⟩ : ∃ ys, us.getD p [] = ys := ⟨_, rfl⟩
        have HY := Lib.hid hy
        rw [hy, hys] at hcq hep
        rw [hys] at hup HRES HCUT
        obtain ⟨YA, YL, YC⟩ := y
        dsimp only at hcq
        have hown := hep.own
        dsimp only at hown
        obtain ⟨gy, oy, hYA, hyc⟩ := hown.some_of (by omega)
        subst hYA
        have hbig := hep.big
        obtain ⟨q, hq⟩ : ∃ q, ys.length = q + 1 := ⟨ys.length - 1, by omega⟩
        obtain ⟨b5, o5, e5, _, hct⟩ := hown.row.int (i := q) (by omega)
        injection e5 with e5
        injection e5 with h51 h52
        subst h51 h52
        obtain ⟨t, ht⟩ : ∃ t, ys.getD q 0 = t := ⟨_, rfl⟩
        rw [ht] at hct
        rw [show ys.length - 1 = q by omega] at HRES HCUT
        rw [ht] at HRES
        have HCL := Lib.hid (clone_front (w := wc) ⟨some ⟨gy, oy, none⟩, YL, YC⟩ ys hep q (by omega))
        dsimp only at HCL
        rw [hq] at hcq
        have hqc : q ≤ YC := by omega
        have hqb : q ≤ 17592186044416 := by omega
        have hcl := hown.cap_le
        have hcap : YC ≤ 9223372036854775807 := by have := hcl.2; unfold maxLen at this; omega
        have HO3 := Lib.hid hown3
        have HB3 := Lib.hid hb3
        have hs3 := hb3.size
        have hgB : w.heap.size ≤ g := by omega
        have hpl := hpn
        have HTL := Lib.hid (show (ys.take q).length = q by rw [List.length_take]; omega)
        clear hown3 hb3 hl3 hep hy hys hown hup ht hbig hq hus hrs hnone hcl hyc
        go_wp2_with fail
        refine HCL.out.mono ?_
        rintro e w4 ⟨z, rfl, hz, hb4⟩
        have hL := HO3.out.put' hp3 (Only.of_below hb4) (hz.lower (by omega)) (fun b hb => by
          have h1 := (blkS_lt hz.own hb).1
          exact ⟨by omega, fun j hj _ h2 => by have := (blkS_lt (HO3.out.each j hj).own h2).2; omega⟩)
        rw [hz.len, HTL.out] at hL
        have HL := Lib.hid (hL.lower hs1)
        have HB4 := Lib.hid ((HB3.out.trans (hb4.mono hs3)).setCell (p := ⟨g, o + p, none⟩) hgB (.slice z.A q z.cap))
        have hc4 := (hb4.cell (p := ⟨g, o + p, none⟩) hgl.2).trans hcq
        have fr4 := (hb4.frozen (p := ⟨g, o + p, none⟩) hgl.2).trans frq
        clear hL hz hb4 HCL
        go_wp2_with fail
        go_ret3
        exact ⟨HB4.out, .inr (.inr ⟨HCF.out, us, by rw [Int.toNat_natCast]; exact HUS.out, _, _, _, by rw [Int.toNat_natCast, HRES.out]; rfl, by rw [Int.toNat_natCast, HCUT.out]; exact HL.out⟩)⟩
  · have e0 : (cpuFault vs cpu != 0) = true := by simpa using h0
    have HNE := Lib.hid h0
    obtain ⟨r, hr⟩ : ∃ r, cpuFault vs cpu = r := ⟨_, rfl⟩
    have HRR := Lib.hid hr
    rw [hr] at HC e0
    clear h h0 hlv hr
    go_enter Try.func135, Try.ntmps135
    go_wp2_with fail
    refine HC.out.mono ?_
    rintro e w1 ⟨rfl, hb1⟩
    go_wp2_with fail
    go_ret3
    exact ⟨hb1, .inl ⟨HNE.out, by rw [HRR.out]; rfl⟩⟩
end Go.Proofs.Ytaecgapoaagjfaa
