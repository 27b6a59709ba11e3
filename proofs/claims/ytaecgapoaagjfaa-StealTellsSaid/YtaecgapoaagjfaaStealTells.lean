/-
  The law StealTells: its walk.
-/
import Derived.Test.YtaecgapoaagjfaaSteal15
namespace Go.Proofs.Ytaecgapoaagjfaa
open Go.RowKit

/-- One line of a copied row replaced. -/
theorem want_row {w w' : World} {S0 S1 : Nat → Prop} {A : Option Addr} {c c1 g o base : Nat} {l : List BC} {vs : List (List Int)} (h : lnRow w S0 0 A c l vs) (hk : ∀ q : Addr, S0 q.block → w'.cell? q = w.cell? q) (hrow : OwnAt w' base 64 1 (some ⟨g, o, none⟩) l.length c1 (flat lnC l)) (hg : ¬ S0 g) {p : Nat} (hp : p < l.length) {y : BC} {ys : List Int} (hy : IIn w' S1 0 y ys) (hyg : ¬ S1 g) :
    lnRow (w'.setCell ⟨g, o + p, none⟩ (.slice y.A y.len y.cap)) (fun _ => True) 0 (some ⟨g, o, none⟩) c1 (l.set p y) (vs.set p ys) := by
  have hoff : ∀ q : Addr, q.block ≠ g → (w'.setCell ⟨g, o + p, none⟩ (.slice y.A y.len y.cap)).cell? q = w'.cell? q := fun q hq => by simp only [World.cell?, Below.heap_setCell w' ⟨g, o + p, none⟩ _ q.block hq]
  have hlen : (l.set p y).length = l.length := List.length_set ..
  have hset := hrow.set (j := p) (.slice y.A y.len y.cap)
  have h3 := flat_set (j := 0) lnC_len l (.slice y.A y.len y.cap) (getD_some bc0 hp) (by decide) y rfl
  rw [Nat.mul_one, Nat.add_zero] at h3
  rw [h3] at hset
  have hvp : p < vs.length := by rw [← h.1]; exact hp
  refine ⟨by rw [hlen, List.length_set]; exact h.1, fun hpos => ?_, fun i hi => ?_, by rw [hlen]; exact hrow.cap_le.1, hrow.cap_le.2, (fun e => by cases e), by rw [hlen]; exact h.2.2.2.2.2.2⟩
  · obtain ⟨b, o2, e, _, hc⟩ := hset.row hpos
    exact ⟨b, o2, e, trivial, hc⟩
  · rw [hlen] at hi
    rw [getD_setS l bc0 p i y hp, getD_setS vs [] p i ys hvp]
    by_cases e : i = p
    · rw [if_pos e, if_pos e]
      exact hy.keep (fun q hq => hoff q (fun e2 => by rw [e2] at hq; exact hyg hq)) fun _ _ => trivial
    · rw [if_neg e, if_neg e]
      exact (h.2.2.1 i hi).keep (fun q hq => (hoff q (fun e2 => by rw [e2] at hq; exact hg hq)).trans (hk q hq)) fun _ _ => trivial

set_option maxRecDepth 100000 in
set_option maxHeartbeats 8000000 in
theorem stealTells_walk (A B : Option Addr) (c cB : Nat) (l : List BC) (vs : List (List Int)) (cpu task : Int) (turns : List Int) (W : World) (h : lnRow W (· < W.heap.size) 0 A c l vs) (ht : Row W W.heap.size B (ints turns)) (htm : turns.length ≤ 17592186044416) (htask : I64 task) :
    Calls Try.prog 13 #[.slice A l.length c, .int .i64 cpu, .int .i64 task, .slice B turns.length cB] W fun e w' => e = .returned (.bool true) ∧ Below W.heap.size W w' := by
  have HLV := Lib.hid h.1
  have HR := Lib.hid (fun (w' : World) (hb : Below W.heap.size W w') => h.below hb fun _ h => h)
  have HT := Lib.hid (fun (w' : World) (hb : Below W.heap.size W w') => (ht.below hb).more hb.size)
  have HP1 := Lib.hid (push_v A c l vs cpu task _ W h htask)
  have HP2 := Lib.hid (fun (w' : World) (hb : Below W.heap.size W w') => pop_v A c l vs cpu _ w' (HR.out w' hb))
  have HP3 := Lib.hid (fun (w' : World) (hb : Below W.heap.size W w') => victim_any A c l vs cpu _ w' (HR.out w' hb))
  have HP5 := Lib.hid (fun (w' : World) (hb : Below W.heap.size W w') => linesFault_any A c l vs _ w' (HR.out w' hb))
  have HP6 := Lib.hid (fun (w' : World) (hb : Below W.heap.size W w') => checkS_any A c l vs _ w' (HR.out w' hb))
  have hln : l.length ≤ 9223372036854775807 := by have h1 := h.2.2.2.1; have h2 := h.2.2.2.2.1; unfold maxLen at h2; omega
  clear h ht
  by_cases hf : linesFault vs = 0
  · have HG := Lib.hid ((good_iff vs).1 hf)
    have HP4 := Lib.hid (fun (w' : World) (hb : Below W.heap.size W w') => run_v A B c cB l vs turns _ w' (HR.out w' hb) (HT.out w' hb) HG.out)
    rw [hf] at HP5 HP6
    have hl8 : l.length ≤ 8 := by rw [HLV.out]; exact HG.out.1.2
    have hl1 : 1 ≤ l.length := by rw [HLV.out]; exact HG.out.1.1
    have HCF := Lib.hid (good_cpu HG.out cpu)
    clear hf
    go_enter Try.func13, Try.ntmps13
    go_wp2_with fail
    refine HP1.out.mono ?_
    rintro e w1 ⟨PV, PE, rfl, hb1, hpv⟩
    have HB1 := Lib.hid hb1
    have HPV := Lib.hid hpv
    clear hb1 hpv HP1
    go_wp2_with fail
    refine (HP2.out w1 HB1.out).mono ?_
    rintro e w2 ⟨QV, QT, QE, rfl, hb2, hqv⟩
    have HB2 := Lib.hid (HB1.out.trans (hb2.mono HB1.out.size))
    have HPV2 := Lib.hid (HPV.out.below hb2)
    have HQV := Lib.hid hqv
    clear hb2 hqv HP2 HPV HB1
    go_wp2_with fail
    refine (HP3.out w2 HB2.out).mono ?_
    rintro e w3 ⟨rfl, hb3⟩
    have HB3 := Lib.hid (HB2.out.trans (hb3.mono HB2.out.size))
    have HPV3 := Lib.hid (HPV2.out.below hb3)
    have HQV3 := Lib.hid (HQV.out.below hb3)
    clear hb3 HP3 HPV2 HQV HB2
    obtain ⟨vic, hvic⟩ : ∃ vic, victim vs cpu = vic := ⟨_, rfl⟩
    have HVIC := Lib.hid hvic
    rw [hvic]
    clear hvic
    go_wp2_with fail
    refine (HP4.out w3 HB3.out).mono ?_
    rintro e w4 ⟨RV, LV, RE, rfl, hb4, hrv⟩
    have HB4 := Lib.hid (HB3.out.trans (hb4.mono HB3.out.size))
    have HPV4 := Lib.hid (HPV3.out.below hb4)
    have HQV4 := Lib.hid (HQV3.out.below hb4)
    have HRV := Lib.hid hrv
    have hsz3 := HB3.out.size
    clear hb4 hrv HP4 HPV3 HQV3 HB3
    go_wp2_with fail
    refine (HP5.out w4 HB4.out).mono ?_
    rintro e w5 ⟨rfl, hb5⟩
    have HB5 := Lib.hid (HB4.out.trans (hb5.mono HB4.out.size))
    have HPV5 := Lib.hid (HPV4.out.below hb5)
    have HQV5 := Lib.hid (HQV4.out.below hb5)
    have HRV5 := Lib.hid (HRV.out.below hb5)
    clear hb5 HP5 HPV4 HQV4 HB4 HRV
    go_wp2_with fail
    refine (HP6.out w5 HB5.out).mono ?_
    rintro e w6 ⟨rfl, hb6⟩
    have HB6 := Lib.hid (HB5.out.trans (hb6.mono HB5.out.size))
    have HPV6 := Lib.hid (HPV5.out.below hb6)
    have HQV6 := Lib.hid (HQV5.out.below hb6)
    have HRV6 := Lib.hid (HRV5.out.below hb6)
    clear hb6 HP6 HPV5 HQV5 HB5 HRV5
    obtain ⟨rn, hrn⟩ : ∃ rn : Int, (if 100 < turns.length then 2 else 0) = rn := ⟨_, rfl⟩
    have HRN := Lib.hid hrn
    clear hrn
    go_upto_if 69 with fail
    go_cut [19] (fun v wx => v = .int .i64 rn ∧ w6 = wx)
    case first =>
      have e1 := HRN.out
      by_cases hT : 100 < turns.length
      · rw [if_pos hT] at e1
        subst e1
        have d1 : decide ((100 : Int) < (turns.length : Int)) = true := decide_eq_true (by omega)
        have d1' : decide (100 < turns.length) = true := decide_eq_true hT
        go_wp2_with fail
        go_meet
        exact ⟨rfl, rfl⟩
      · rw [if_neg hT] at e1
        subst e1
        have d1 : decide ((100 : Int) < (turns.length : Int)) = false := decide_eq_false (by omega)
        have d1' : decide (100 < turns.length) = false := decide_eq_false hT
        go_wp2_with fail
        go_meet
        exact ⟨rfl, rfl⟩
    case rest =>
    obtain ⟨rfl, rfl⟩ := hcut
    go_upto_region 11 with fail
    go_cut [84] (fun v wx => v = .bool false ∧ w6 = wx)
    case first =>
      rcases HRV6.out with ⟨hT, rfl, rfl, rfl⟩ | ⟨hT, rfl, ⟨A1, c1, l1, rfl, hl1', _⟩, O, oc, rfl, _⟩
      · obtain rfl : rn = 2 := by rw [← HRN.out, if_pos hT]
        clear hT
        go_wp2_with fail
        go_meet
        exact ⟨rfl, rfl⟩
      · obtain rfl : rn = 0 := by rw [← HRN.out, if_neg (by omega)]
        clear hT
        go_wp2_with fail
        go_meet
        exact ⟨rfl, rfl⟩
    case rest =>
    obtain ⟨rfl, rfl⟩ := hcut
    go_upto_if 86 with fail
    go_cut [20] (fun _ wx => Below w6.heap.size w6 wx)
    case first =>
      by_cases hT : 100 < turns.length
      · as_aux_lemma =>
          obtain rfl : rn = 2 := by rw [← HRN.out, if_pos hT]
          clear hT
          go_wp2_with fail
          go_meet
          exact Below.refl _ _
      · obtain rfl : rn = 0 := by rw [← HRN.out, if_neg hT]
        have hrv := HRV6.out
        rcases hrv with ⟨h1, _⟩ | ⟨hTT, hRE, ⟨AL, cL, lL, hLV, hLl, hLr⟩, OR, oR, hRV, hOR⟩
        · exact absurd h1 hT
        subst hLV hRV
        have HLr := Lib.hid hLr
        have HOR := Lib.hid hOR
        have HLl := Lib.hid hLl
        have hR0 : RunAt w6 w6 l.length A c l none 0 (runTo vs turns 0) := ⟨Below.refl _ _, OwnAt.nil, (HR.out w6 HB6.out).all.keep (fun _ _ => rfl) (fun b hb => ⟨(fun e => by cases e), hb⟩), rfl⟩
        have HR0 := Lib.hid hR0
        have HGR := Lib.hid (runTo_good HG.out turns)
        have HT6 := Lib.hid (HT.out w6 HB6.out)
        have htl : turns.length ≤ 100 := by omega
        clear hT hLr hOR hLl hR0 hTT hRE
        go_wp2_with fail
        go_loopg [20, 21, 90] turns.length (fun gk v a i wr => ∃ (k : Nat) (A1 : Option Addr) (c1 : Nat) (l1 : List BC) (O : Option Addr) (on oc : Nat), gk = turns.length - k ∧ k ≤ turns.length ∧ a = .slice A1 l.length c1 ∧ v = .slice O on oc ∧ i = .int .i64 k ∧ (runTo vs turns k).2.length = on ∧ RunAt w6 wr l.length A1 c1 l1 O oc (runTo vs turns k))
        case atStart => exact ⟨0, A, c, l, none, 0, 0, by omega, by omega, rfl, rfl, rfl, rfl, HR0.out⟩
        case round =>
          obtain ⟨k, A1, c1, l1, O, on, oc, hgk, hk, rfl, rfl, rfl, hon, hat⟩ := hrel
          have HK := Lib.hid hgk
          have HON := Lib.hid hon
          have HAT := Lib.hid hat
          clear hgk hon hat HR0
          by_cases hlt : k < turns.length
          · obtain ⟨b, o, hBB, _, hct⟩ := (HT6.out.below HAT.out.below).int hlt
            subst hBB
            have HSTEP := Lib.hid (show runTo vs turns (k + 1) = if 0 ≤ turns.getD k 0 ∧ turns.getD k 0 < (vs.length : Int) then
                (match ready (runTo vs turns k).1 (turns.getD k 0).toNat with
                  | none => runTo vs turns k
                  | some us => (cutOf us (turns.getD k 0).toNat, (runTo vs turns k).2 ++ [(turns.getD k 0, lastOf us (turns.getD k 0).toNat)]))
              else runTo vs turns k from rfl)
            have HGD := Lib.hid (HGR.out k)
            have hon100 : on ≤ 100 := by have := HGD.out.2.2; have := HON.out; omega
            generalize turns.getD k 0 = cp at *
            have HIN := Lib.hid (in_any cp 0 ((l.length : Int) - 1) wr)
            by_cases hin : 0 ≤ cp ∧ cp < (vs.length : Int)
            · have d1 : decide (0 ≤ cp ∧ cp ≤ (l.length : Int) - 1) = true := decide_eq_true (by rw [HLV.out]; omega)
              rw [d1] at HIN
              rw [if_pos hin] at HSTEP
              obtain ⟨p, rfl⟩ := Int.eq_ofNat_of_zero_le hin.1
              rw [Int.toNat_natCast] at HSTEP
              have hpl : p < l.length := by rw [HLV.out]; omega
              have hl1' := HAT.out.len
              have HPOP := Lib.hid (popped_any A1 c1 l1 (runTo vs turns k).1 p _ wr HAT.out.row (by rw [hl1']; exact hpl) (by rw [hl1']; exact hl8))
              rw [hl1'] at HPOP
              have hpv : p < (runTo vs turns k).1.length := by rw [HGD.out.1, ← HLV.out]; exact hpl
              have HPV := Lib.hid hpv
              clear d1 hin hl1' hpv
              go_wp2_with fail
              refine HIN.out.mono ?_
              rintro e w7 ⟨rfl, rfl⟩
              go_wp2_with fail
              refine HPOP.out.mono ?_
              rintro e w3 ⟨hb3, hpost⟩
              have hnew := HAT.out.keep hb3
              rcases hpost with ⟨hrn', rfl⟩ | ⟨us, hrs, A4, c4, l4, rfl, hown4⟩
              · as_aux_lemma =>
                  have HE := Lib.hid (show runTo vs turns (k + 1) = runTo vs turns k by rw [HSTEP.out, hrn'])
                  have HN := Lib.hid hnew
                  clear hrn' hnew hb3 HPOP HIN
                  go_wp2_with fail
                  go_roundg (turns.length - (k + 1))
                  case measure => have := HK.out; omega
                  case rel => exact ⟨k + 1, A1, c1, l1, O, on, oc, rfl, by omega, rfl, rfl, by go_num, by rw [HE.out]; exact HON.out, by rw [HE.out]; exact HN.out⟩
              · have HE := Lib.hid (show runTo vs turns (k + 1) = (cutOf us p, (runTo vs turns k).2 ++ [((p : Int), lastOf us p)]) by rw [HSTEP.out, hrs])
                have hl4 : l4.length = l.length := by rw [hown4.len, cutOf_len, (ready_some HPV.out hrs).1, HGD.out.1, HLV.out]
                have HOW := Lib.hid hnew.own
                have HBN := Lib.hid hnew.below
                have HRW := Lib.hid (hown4.lnRow (by rw [hl4]; unfold reachBytes; omega)).lt
                have hs0 := HAT.out.below.size
                have hs3 := hb3.size
                have HOL := Lib.hid (fun b (hb : blkS O b) => (blkS_lt HAT.out.own hb).2)
                have HL4 := Lib.hid hl4
                have hon' := HON.out
                obtain ⟨t, htt⟩ : ∃ t, lastOf us p = t := ⟨_, rfl⟩
                rw [htt] at HE
                rw [htt]
                rw [hon'] at HOW
                have HOA := Lib.hid (fun ob => HOW.out.alloc ob)
                clear hrs hnew hb3 HPOP hown4 hl4 hon' htt HIN
                go_wp2_with (at_builtin; refine wpList_push_p2 rfl (.tmp 109) (.tmp 113) rfl w6.heap.size O oc on (runTo vs turns k).2 HON.out rfl (HOA.out _) w3.heap.size ((p : Int), t) rfl (fun j u hu => by rw [(Box.new w3 247 #[.int .i64 (p : Int), .int .i64 t]).cell j]; simpa [prC] using hu) (by omega) (by simp; omega) ?_; intro O5 oc5 w5 hown5 hb5 ho5 hO5)
                have hN : RunAt w6 w5 l.length A4 c4 l4 O5 oc5 (cutOf us p, (runTo vs turns k).2 ++ [((p : Int), t)]) := by
                  refine ⟨(HBN.out.alloc (by omega) _).trans hb5, by rw [List.length_append, HON.out]; exact hown5, HRW.out.keep (fun q hq => ?_) (fun b hb => ?_), HL4.out⟩
                  · have h1 : wr.heap.size ≤ q.block := hq.1
                    have h2 := ho5.block q.block (by simp; have := hq.2; omega) (fun e => by have := HOL.out _ e; omega)
                    simp only [World.cell?, h2]
                    rw [Below.heap_alloc w3 _ q.block hq.2]
                  · have h1 : wr.heap.size ≤ b := hb.1
                    refine ⟨fun e => ?_, ?_⟩
                    · rcases hO5 b e with h2 | h2
                      · have := HOL.out _ h2; omega
                      · simp at h2; have := hb.2; omega
                    · have := ho5.size; simp at this; have := hb.2; omega
                have HN := Lib.hid hN
                clear hown5 hb5 ho5 hO5 hN
                go_roundg (turns.length - (k + 1))
                case measure => have := HK.out; omega
                case rel => exact ⟨k + 1, A4, c4, l4, O5, on + 1, oc5, rfl, by omega, rfl, rfl, by go_num, by rw [HE.out, List.length_append, HON.out]; rfl, by rw [HE.out]; exact HN.out⟩
            · as_aux_lemma =>
                have d1 : decide (0 ≤ cp ∧ cp ≤ (l.length : Int) - 1) = false := decide_eq_false (by rw [HLV.out]; omega)
                rw [d1] at HIN
                have HE := Lib.hid (show runTo vs turns (k + 1) = runTo vs turns k by rw [HSTEP.out, if_neg hin])
                clear d1 hin
                go_wp2_with fail
                refine HIN.out.mono ?_
                rintro e w7 ⟨rfl, rfl⟩
                go_wp2_with fail
                go_roundg (turns.length - (k + 1))
                case measure => have := HK.out; omega
                case rel => exact ⟨k + 1, A1, c1, l1, O, on, oc, rfl, by omega, rfl, rfl, by go_num, by rw [HE.out]; exact HON.out, by rw [HE.out]; exact HAT.out⟩
          · as_aux_lemma =>
              obtain rfl : k = turns.length := by omega
              have hon100 : on ≤ 100 := by have := (HGR.out turns.length).2.2; have := HON.out; omega
              have HEQ : Hid (Calls Try.prog 141 #[.slice OR (runTo vs turns turns.length).2.length oR, .slice O on oc] wr fun e w' => e = .returned (.bool true) ∧ ∃ n, w' = wr.drewN n) := Lib.hid (by
                have h1 := equalPr_true OR O oR oc (runTo vs turns turns.length).2 _ _ wr (HOR.out.row.below HAT.out.below) HAT.out.own.row (by rw [HON.out]; omega)
                rw [← HON.out]
                exact h1)
              have HSL := Lib.hid (fun n => sameLines_true AL A1 cL c1 lL l1 (runTo vs turns turns.length).1 _ _ (wr.drewN n) ((HLr.out.below HAT.out.below fun _ h => h).keep (w' := wr.drewN n) (fun _ _ => rfl) fun _ h => h) (HAT.out.row.keep (w' := wr.drewN n) (fun _ _ => rfl) fun _ h => h))
              rw [HLl.out, HAT.out.len] at HSL
              go_wp2_with fail
              refine HEQ.out.mono ?_
              rintro e w7 ⟨rfl, n7, rfl⟩
              go_wp2_with fail
              refine (HSL.out n7).mono ?_
              rintro e w8 ⟨rfl, n8, rfl⟩
              go_wp2_with fail
              go_meet
              exact below_drewN HAT.out.below _
    case rest =>
      have HB7 := Lib.hid (HB6.out.trans (hcut.mono HB6.out.size))
      have HPV7 := Lib.hid (HPV6.out.below hcut)
      have HQV7 := Lib.hid (HQV6.out.below hcut)
      clear hcut HB6 HPV6 HQV6 HRV6 HRN
      have HIN := Lib.hid (fun v : World => in_any cpu 0 ((l.length : Int) - 1) v)
      by_cases hin : 0 ≤ cpu ∧ cpu < (vs.length : Int)
      · have d1 : decide (0 ≤ cpu ∧ cpu ≤ (l.length : Int) - 1) = true := decide_eq_true (by rw [HLV.out]; omega)
        rw [d1] at HIN
        have hcf : cpuFault vs cpu = 0 := by rw [HCF.out, if_pos hin]
        obtain ⟨p, rfl⟩ := Int.eq_ofNat_of_zero_le hin.1
        have hpl : p < l.length := by rw [HLV.out]; omega
        obtain rfl : vic = vicTo vs p (vs.length - 1) := by rw [← HVIC.out]; unfold victim; rw [if_pos hcf, Int.toNat_natCast]
        have HR7 := Lib.hid (HR.out _ HB7.out)
        have HRB := Lib.hid (robbed_any A c l vs p _ _ HR7.out hpl hl8)
        have HPD := Lib.hid (popd_v A c l vs p _ _ HR7.out hpl hl8)
        have HC0 := Lib.hid hcf
        generalize hvv : vicTo vs p (vs.length - 1) = vv at *
        clear hcf hin d1 hvv HVIC HCF
        go_wp2_with fail
        refine (HIN.out _).mono ?_
        rintro e w8 ⟨rfl, rfl⟩
        go_wp2_with fail
        refine HRB.out.mono ?_
        rintro e w8 ⟨rfl, rfl⟩
        go_wp2_with fail
        refine HPD.out.mono ?_
        rintro e w8 ⟨XV, XT, XO, rfl, hb8, hxv⟩
        have HB8 := Lib.hid (HB7.out.trans (hb8.mono HB7.out.size))
        have HPV8 := Lib.hid (HPV7.out.below hb8)
        have HQV8 := Lib.hid (HQV7.out.below hb8)
        have HXV := Lib.hid hxv
        have hq8 := HQV8.out
        unfold PopV at hq8
        rw [Int.toNat_natCast] at hq8
        have HQ8 := Lib.hid hq8
        clear hb8 hxv HPD HRB HIN HB7 HPV7 HQV7 HR7 hq8
        go_upto_region 33 with fail
        go_cut [206] (fun v wx => v = .bool false ∧ ∃ n, w8.drewN n = wx)
        case first =>
          rcases HXV.out with ⟨hrn', rfl, rfl, rfl⟩ | ⟨rfl, us, hrs, rfl, AX, cX, lX, rfl, hXl, hXr⟩
          · rcases HQ8.out with ⟨h1, _⟩ | ⟨_, _, rfl, rfl, rfl⟩ | ⟨_, _, us, h1, _⟩
            · exact absurd HC0.out h1
            · as_aux_lemma =>
                clear hrn'
                go_wp2_with fail
                go_meet
                exact ⟨rfl, 0, rfl⟩
            · rw [hrn'] at h1; cases h1
          · rcases HQ8.out with ⟨h1, _⟩ | ⟨_, h1, _⟩ | ⟨_, rfl, us', h1, rfl, AQ, cQ, lQ, rfl, hQl, hQr⟩
            · exact absurd HC0.out h1
            · rw [hrs] at h1; cases h1
            · as_aux_lemma =>
                rw [hrs] at h1
                injection h1 with h1
                subst h1
                have HSL := Lib.hid (sameLines_true AQ AX cQ cX lQ lX (cutOf us p) _ _ w8 hQr hXr)
                rw [hQl, hXl] at HSL
                clear hrs hXl hXr hQl hQr
                go_wp2_with fail
                refine HSL.out.mono ?_
                rintro e w9 ⟨rfl, n9, rfl⟩
                go_wp2_with fail
                go_meet
                exact ⟨rfl, n9, rfl⟩
        case rest =>
        obtain ⟨rfl, n8, rfl⟩ := hcut
        have HB9 := Lib.hid (below_drewN HB8.out n8)
        have HPV9 := Lib.hid (HPV8.out.below (below_drewN (Below.refl _ _) n8))
        clear HB8 HPV8 HQV8 HXV HQ8
        generalize w8.drewN n8 = w9 at *
        have HR9 := Lib.hid (HR.out _ HB9.out)
        have HCC := Lib.hid (concat_lines A c l vs _ _ HR9.out hl8 HG.out.2.1)
        have HPE := Lib.hid (show pushE vs p task = (if vs.flatten.contains task = true then 5 else if vs.flatten.length = 100 then 6 else 0) by unfold pushE; rw [if_pos HC0.out])
        go_wp2_with fail
        refine HCC.out.mono ?_
        rintro e w10 ⟨v10, rfl, hown10, hb10⟩
        obtain ⟨A10, c10, rfl, ho10⟩ := OwnAt.of_own hown10
        have HI10 := Lib.hid (show IIn w10 (fun _ => True) 0 ⟨A10, vs.flatten.length, c10⟩ vs.flatten from (LineOwn.iin ⟨rfl, ho10, (fun u hu => by
          obtain ⟨y, hy, hu2⟩ := List.mem_flatten.1 hu
          obtain ⟨i, hi, e⟩ := List.mem_iff_getElem.1 hy
          have h1 := (HR9.out.2.2.1 i (by rw [HLV.out]; exact hi)).2.2.2.2.2.1
          rw [List.getD_eq_getElem?_getD, List.getElem?_eq_getElem hi] at h1
          exact h1 u (by show u ∈ vs[i]; rw [e]; exact hu2)), by have := HG.out.2.1; omega⟩).keep (fun _ _ => rfl) fun _ _ => trivial)
        have HCO := Lib.hid (contains_any ⟨A10, vs.flatten.length, c10⟩ vs.flatten task _ w10 HI10.out)
        have HB10 := Lib.hid (HB9.out.trans (hb10.mono HB9.out.size))
        have HPV10 := Lib.hid (HPV9.out.below hb10)
        dsimp only at HCO
        have h100 := HG.out.2.1
        obtain ⟨fl, hfl⟩ : ∃ fl, vs.flatten.length = fl := ⟨_, rfl⟩
        obtain ⟨fc, hfc⟩ : ∃ fc, vs.flatten.contains task = fc := ⟨_, rfl⟩
        rw [hfl] at h100 HCO HPE
        rw [hfc] at HCO HPE
        rw [hfl]
        clear hown10 hb10 ho10 HI10 HCC HB9 HPV9 HR9 hfl hfc
        go_wp2_with fail
        refine HCO.out.mono ?_
        rintro e w11 ⟨rfl, rfl⟩
        clear HCO
        cases fc
        · rw [if_neg (by decide)] at HPE
          by_cases hf100 : fl = 100
          · as_aux_lemma =>
              subst hf100
              rw [if_pos rfl] at HPE
              have hp := HPV10.out
              unfold PushV at hp
              rw [HPE.out] at hp
              rcases hp with ⟨_, rfl, rfl⟩ | ⟨h1, _⟩
              case inr => cases h1
              go_wp2_with fail
              go_ret
              exact ⟨rfl, HB10.out⟩
          · rw [if_neg hf100] at HPE
            have e1 : ((fl : Int) == 100) = false := by rw [beq_eq_false_iff_ne]; omega
            have e1' : (fl == 100) = false := by rw [beq_eq_false_iff_ne]; omega
            have hp := HPV10.out
            unfold PushV at hp
            rw [HPE.out] at hp
            rcases hp with ⟨h1, _⟩ | ⟨_, rfl, AP, cP, lP, rfl, hPl, hPr⟩
            case inl => exact absurd rfl h1
            rw [Int.toNat_natCast] at hPr
            have HPr := Lib.hid hPr
            have HPl := Lib.hid hPl
            have HCL := Lib.hid (clone_ln A c l _ w10 (HR.out _ HB10.out).2.1 (HR.out _ HB10.out).2.2.2.2.2.1 (by omega))
            clear hPr hPl hf100
            go_wp2_with fail
            refine HCL.out.mono ?_
            rintro e w11 ⟨v11, rfl, hown11, hb11⟩
            obtain ⟨A11, c11, rfl, ho11⟩ := OwnAt.of_own hown11
            obtain ⟨g, o, hA11, _⟩ := ho11.some_of (by omega)
            subst hA11
            have HB11 := Lib.hid (HB10.out.trans (hb11.mono HB10.out.size))
            have hs10 := HB10.out.size
            have hs11 := hb11.size
            have hgl := ho11.lt
            obtain ⟨bA, oA, hAA, hbA, hcA, hiA⟩ := (HR.out _ HB11.out).at hpl
            subst hAA
            have HCI := Lib.hid (cloneI (l.getD p bc0) (vs.getD p []) _ w11 hiA)
            have hbig : (vs.getD p []).length ≤ 100 := Nat.le_trans (one_le vs p) HG.out.2.1
            have HRNG := Lib.hid hiA.2.2.2.2.2.1
            obtain ⟨xs, hxs⟩ : ∃ xs, vs.getD p [] = xs := ⟨_, rfl⟩
            obtain ⟨x, hx⟩ : ∃ x, l.getD p bc0 = x := ⟨_, rfl⟩
            have HXS := Lib.hid hxs
            rw [hxs] at HCI hbig HRNG hcA
            rw [hx] at HCI hcA
            have HO11 := Lib.hid ho11
            have HBB := Lib.hid hb11
            clear hown11 hb11 ho11 HCL hiA hxs hx
            go_wp2_with fail
            refine HCI.out.mono ?_
            rintro e w12 ⟨y, rfl, hy, hb12⟩
            have HY := Lib.hid hy
            have HB12 := Lib.hid hb12
            have hs12 := hb12.size
            have HYA := Lib.hid (fun ob => hy.own.alloc ob)
            have HYG := Lib.hid (show ¬ blkS y.A g from fun hb => by have := (blkS_lt hy.own hb).1; omega)
            have HO12 := Lib.hid (fun ob => (HO11.out.below hb12).alloc ob)
            have hcg : ∃ u, w12.cell? ⟨g, o + p, none⟩ = some u := by
              obtain ⟨b', o', e', _, hcp⟩ := (HO11.out.below hb12).row.ln hpl bc0
              injection e' with e'
              injection e' with hbb hoo
              subst hbb hoo
              rw [Nat.mul_one] at hcp
              exact ⟨_, hcp⟩
            obtain ⟨ug, hug⟩ := hcg
            have HUG := Lib.hid (fun ob => (World.cell?_alloc_lt w12 ob ⟨g, o + p, none⟩ (lt_of_cell hug)).trans hug)
            have hg12 : g < w12.heap.size := by omega
            clear hy hb12 HCI hug
            go_upto_region 42 with (at_builtin; refine wpList_push_i rfl (.tmp 239) (.tmp 241) rfl w11.heap.size y.A y.cap xs.length xs rfl rfl (HYA.out _) w12.heap.size task rfl ((Box.new _ _ _).cell 0) (by omega) (by simp; omega) ?_; intro A13 c13 w13 hown13 hb13 ho13 hA13; have c13' : w13.cell? ⟨g, o + p, none⟩ = some ug := (by have := ho13.block g (by simp; omega) HYG.out; simp only [World.cell?, this]; exact HUG.out _); have fr13 : w13.frozen? ⟨g, o + p, none⟩ = false := (by have h1 := ho13.block g (by simp; omega) HYG.out; have h2 := (HO12.out (.cells #[.int .i64 task] 3)).frozen (o + p); simp only [World.frozen?, h1] at h2 ⊢; exact h2))
            have hal : Below w12.heap.size w12 (w12.alloc (.cells #[.int .i64 task] 3)) := (Below.refl _ _).alloc (Nat.le_refl _) _
            have hB13 : Below w11.heap.size w11 w13 := ((HB12.out.trans (hal.mono hs12))).trans hb13
            have hrow13 : OwnAt w13 w10.heap.size 64 1 (some ⟨g, o, none⟩) l.length c11 (flat lnC l) := (HO12.out (.cells #[.int .i64 task] 3)).only ho13 (fun b hb => by simp at hb; subst hb; exact HYG.out)
            have hy13 : LineOwn w13 w11.heap.size ⟨A13, xs.length + 1, c13⟩ (xs ++ [task]) := ⟨by simp, by rw [List.length_append]; exact hown13, fun u hu => by
              rcases List.mem_append.1 hu with h1 | h1
              · exact HRNG.out u h1
              · rw [List.mem_singleton.1 h1]; exact htask, by rw [List.length_append]; simp; omega⟩
            have hwr := want_row (HR.out _ HB11.out) (w' := w13) (fun q hq => hB13.cell (by have := hs10; have hq' : q.block < W.heap.size := hq; omega)) hrow13 (by show ¬ g < W.heap.size; omega) hpl hy13.iin (fun hb => by have h1 := (blkS_lt hy13.own hb).1; omega)
            dsimp only at hwr
            have hBW : Below W.heap.size W (w13.setCell ⟨g, o + p, none⟩ (.slice A13 (xs.length + 1) c13)) := ((HB11.out.trans (hB13.mono (by omega)))).setCell (p := ⟨g, o + p, none⟩) (by show W.heap.size ≤ g; omega) _
            have hPa := HPr.out.keep (w' := w13.setCell ⟨g, o + p, none⟩ (.slice A13 (xs.length + 1) c13)) (S' := fun _ => True) (fun q hq => by
              have hq' : q.block < w10.heap.size := hq
              have h1 : (w13.setCell ⟨g, o + p, none⟩ (.slice A13 (xs.length + 1) c13)).cell? q = w13.cell? q := by simp only [World.cell?, Below.heap_setCell w13 ⟨g, o + p, none⟩ _ q.block (show q.block ≠ g by omega)]
              exact h1.trans ((hB13.cell (by omega)).trans (HBB.out.cell hq'))) (fun _ _ => trivial)
            have hpe' : pushed vs p task = vs.set p (xs ++ [task]) := by unfold pushed; rw [HXS.out]
            rw [← hpe'] at hwr
            have HSL := Lib.hid (sameLines_true AP (some ⟨g, o, none⟩) cP c11 lP (l.set p ⟨A13, xs.length + 1, c13⟩) (pushed vs p task) _ _ _ hPa hwr)
            rw [HPl.out, List.length_set] at HSL
            have HBW := Lib.hid hBW
            clear hown13 hb13 ho13 hA13 c13' fr13 hal hB13 hrow13 hy13 hwr hBW hPa hpe'
            go_wp2_with fail
            refine HSL.out.mono ?_
            rintro e w15 ⟨rfl, n15, rfl⟩
            go_wp2_with fail
            go_ret
            exact ⟨rfl, below_drewN HBW.out n15⟩
        · as_aux_lemma =>
            rw [if_pos rfl] at HPE
            have hp := HPV10.out
            unfold PushV at hp
            rw [HPE.out] at hp
            rcases hp with ⟨_, rfl, rfl⟩ | ⟨h1, _⟩
            case inr => cases h1
            go_wp2_with fail
            go_ret
            exact ⟨rfl, HB10.out⟩
      · as_aux_lemma =>
          have d1 : decide (0 ≤ cpu ∧ cpu ≤ (l.length : Int) - 1) = false := decide_eq_false (by rw [HLV.out]; omega)
          rw [d1] at HIN
          have hcf : cpuFault vs cpu = 4 := by rw [HCF.out, if_neg hin]
          have hpe : pushE vs cpu task = 4 := by unfold pushE; rw [hcf, if_neg (by decide)]
          obtain rfl : vic = -1 := by rw [← HVIC.out]; unfold victim; rw [hcf, if_neg (by decide)]
          have hp := HPV7.out
          unfold PushV at hp
          rw [hpe] at hp
          have hq := HQV7.out
          unfold PopV at hq
          rw [hcf] at hq
          rcases hp with ⟨_, rfl, rfl⟩ | ⟨h1, _⟩
          case inr => cases h1
          rcases hq with ⟨_, rfl, rfl, rfl⟩ | ⟨h1, _⟩ | ⟨h1, _⟩
          case inr.inl => cases h1
          case inr.inr => cases h1
          clear hcf hpe hin d1
          go_wp2_with fail
          refine (HIN.out _).mono ?_
          rintro e w8 ⟨rfl, rfl⟩
          go_wp2_with fail
          go_ret
          exact ⟨rfl, HB7.out⟩
  · as_aux_lemma =>
      have HP4 := Lib.hid (fun (w' : World) (hb : Below W.heap.size W w') => run_bad A B c cB l vs turns.length _ w' (HR.out w' hb) hf)
      have hcf : cpuFault vs cpu = linesFault vs := by unfold cpuFault; rw [if_neg hf]
      have hpe : pushE vs cpu task = linesFault vs := by unfold pushE; rw [hcf, if_neg hf]
      have hvc : victim vs cpu = -1 := by unfold victim; rw [hcf, if_neg hf]
      rw [hvc] at HP3
      have e0 : (linesFault vs == 0) = false := by rw [beq_eq_false_iff_ne]; exact hf
      have e0' : (linesFault vs != 0) = true := by simpa using hf
      have HPE := Lib.hid hpe
      have HCF := Lib.hid hcf
      have HF := Lib.hid hf
      clear hcf hpe hvc hf
      go_enter Try.func13, Try.ntmps13
      go_wp2_with fail
      refine HP1.out.mono ?_
      rintro e w1 ⟨PV, PE, rfl, hb1, hpv⟩
      unfold PushV at hpv
      rw [HPE.out] at hpv
      rcases hpv with ⟨_, rfl, rfl⟩ | ⟨h1, _⟩
      case inr => exact absurd h1 HF.out
      have HB1 := Lib.hid hb1
      clear hb1 HP1
      go_wp2_with fail
      refine (HP2.out w1 HB1.out).mono ?_
      rintro e w2 ⟨QV, QT, QE, rfl, hb2, hqv⟩
      unfold PopV at hqv
      rw [HCF.out] at hqv
      rcases hqv with ⟨_, rfl, rfl, rfl⟩ | ⟨h1, _⟩ | ⟨h1, _⟩
      case inr.inl => exact absurd h1 HF.out
      case inr.inr => exact absurd h1 HF.out
      have HB2 := Lib.hid (HB1.out.trans (hb2.mono HB1.out.size))
      clear hb2 HP2 HB1
      go_wp2_with fail
      refine (HP3.out w2 HB2.out).mono ?_
      rintro e w3 ⟨rfl, hb3⟩
      have HB3 := Lib.hid (HB2.out.trans (hb3.mono HB2.out.size))
      clear hb3 HP3 HB2
      go_wp2_with fail
      refine (HP4.out w3 HB3.out).mono ?_
      rintro e w4 ⟨rfl, hb4⟩
      have HB4 := Lib.hid (HB3.out.trans (hb4.mono HB3.out.size))
      clear hb4 HP4 HB3
      go_wp2_with fail
      refine (HP5.out w4 HB4.out).mono ?_
      rintro e w5 ⟨rfl, hb5⟩
      have HB5 := Lib.hid (HB4.out.trans (hb5.mono HB4.out.size))
      clear hb5 HP5 HB4
      go_wp2_with fail
      refine (HP6.out w5 HB5.out).mono ?_
      rintro e w6 ⟨rfl, hb6⟩
      have HB6 := Lib.hid (HB5.out.trans (hb6.mono HB5.out.size))
      clear hb6 HP6 HB5 HPE HCF HF
      generalize linesFault vs = r at *
      go_wp2_with fail
      go_ret
      exact ⟨rfl, HB6.out⟩
end Go.Proofs.Ytaecgapoaagjfaa
