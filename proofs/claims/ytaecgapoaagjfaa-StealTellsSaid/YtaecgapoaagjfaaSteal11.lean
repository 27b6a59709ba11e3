/-
  Lines: the reference's Popped.
-/
import Derived.Test.YtaecgapoaagjfaaSteal10
namespace Go.Proofs.Ytaecgapoaagjfaa
open Go.RowKit

/-- What Popped gives. -/
def PopdPost (vs : List (List Int)) (p n : Nat) (w : World) (e : Ending) (w' : World) : Prop :=
  Below w.heap.size w w' ∧ ((ready vs p = none ∧ e = .returned (.tuple #[.slice none 0 0, .int .i64 0, .bool false])) ∨
    (∃ us, ready vs p = some us ∧ ∃ A' c' l', e = .returned (.tuple #[.slice A' n c', .int .i64 (lastOf us p), .bool true]) ∧ OwnLines w' w.heap.size A' c' l' (cutOf us p)))

set_option maxRecDepth 100000 in
set_option maxHeartbeats 4000000 in
theorem popped_any (A : Option Addr) (c : Nat) (l : List BC) (vs : List (List Int)) (p : Nat) (S : Nat → Prop) (w : World) (h : lnRow w S 0 A c l vs) (hpn : p < l.length) (hl8 : l.length ≤ 8) :
    Calls Try.prog 140 #[.slice A l.length c, .int .i64 p] w (PopdPost vs p l.length w) := by
  have HLV := Lib.hid h.1
  have HH := Lib.hid h.all
  clear h
  go_enter Try.func140, Try.ntmps140
  go_wp2_with fail
  go_loopg [7, 16] l.length (fun gk v i wr => ∃ (k : Nat) (A1 : Option Addr) (c1 : Nat) (l1 : List BC), gk = l.length - k ∧ k ≤ l.length ∧ v = .slice A1 k c1 ∧ i = .int .i64 k ∧ l1.length = k ∧ OwnLines wr w.heap.size A1 c1 l1 (vs.take k) ∧ Below w.heap.size w wr)
  case atStart => exact ⟨0, none, 0, [], by omega, by omega, rfl, rfl, rfl, OwnLines.nil, Below.refl _ _⟩
  case round =>
    obtain ⟨k, A1, c1, l1, hgk, hk, rfl, rfl, hl1, hown, hb⟩ := hrel
    have HK := Lib.hid hgk
    have HL1 := Lib.hid hl1
    have HO := Lib.hid hown
    have HB := Lib.hid hb
    have hbs := hb.size
    clear hgk hl1 hown hb
    by_cases hlt : k < l.length
    · obtain ⟨b, o, rfl, hbl, hc, hi⟩ := (HH.out.below HB.out fun _ h => h).at hlt
      have HT := Lib.hid (take_getD vs [] (show k < vs.length by rw [← HLV.out]; exact hlt))
      have HI := Lib.hid hi
      generalize vs.getD k [] = xs at *
      generalize l.getD k bc0 = x at *
      clear hi
      go_wp2_with (first
        | (at_builtin; with_reducible refine wpList_copy_i rfl (.const (.slice none 0 0)) (.tmp 21) rfl rfl _ x xs rfl HI.out ?_; intro y w1 hy hb1; have HO1 := Lib.hid (fun ob => (HO.out.below hb1).below ((Below.refl w1.heap.size w1).alloc (Nat.le_refl _) ob)); have HY := Lib.hid (fun ob => (hy.lower hbs).below ((Below.refl w1.heap.size w1).alloc (Nat.le_refl _) ob)); have HYA := Lib.hid (LineOwn.new HO.out hy); have HB1 := Lib.hid (HB.out.trans (hb1.mono hbs)); have hbs1 := HB1.out.size; have HYL := Lib.hid hy.len; clear hy hb1)
        | (at_builtin; refine wpList_push_ln rfl (.tmp 20) (.tmp 23) rfl w.heap.size A1 c1 k l1 (vs.take k) HL1.out rfl (HO1.out _) w1.heap.size y xs rfl (by rw [HYL.out]; exact (Box.new _ _ _).cell 0) (HY.out _) HYA.out (by omega) (by simp; omega) ?_; intro A2 c2 w2 hown2 hb2))
      have HO2 := Lib.hid hown2
      have HB2 := Lib.hid ((HB1.out.alloc hbs1 _).trans hb2)
      clear hown2 hb2
      go_roundg (l.length - (k + 1))
      case measure => have := HK.out; omega
      case rel => exact ⟨k + 1, A2, c2, l1 ++ [y], rfl, by omega, rfl, by go_num, by rw [List.length_append, HL1.out]; rfl, by rw [HT.out]; exact HO2.out, HB2.out⟩
    · obtain rfl : k = l.length := by omega
      have hown2 : OwnLines wr w.heap.size A1 c1 l1 vs := by have := HO.out; rwa [List.take_of_length_le (by rw [HLV.out]; omega)] at this
      obtain ⟨g, o, hA2, hc2⟩ := hown2.row.some_of (by rw [HL1.out]; omega)
      subst hA2
      have hp2 : p < l1.length := by rw [HL1.out]; exact hpn
      obtain ⟨hcp, frp⟩ := hown2.head hp2
      obtain ⟨w2, hw2⟩ : ∃ w2, w2 = wr := ⟨_, rfl⟩
      subst hw2
      have HOWN := Lib.hid hown2
      have HRV := Lib.hid (HH.out.below HB.out fun _ h => h)
      have HRB := Lib.hid (robbed_any A c l vs p _ w2 HRV.out hpn hl8)
      obtain ⟨x, hx⟩ : ∃ x, l1.getD p bc0 = x := ⟨_, rfl⟩
      obtain ⟨xs, hxs⟩ : ∃ xs, vs.getD p [] = xs := ⟨_, rfl⟩
      have HX := Lib.hid hx
      have HXS := Lib.hid hxs
      rw [hx, hxs] at hcp
      clear hown2 hx hxs HO
      by_cases hnone : ready vs p = none
      · have HRN := Lib.hid hnone
        have hz : xs.length = 0 ∧ vicTo vs p (vs.length - 1) < 0 := by
          unfold ready at hnone
          rw [HXS.out] at hnone
          by_cases e1 : xs.length = 0
          · rw [if_pos e1] at hnone
            by_cases e2 : vicTo vs p (vs.length - 1) < 0
            · exact ⟨e1, e2⟩
            · rw [if_neg e2] at hnone; cases hnone
          · rw [if_neg e1] at hnone; cases hnone
        obtain ⟨hz1, hz2⟩ := hz
        obtain rfl : xs = [] := List.eq_nil_of_length_eq_zero hz1
        have d1 : decide (vicTo vs p (vs.length - 1) < 0) = true := decide_eq_true hz2
        generalize vicTo vs p (vs.length - 1) = vi at *
        clear hnone hz1
        go_wp2_with fail
        refine HRB.out.mono ?_
        rintro e w3 ⟨rfl, rfl⟩
        go_wp2_with fail
        go_ret3
        exact ⟨HB.out, .inl ⟨HRN.out, rfl⟩⟩
      · obtain ⟨us, hus⟩ : ∃ us, ready vs p = some us := by
          cases hr : ready vs p with
          | none => exact absurd hr hnone
          | some us => exact ⟨us, rfl⟩
        have HUS := Lib.hid hus
        have hrs := ready_some (by rw [← HLV.out]; exact hpn) hus
        have HRS := Lib.hid hrs
        go_upto_if 31 with fail
        go_cut [32] (fun _ wx => ∃ l3, OwnLines wx w.heap.size (some ⟨g, o, none⟩) c1 l3 us ∧ Below w.heap.size w wx)
        case first =>
          by_cases hz : xs.length = 0
          · have hvv : ¬ vicTo vs p (vs.length - 1) < 0 ∧ us = stolen vs p (vicTo vs p (vs.length - 1)).toNat := by
              have h1 := HUS.out
              unfold ready at h1
              rw [HXS.out, if_pos hz] at h1
              by_cases e2 : vicTo vs p (vs.length - 1) < 0
              · rw [if_pos e2] at h1; cases h1
              · rw [if_neg e2] at h1; injection h1 with h1; exact ⟨e2, h1.symm⟩
            have hvp : vicTo vs p (vs.length - 1) < vs.length := vicTo_lt vs p (by rw [← HLV.out]; exact hpn) _ (by omega) (by omega)
            have hspec : 0 < (vs.getD (vicTo vs p (vs.length - 1)).toNat []).length ∧ (vicTo vs p (vs.length - 1)).toNat ≠ p := by
              rcases vic_spec vs p (vs.length - 1) with ⟨e, _⟩ | ⟨k0, k1, k2, e, e2, _⟩
              · have := hvv.1; omega
              · rw [e, Int.toNat_natCast]; exact ⟨e2, rot_ne (by rw [← HLV.out]; exact hpn) k1 k2⟩
            obtain ⟨v, hv⟩ := Int.eq_ofNat_of_zero_le (show 0 ≤ vicTo vs p (vs.length - 1) by omega)
            rw [hv] at hvv hvp hspec HRB
            rw [Int.toNat_natCast] at hvv hspec
            obtain ⟨_, hvv2⟩ := hvv
            have hvl : v < l1.length := by rw [HL1.out, HLV.out]; omega
            have hvl' : v < l.length := by rw [HLV.out]; omega
            obtain ⟨hv1, hvp2⟩ := hspec
            have hpv : p ≠ v := fun e => hvp2 e.symm
            obtain rfl : xs = [] := List.eq_nil_of_length_eq_zero hz
            have HM0 := Lib.hid (mid_zero (v := v) (show p < vs.length by rw [← HLV.out]; exact hpn) (show v < vs.length by rw [← HLV.out]; exact hvl') HXS.out)
            obtain ⟨bA, oA, hAA, hbA, hcA, hiA⟩ := HRV.out.at hvl'
            obtain ⟨ys, hys⟩ : ∃ ys, vs.getD v [] = ys := ⟨_, rfl⟩
            have HYS := Lib.hid hys
            have hbig : ys.length ≤ 17592186044416 := by rw [← hys]; exact hiA.2.2.2.2.2.2
            rw [hys] at hcA hv1
            obtain ⟨xA, hxA⟩ : ∃ xA, l.getD v bc0 = xA := ⟨_, rfl⟩
            rw [hxA] at hcA
            obtain ⟨N, hN⟩ : ∃ N, (ys.length + 1) / 2 = N := ⟨_, rfl⟩
            have hdiv : ((ys.length : Int) + 1) / 2 = (N : Int) := by omega
            have hN2 : N ≤ ys.length := by omega
            have HUE := Lib.hid (show us = mid vs p v N by rw [hvv2]; unfold stolen mid; rw [hys, hN])
            have dv : decide ((v : Int) < 0) = false := decide_eq_false (by omega)
            subst hAA
            clear hz hv hvv2 hvp hvp2 hus hrs hnone hiA hys hxA hN
            go_wp2_with fail
            refine HRB.out.mono ?_
            rintro e w3 ⟨rfl, rfl⟩
            clear HRB
            go_wp2_with fail
            rw [hdiv]
            clear hdiv hcA
            go_loopg [11] N (fun gk i wr => ∃ (j : Nat) (l4 : List BC), gk = N - j ∧ j ≤ N ∧ i = .int .i64 (N - j : Nat) ∧ l4.length = l.length ∧ OwnLines wr w.heap.size (some ⟨g, o, none⟩) c1 l4 (mid vs p v j) ∧ Below w.heap.size w wr)
            case atStart => exact ⟨0, l1, by omega, by omega, rfl, HL1.out, by rw [HM0.out]; exact HOWN.out, HB.out⟩
            case round =>
              obtain ⟨j, l4, hgj, hj, rfl, hl4, hown4, hb4⟩ := hrel
              have HKJ := Lib.hid hgj
              clear hgj
              by_cases hlj : j < N
              · have hpv' : p < vs.length := by rw [← HLV.out]; exact hpn
                have hvv' : v < vs.length := by rw [← HLV.out]; exact hvl'
                have hp4 : p < l4.length := by rw [hl4]; exact hpn
                have hv4 : v < l4.length := by rw [hl4]; exact hvl'
                obtain ⟨hcp4, frp4⟩ := hown4.head hp4
                obtain ⟨hcv4, frv4⟩ := hown4.head hv4
                have hep := hown4.each p hp4
                have hev := hown4.each v hv4
                rw [mid_p hpv' hvv' hpv, HYS.out] at hcp4 hep
                rw [mid_v hvv', HYS.out] at hcv4 hev
                obtain ⟨yp, hyp⟩ : ∃ yp, l4.getD p bc0 = yp := ⟨_, rfl⟩
                obtain ⟨yv, hyv⟩ : ∃ yv, l4.getD v bc0 = yv := ⟨_, rfl⟩
                have HYP := Lib.hid hyp
                have HYV := Lib.hid hyv
                rw [hyp] at hcp4 hep
                rw [hyv] at hcv4 hev
                have htl : (ys.take j).length = j := by rw [List.length_take]; omega
                have hdl : (ys.drop j).length = ys.length - j := List.length_drop
                rw [htl] at hcp4
                rw [hdl] at hcv4
                obtain ⟨PA, PL, PC⟩ := yp
                obtain ⟨VA, VL, VC⟩ := yv
                dsimp only at hcp4 hcv4
                have howp := hep.own
                have howv := hev.own
                dsimp only at howp howv
                rw [htl] at howp
                rw [hdl] at howv
                obtain ⟨gv, ov, hVA, hvc⟩ := howv.some_of (by omega)
                subst hVA
                obtain ⟨b5, o5, e5, _, hct⟩ := howv.row.int (i := 0) (by rw [hdl]; omega)
                injection e5 with e5
                injection e5 with h51 h52
                subst h51 h52
                rw [Nat.add_zero] at hct
                obtain ⟨t, ht⟩ : ∃ t, (ys.drop j).getD 0 0 = t := ⟨_, rfl⟩
                rw [ht] at hct
                have htj : ys.take (j + 1) = ys.take j ++ [t] := by
                  rw [take_getD ys 0 (by omega)]
                  congr 2
                  rw [← ht, List.getD_eq_getElem?_getD, List.getD_eq_getElem?_getD, List.getElem?_drop]
                  rfl
                have ht64 : I64 t := by rw [← ht]; exact I64.getD hev.rng 0
                obtain ⟨i0, hi0, _, hz1, _⟩ := int_parts
                obtain ⟨o', hrun, howt⟩ := howv.tail Try.underlying64 hi0 hz1 (by omega)
                rw [ints_drop, List.drop_drop] at howt
                have hgl := hown4.row.lt
                have hs4 := hb4.size
                have hcl := howv.cap_le
                have hcap : VC ≤ 9223372036854775807 := by have := hcl.2; unfold maxLen at this; omega
                have HOA := Lib.hid (fun ob => (howp.drew).alloc ob)
                have HO4 := Lib.hid (show OwnLines wr.drew w.heap.size (some ⟨g, o, none⟩) c1 l4 (mid vs p v j) from hown4.below (below_drewN (Below.refl _ _) 1))
                have HXG := Lib.hid (fun hb : blkS PA g => hown4.off p hp4 g (by rw [HYP.out]; exact hb) rfl)
                have HB4 := Lib.hid (show Below w.heap.size w wr.drew from below_drewN hb4 1)
                have HCP := Lib.hid (fun ob => (World.cell?_alloc_lt wr.drew ob ⟨g, o + p, none⟩ hgl.2).trans hcp4)
                have HFP := Lib.hid (fun ob => (HO4.out.row.alloc ob).frozen (o + p))
                have HTJ := Lib.hid htj
                have HTL := Lib.hid htl
                have HHT := Lib.hid howt
                have HEV := Lib.hid hev.rng
                have HEP := Lib.hid hep.rng
                have HL4 := Lib.hid hl4
                have hd1 : decide ((0 : Int) < ((N - j : Nat) : Int)) = true := decide_eq_true (by omega)
                have hd1' : decide (0 < N - j) = true := decide_eq_true (by omega)
                have hone : (1 : Int) ≤ ((ys.length - j : Nat) : Int) := by omega
                have hone' : 0 < ys.length - j := by omega
                clear hown4 hb4 hep hev howp howv hyp hyv htl hdl ht htj howt hi0 hz1 hl4
                go_upto_region 14 with fail
                go_region_law ((first
                  | (refine step_push_i rfl (.tmp 53) (.tmp 60) rfl w.heap.size PA PC j (ys.take j) HTL.out rfl (HOA.out _) wr.heap.size t rfl ((Box.new wr.drew _ _).cell 0) (by omega) ?_ ?_
                     · simp; omega
                     intro A3 c3 w3 hown3 hb3 ho3 hA3
                     have c43 : w3.cell? ⟨g, o + p, none⟩ = some (.slice PA j PC) := (by have := ho3.block g (by simp; omega) HXG.out; simp only [World.cell?, this]; exact HCP.out _)
                     have fr43 : w3.frozen? ⟨g, o + p, none⟩ = false := (by have h1 := ho3.block g (by simp; omega) HXG.out; have h2 := HFP.out (.cells #[.int .i64 t] 3); simp only [World.frozen?, h1] at h2 ⊢; exact h2))))
                all_goals (
                  have hal : Below wr.drew.heap.size wr.drew (wr.drew.alloc (.cells #[.int .i64 t] 3)) := (Below.refl _ _).alloc (Nat.le_refl _) _
                  have hL := (HO4.out.below hal).put (q := p) (w' := w3) hp4 (by rw [HYP.out]; exact ho3) (y := ⟨A3, j + 1, c3⟩) (ys := ys.take (j + 1)) ⟨by rw [List.length_take]; show j + 1 = _; omega, by rw [show (ys.take (j + 1)).length = j + 1 by rw [List.length_take]; omega, HTJ.out]; exact hown3, fun u hu => by
                    rw [HTJ.out] at hu
                    rcases List.mem_append.1 hu with h1 | h1
                    · exact HEP.out u h1
                    · rw [List.mem_singleton.1 h1]; exact ht64, by rw [List.length_take]; omega⟩ (by rw [HYP.out]; exact hA3)
                  have hB5 := ((HB4.out.alloc (by simpa using hs4) (.cells #[.int .i64 t] 3)).trans hb3).setCell (p := ⟨g, o + p, none⟩) (by show w.heap.size ≤ g; omega) (.slice A3 (j + 1) c3)
                  dsimp only at hL
                  clear hown3 hb3 ho3 hA3 c43 fr43 hal HOA HO4 HB4 HCP HFP hcp4 frp4 hcv4 frv4 hct
                  go_upto_region 15 with fail
                  generalize w3.setCell ⟨g, o + p, none⟩ (.slice A3 (j + 1) c3) = w5 at *
                  have hv5 : v < (l4.set p ⟨A3, j + 1, c3⟩).length := by rw [List.length_set]; exact hv4
                  obtain ⟨hcv5, frv5⟩ := hL.head hv5
                  have hev5 := hL.each v hv5
                  have hlv5 : (l4.set p ⟨A3, j + 1, c3⟩).getD v bc0 = ⟨some ⟨gv, ov, none⟩, VL, VC⟩ := by rw [getD_setS l4 bc0 p v _ hp4, if_neg (fun e => hpv e.symm)]; exact HYV.out
                  have hmv5 : ((mid vs p v j).set p (ys.take (j + 1))).getD v [] = ys.drop j := by rw [getD_setS _ [] p v _ (by rw [mid_len]; exact hpv'), if_neg (fun e => hpv e.symm), mid_v hvv', HYS.out]
                  rw [hlv5, hmv5] at hcv5 hev5
                  rw [List.length_drop] at hcv5
                  dsimp only at hcv5
                  have how5 := hev5.own
                  dsimp only at how5
                  rw [List.length_drop] at how5
                  obtain ⟨i0, hi0, _, hz1, _⟩ := int_parts
                  obtain ⟨o6, hrun6, howt6⟩ := how5.tail Try.underlying64 hi0 hz1 (by omega)
                  rw [ints_drop, List.drop_drop] at howt6
                  have hL6 := hL.put' hv5 (Only.refl _ w5) (y := ⟨some ⟨gv, o6, none⟩, ys.length - j - 1, VC - 1⟩) (ys := ys.drop (j + 1)) ⟨by rw [List.length_drop]; show ys.length - j - 1 = _; omega, by rw [List.length_drop, show ys.length - (j + 1) = ys.length - j - 1 by omega]; exact howt6, fun u hu => HEV.out u (by rw [← List.drop_drop] at hu; exact List.mem_of_mem_drop hu), by rw [List.length_drop]; omega⟩ (fun b hb => by
                    have hb' : blkS ((l4.set p ⟨A3, j + 1, c3⟩).getD v bc0).A b := by rw [hlv5]; exact hb
                    exact ⟨fun e => hL.off v hv5 b hb' (by rw [e]; rfl), fun q hq hne => hL.part v q hv5 hq (fun e => hne e.symm) b hb'⟩)
                  have HMS := Lib.hid (mid_succ vs p v j hpv)
                  rw [HYS.out] at HMS
                  rw [HMS.out] at hL6
                  dsimp only at hL6
                  have HL6 := Lib.hid hL6
                  have HB6 := Lib.hid (hB5.setCell (p := ⟨g, o + v, none⟩) (by show w.heap.size ≤ g; omega) (.slice (some ⟨gv, o6, none⟩) (ys.length - j - 1) (VC - 1)))
                  clear hL hB5 hev5 how5 hL6 hlv5 hmv5 hi0 hz1 howt6 hrun
                  go_wp2_with fail
                  go_roundg (N - (j + 1))
                  case measure => have := HKJ.out; omega
                  case rel => exact ⟨j + 1, _, rfl, by omega, by go_num, by rw [List.length_set, List.length_set]; exact HL4.out, HL6.out, HB6.out⟩)
              · have HJN := Lib.hid (show j = N by omega)
                have hd1 : decide ((0 : Int) < ((N - j : Nat) : Int)) = false := decide_eq_false (by omega)
                have hd1' : decide (0 < N - j) = false := decide_eq_false (by omega)
                have HO4 := Lib.hid hown4
                have HB4 := Lib.hid hb4
                clear hown4 hb4 hl4
                go_wp2_with fail
                go_meet
                exact ⟨l4, by rw [HUE.out, ← HJN.out]; exact HO4.out, HB4.out⟩
          · have HUE := Lib.hid (show us = vs by
              have h1 := HUS.out
              unfold ready at h1
              rw [HXS.out, if_neg hz] at h1
              injection h1 with h1
              exact h1.symm)
            have e1 : ((xs.length : Int) == 0) = false := by rw [beq_eq_false_iff_ne]; omega
            have e1' : (xs.length == 0) = false := by rw [beq_eq_false_iff_ne]; omega
            clear hz hus hrs hnone
            go_wp2_with fail
            go_meet
            exact ⟨l1, by rw [HUE.out]; exact HOWN.out, HB.out⟩
        case rest =>
          obtain ⟨l3, hown3, hb3⟩ := hcut
          have hl3 : l3.length = l.length := by rw [hown3.len, HRS.out.1, HLV.out]
          have hp3 : p < l3.length := by omega
          obtain ⟨hcq, frq⟩ := hown3.head hp3
          have hep := hown3.each p hp3
          have hup : 1 ≤ (us.getD p []).length := HRS.out.2
          have hgl := hown3.row.lt
          have HRES := Lib.hid (show lastOf us p = (us.getD p []).getD ((us.getD p []).length - 1) 0 from rfl)
          have HCUT := Lib.hid (show cutOf us p = us.set p ((us.getD p []).take ((us.getD p []).length - 1)) from rfl)
          obtain ⟨y, hy⟩ : ∃ y, l3.getD p bc0 = y := ⟨_, rfl⟩
          obtain ⟨ys, hys⟩ : ∃ ys, us.getD p [] = ys := ⟨_, rfl⟩
          have HY := Lib.hid hy
          rw [hy, hys] at hcq hep
          rw [hys] at hup HRES HCUT
          obtain ⟨YA, YL, YC⟩ := y
          dsimp only at hcq
          have hown := hep.own
          dsimp only at hown
          obtain ⟨gy, oy, hYA, hyc⟩ := hown.some_of (by omega)
          subst hYA
          have hbig := hep.big
          obtain ⟨q, hq⟩ : ∃ q, ys.length = q + 1 := ⟨ys.length - 1, by omega⟩
          obtain ⟨b5, o5, e5, _, hct⟩ := hown.row.int (i := q) (by omega)
          injection e5 with e5
          injection e5 with h51 h52
          subst h51 h52
          obtain ⟨t, ht⟩ : ∃ t, ys.getD q 0 = t := ⟨_, rfl⟩
          rw [ht] at hct
          rw [show ys.length - 1 = q by omega] at HRES HCUT
          rw [ht] at HRES
          have hfr := hep.front (k := q) (by omega)
          have hL := hown3.put' hp3 (Only.refl _ wc) hfr (fun b hb => by
            have hb' : blkS (l3.getD p bc0).A b := by rw [HY.out]; exact hb
            exact ⟨fun e => hown3.off p hp3 b hb' (by rw [e]; rfl), fun j hj hne => hown3.part p j hp3 hj (fun e => hne e.symm) b hb'⟩)
          dsimp only at hL
          have HL := Lib.hid hL
          rw [hq] at hcq
          have hqc : q ≤ YC := by omega
          have hqb : q ≤ 17592186044416 := by omega
          have hcl := hown.cap_le
          have hcap : YC ≤ 9223372036854775807 := by have := hcl.2; unfold maxLen at this; omega
          have hgB : w.heap.size ≤ g := hgl.1
          have HB4 := Lib.hid (hb3.setCell (p := ⟨g, o + p, none⟩) hgB (.slice (some ⟨gy, oy, none⟩) q YC))
          clear hown3 hb3 hl3 hep hy hys hown hup ht hbig hq hus hrs hnone hcl hyc hfr hL
          go_wp2_with fail
          go_ret3
          exact ⟨HB4.out, .inr ⟨us, HUS.out, _, _, _, by rw [HRES.out]; rfl, by rw [HCUT.out]; exact HL.out⟩⟩
end Go.Proofs.Ytaecgapoaagjfaa
