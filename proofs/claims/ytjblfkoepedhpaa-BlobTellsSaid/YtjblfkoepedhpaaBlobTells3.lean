/-
  The law BlobTells: the walk for a store that is right.
-/
import Derived.Test.YtjblfkoepedhpaaBlobTells
import Derived.RegionTactic
namespace Go.Proofs.Ytjblfkoepedhpaa
open Go.ChangeShapes Go.WideShapes Go.ChangeAt Go.RowKit Go.Deep


theorem alloc_cell {w : World} {a : Addr} {v : Value} (h : w.cell? a = some v) : ∀ oo, (w.alloc oo).cell? a = some v := fun oo => (World.cell?_alloc_lt w oo a (lt_of_cell h)).trans h

set_option maxRecDepth 100000 in
set_option maxHeartbeats 8000000 in
theorem blobTells_used (A : Option Addr) (c : Nat) (l : List BlobT) (t : ByteArray) (k : Nat) (hk : k < l.length) (hx : (l.getD k bnil).2 ≠ 0) (W : World) (hr : Row W W.heap.size A (flat blobC l)) (hlc : l.length ≤ c) (hm : c ≤ maxLen) (hA : A = none → c = 0) (h : storeChk l = 0) (htm : t.size ≤ maxLen) :
    Calls Try.prog 14 #[.slice A l.length c, .string t, .int .i64 (k : Int)] W fun e w' => e = .returned (.bool true) ∧ Below W.heap.size W w' := by
  obtain ⟨hl60, hall⟩ := storeChk_ok h
  have HR := Lib.hid (fun w (hb : Below W.heap.size W w) => (hr.below hb).more hb.size)
  have H1 := Lib.hid (hold_r A c l t W hr hlc hm hA h)
  have H4 := Lib.hid (fun w hb => size_ok A c l w (HR.out w hb) hlc hm h)
  have H5 := fun w hb => storeFault_any A c l w (HR.out w hb) (by omega)
  have H6 := fun w hb => checkB_any A c l w (HR.out w hb) hlc hm
  rw [h] at H5 H6
  have H5' := Lib.hid H5
  have H6' := Lib.hid H6
  have HALL := Lib.hid hall
  have hbd := held_bd l hall
  have HSW := Lib.hid (fun w hb k b hk => storeWith_any A c l k b w (HR.out w hb) hA hl60 hk)
  unfold maxLen at htm
  have hx1 := hall _ (getD_mem bnil hk)
  have hE : heldE l k = 0 := heldE_ok h (by rw [Int.toNat_natCast]; omega)
  have H2 := Lib.hid (fun w hb => get_ok A c l k w (HR.out w hb) hlc hm hE hk)
  have H3 := Lib.hid (fun w hb => let_ok A c l k w (HR.out w hb) hlc hm hA hE hk hl60 (by omega) (by omega) _ _ rfl rfl)
  have HXK := Lib.hid hx1
  have HXN := Lib.hid hx
  clear hE hx hx1
  generalize hxe : l.getD k bnil = x at *
  have HXE := Lib.hid hxe
  clear hxe
  clear H5 H6 h hall hA
  go_enter Try.func14, Try.ntmps14
  go_wp2_with fail
  refine H1.out.mono ?_
  rintro e w1 ⟨Aa, na, ca, kk, ee, rfl, hb1, hcase⟩
  have HCASE := Lib.hid hcase
  clear hcase H1
  go_wp2_with fail
  refine (H2.out w1 hb1).mono ?_
  rintro e w2 ⟨rfl, hb2⟩
  have hb02 := hb1.trans (hb2.mono hb1.size)
  go_wp2_with fail
  refine (H3.out w2 hb02).mono ?_
  rintro e w3 ⟨Ab, cb, rfl, hrb, hb3⟩
  rw [List.length_set]
  have hb03 := hb02.trans (hb3.mono hb02.size)
  have hb13 : Below w1.heap.size w1 w3 := hb2.trans (hb3.mono hb2.size)
  clear hb2 hb3 hb02 H2 H3
  go_wp2_with fail
  refine (H4.out w3 hb03).mono ?_
  rintro e w4 ⟨rfl, hb4⟩
  have hb04 := hb03.trans (hb4.mono hb03.size)
  clear H4
  go_wp2_with fail
  refine (H5'.out w4 hb04).mono ?_
  rintro e w5 ⟨rfl, hb5⟩
  have hb05 := hb04.trans (hb5.mono hb04.size)
  clear H5'
  go_wp2_with fail
  refine (H6'.out w5 hb05).mono ?_
  rintro e w6 ⟨rfl, hb6⟩
  have hb06 := hb05.trans (hb6.mono hb05.size)
  have hb36 : Below w3.heap.size w3 w6 := hb4.trans ((hb5.trans (hb6.mono hb5.size)).mono hb4.size)
  have hb16 : Below w1.heap.size w1 w6 := hb13.trans (hb36.mono hb13.size)
  clear H6' hb4 hb5 hb6 hb05 hb04 hb13
  have hr6 := HR.out w6 hb06
  have HT := Lib.hid (And.intro (Eq.refl (heldN l)) (And.intro (Eq.refl (timesN l)) (Eq.refl (bytesN l))))
  generalize hh1 : heldN l = N1 at *
  generalize hh2 : timesN l = N2 at *
  generalize hh3 : bytesN l = N3 at *
  have HN := Lib.hid (And.intro hh1 (And.intro hh2 hh3))
  clear hh1 hh2 hh3 HT
  go_wp2_with fail
  go_loopg [20, 21, 22, 23, 24, 25] l.length (fun m v20 v21 v22 v23 v24 v25 wr => m ≤ l.length ∧ v25 = .int .i64 ((m : Int) - 1) ∧ v20 = .int .i64 (idxAt (isT t) (l.drop m) m) ∧ v21 = .int .i64 (freeFrom l m) ∧ v22 = .int .i64 (heldN (l.drop m)) ∧ v23 = .int .i64 (timesN (l.drop m)) ∧ v24 = .int .i64 (bytesN (l.drop m)) ∧ ∃ nq, wr = w6.drewN nq)
  case atStart =>
    have e0 : l.drop l.length = [] := List.drop_eq_nil_of_le (Nat.le_refl _)
    refine ⟨Nat.le_refl _, rfl, by rw [e0]; rfl, ?_, by rw [e0]; rfl, by rw [e0]; rfl, by rw [e0]; rfl, 0, rfl⟩
    unfold freeFrom
    rw [e0]
    rfl
  case round =>
    obtain ⟨hmj, rfl, rfl, rfl, rfl, rfl, rfl, nq, rfl⟩ := hrel
    by_cases hm0 : gk = 0
    · subst hm0
      rw [show (((0 : Nat) : Int) - 1) = -1 by omega, List.drop_zero, HN.out.1, HN.out.2.1, HN.out.2.2]
      have HFT := Lib.hid (show idxAt (isT t) l ((0 : Nat) : Int) = findT l t from rfl)
      rw [HFT.out]
      have HAT := Lib.hid (holdAt_int l t)
      have hatle := holdAt_le l t
      generalize findT l t = fx at *
      generalize freeFrom l 0 = fr at *
      have hb07 := below_drewN hb06 nq
      have hb37 := below_drewN hb36 nq
      have hb17 := below_drewN hb16 nq
      generalize w6.drewN nq = w7 at *
      clear hb06 hb36 hb16 hr6
      go_upto_if 168 with fail
      go_cut [20] (fun v wx => v = .int .i64 (holdAt l t) ∧ w7 = wx)
      case first =>
        by_cases hf : 0 ≤ fx
        · have d1 : decide (fx < 0) = false := by simp; omega
          have HE := Lib.hid (show (holdAt l t : Int) = fx by rw [HAT.out, if_pos hf])
          go_wp2_with fail
          go_meet
          exact ⟨by rw [HE.out], rfl⟩
        · have d1 : decide (fx < 0) = true := by simp; omega
          have HE := Lib.hid (show (holdAt l t : Int) = fr by rw [HAT.out, if_neg hf])
          go_wp2_with fail
          go_meet
          exact ⟨by rw [HE.out], rfl⟩
      case rest =>
        obtain ⟨rfl, rfl⟩ := hcut
        rcases HCASE.out with ⟨ht, rfl, rfl, rfl⟩ | ⟨ht, hf, rfl, rfl, rfl⟩ | ⟨ht, hf, rfl, rfl, rfl, hra⟩
        · have d64 : decide (64 < t.size) = true := by simp; omega
          have d64' : decide ((64 : Int) < (t.size : Int)) = true := by simp; omega
          have hbz := hb07
          have hb3z := hb37
          as_aux_lemma =>
            go_upto_region 35 with fail
            have ein : decide (0 ≤ (k : Int) ∧ (k : Int) ≤ (l.length : Int) - 1) = true := by simp; omega
            have hk0 : (0 : Int) ≤ (k : Int) := by omega
            have hk1 : (k : Int) < (l.length : Int) := by omega
            obtain ⟨b, o, rfl, _, hc0, hc1⟩ := (hr.below hbz).blob hk bnil
            rw [HXE.out] at hc0 hc1
            have hc0' := alloc_cell hc0
            have hc1' := alloc_cell hc1
            have hxa := HXK.out
            have hxb := HXN.out
            have b0 : (x.2 == 0) = false := beq_eq_false_iff_ne.2 hxb
            have HWB := Lib.hid (fun y => show withB l k y = l.set k y by unfold withB; rw [if_pos hk])
            have HSW2 := Lib.hid (fun w hb y => HSW.out w hb k y (by omega))
            have HRB := Lib.hid (hrb.below hb3z)
            have hw1 : IntKind.i64.wrap (x.2 - 1) = x.2 - 1 := IntWalk.i64_in _ (by omega)
            have HLN := Lib.hid (fun y : BlobT => show (l.set k y).length = l.length by simp)
            clear hrb
            by_cases hone : x.2 = 1
            · have b2 : (x.2 - 1 == 0) = true := by rw [hone]; rfl
              have b3 : (x.2 == 1) = true := by rw [hone]; rfl
              have hle : lessB x = bnil := by unfold lessB; rw [if_pos hone]
              rw [hle] at HRB
              have HON := Lib.hid hone
              clear hone hxb hle
              go_wp2_with fail
              refine (in_any _ _ _ _).mono ?_
              rintro e w20 ⟨rfl, rfl⟩
              rw [ein]
              go_wp2_with fail
              go_region
              all_goals
                go_wp2_with fail
                refine (HSW2.out _ (below_drewN (hbz.alloc hbz.size _) 1) bnil).mono ?_
                rintro e w21 ⟨A8, c8, rfl, hr8, _, _, hb8⟩
                have hbw : Below w7.heap.size w7 w21 := (below_drewN ((Below.refl w7.heap.size w7).alloc (Nat.le_refl _) (.cells #[.string ⟨#[]⟩, .int .i64 0] 134)) 1).trans (hb8.mono (by simp))
                have hbq : Below W.heap.size W w21 := hbz.trans (hbw.mono hbz.size)
                have hbx : Box w21 w7.heap.size 134 #[.string ⟨#[]⟩, .int .i64 0] := ((Box.new w7 134 #[.string ⟨#[]⟩, .int .i64 0]).drewN 1).below hb8 (by simp)
                have q0 : w21.cell? ⟨w7.heap.size, 0, none⟩ = some ((.string ⟨#[]⟩ : Value)) := by simpa using hbx.cell 0
                have q1 : w21.cell? ⟨w7.heap.size, 1, none⟩ = some ((.int .i64 0 : Value)) := by simpa using hbx.cell 1
                rw [HWB.out bnil] at hr8 ⊢
                have HEQ := Lib.hid (equal_blob Ab A8 cb c8 (l.set k bnil) (l.set k bnil) _ _ w21 (HRB.out.below (hbw.mono hb3z.size)) hr8 (by rw [HLN.out]; unfold maxLen; omega) (by rw [HLN.out]; unfold maxLen; omega))
                rw [show decide (l.set k bnil = l.set k bnil) = true by simp, HLN.out] at HEQ
                rw [HLN.out]
                go_wp2_with fail
                refine HEQ.out.mono ?_
                rintro e w22 ⟨rfl, nq2, rfl⟩
                go_wp2_with fail
                go_ret
                exact ⟨rfl, below_drewN hbq nq2⟩
            · have b2 : (x.2 - 1 == 0) = false := beq_eq_false_iff_ne.2 (by omega)
              have b3 : (x.2 == 1) = false := beq_eq_false_iff_ne.2 hone
              have hle : lessB x = (x.1, x.2 - 1) := by unfold lessB; rw [if_neg hone]
              rw [hle] at HRB
              have HON := Lib.hid hone
              clear hone hxb hle
              go_wp2_with fail
              refine (in_any _ _ _ _).mono ?_
              rintro e w20 ⟨rfl, rfl⟩
              rw [ein]
              go_wp2_with fail
              go_region
              all_goals
                go_wp2_with fail
                refine (HSW2.out _ (below_drewN (hbz.alloc hbz.size _) 1) (x.1, x.2 - 1)).mono ?_
                rintro e w21 ⟨A8, c8, rfl, hr8, _, _, hb8⟩
                have hbw : Below w7.heap.size w7 w21 := (below_drewN ((Below.refl w7.heap.size w7).alloc (Nat.le_refl _) (.cells #[.string x.1, .int .i64 (x.2 - 1)] 134)) 1).trans (hb8.mono (by simp))
                have hbq : Below W.heap.size W w21 := hbz.trans (hbw.mono hbz.size)
                have hbx : Box w21 w7.heap.size 134 #[.string x.1, .int .i64 (x.2 - 1)] := ((Box.new w7 134 #[.string x.1, .int .i64 (x.2 - 1)]).drewN 1).below hb8 (by simp)
                have q0 : w21.cell? ⟨w7.heap.size, 0, none⟩ = some ((.string x.1 : Value)) := by simpa using hbx.cell 0
                have q1 : w21.cell? ⟨w7.heap.size, 1, none⟩ = some ((.int .i64 (x.2 - 1) : Value)) := by simpa using hbx.cell 1
                rw [HWB.out (x.1, x.2 - 1)] at hr8 ⊢
                have HEQ := Lib.hid (equal_blob Ab A8 cb c8 (l.set k (x.1, x.2 - 1)) (l.set k (x.1, x.2 - 1)) _ _ w21 (HRB.out.below (hbw.mono hb3z.size)) hr8 (by rw [HLN.out]; unfold maxLen; omega) (by rw [HLN.out]; unfold maxLen; omega))
                rw [show decide (l.set k (x.1, x.2 - 1) = l.set k (x.1, x.2 - 1)) = true by simp, HLN.out] at HEQ
                rw [HLN.out]
                go_wp2_with fail
                refine HEQ.out.mono ?_
                rintro e w22 ⟨rfl, nq2, rfl⟩
                go_wp2_with fail
                go_ret
                exact ⟨rfl, below_drewN hbq nq2⟩
        · have d64 : decide (64 < t.size) = false := by simp; omega
          have d64' : decide ((64 : Int) < (t.size : Int)) = false := by simp; omega
          have HFU := Lib.hid hf
          clear hf
          generalize holdAt l t = at_ at *
          unfold fullB at HFU
          have hbz := hb07
          have hb3z := hb37
          by_cases h60 : at_ = 60
          · subst h60
            as_aux_lemma =>
              go_upto_region 35 with fail
              have ein : decide (0 ≤ (k : Int) ∧ (k : Int) ≤ (l.length : Int) - 1) = true := by simp; omega
              have hk0 : (0 : Int) ≤ (k : Int) := by omega
              have hk1 : (k : Int) < (l.length : Int) := by omega
              obtain ⟨b, o, rfl, _, hc0, hc1⟩ := (hr.below hbz).blob hk bnil
              rw [HXE.out] at hc0 hc1
              have hc0' := alloc_cell hc0
              have hc1' := alloc_cell hc1
              have hxa := HXK.out
              have hxb := HXN.out
              have b0 : (x.2 == 0) = false := beq_eq_false_iff_ne.2 hxb
              have HWB := Lib.hid (fun y => show withB l k y = l.set k y by unfold withB; rw [if_pos hk])
              have HSW2 := Lib.hid (fun w hb y => HSW.out w hb k y (by omega))
              have HRB := Lib.hid (hrb.below hb3z)
              have hw1 : IntKind.i64.wrap (x.2 - 1) = x.2 - 1 := IntWalk.i64_in _ (by omega)
              have HLN := Lib.hid (fun y : BlobT => show (l.set k y).length = l.length by simp)
              clear hrb
              by_cases hone : x.2 = 1
              · have b2 : (x.2 - 1 == 0) = true := by rw [hone]; rfl
                have b3 : (x.2 == 1) = true := by rw [hone]; rfl
                have hle : lessB x = bnil := by unfold lessB; rw [if_pos hone]
                rw [hle] at HRB
                have HON := Lib.hid hone
                clear hone hxb hle
                go_wp2_with fail
                refine (in_any _ _ _ _).mono ?_
                rintro e w20 ⟨rfl, rfl⟩
                rw [ein]
                go_wp2_with fail
                go_region
                all_goals
                  go_wp2_with fail
                  refine (HSW2.out _ (below_drewN (hbz.alloc hbz.size _) 1) bnil).mono ?_
                  rintro e w21 ⟨A8, c8, rfl, hr8, _, _, hb8⟩
                  have hbw : Below w7.heap.size w7 w21 := (below_drewN ((Below.refl w7.heap.size w7).alloc (Nat.le_refl _) (.cells #[.string ⟨#[]⟩, .int .i64 0] 134)) 1).trans (hb8.mono (by simp))
                  have hbq : Below W.heap.size W w21 := hbz.trans (hbw.mono hbz.size)
                  have hbx : Box w21 w7.heap.size 134 #[.string ⟨#[]⟩, .int .i64 0] := ((Box.new w7 134 #[.string ⟨#[]⟩, .int .i64 0]).drewN 1).below hb8 (by simp)
                  have q0 : w21.cell? ⟨w7.heap.size, 0, none⟩ = some ((.string ⟨#[]⟩ : Value)) := by simpa using hbx.cell 0
                  have q1 : w21.cell? ⟨w7.heap.size, 1, none⟩ = some ((.int .i64 0 : Value)) := by simpa using hbx.cell 1
                  rw [HWB.out bnil] at hr8 ⊢
                  have HEQ := Lib.hid (equal_blob Ab A8 cb c8 (l.set k bnil) (l.set k bnil) _ _ w21 (HRB.out.below (hbw.mono hb3z.size)) hr8 (by rw [HLN.out]; unfold maxLen; omega) (by rw [HLN.out]; unfold maxLen; omega))
                  rw [show decide (l.set k bnil = l.set k bnil) = true by simp, HLN.out] at HEQ
                  rw [HLN.out]
                  go_wp2_with fail
                  refine HEQ.out.mono ?_
                  rintro e w22 ⟨rfl, nq2, rfl⟩
                  go_wp2_with fail
                  go_ret
                  exact ⟨rfl, below_drewN hbq nq2⟩
              · have b2 : (x.2 - 1 == 0) = false := beq_eq_false_iff_ne.2 (by omega)
                have b3 : (x.2 == 1) = false := beq_eq_false_iff_ne.2 hone
                have hle : lessB x = (x.1, x.2 - 1) := by unfold lessB; rw [if_neg hone]
                rw [hle] at HRB
                have HON := Lib.hid hone
                clear hone hxb hle
                go_wp2_with fail
                refine (in_any _ _ _ _).mono ?_
                rintro e w20 ⟨rfl, rfl⟩
                rw [ein]
                go_wp2_with fail
                go_region
                all_goals
                  go_wp2_with fail
                  refine (HSW2.out _ (below_drewN (hbz.alloc hbz.size _) 1) (x.1, x.2 - 1)).mono ?_
                  rintro e w21 ⟨A8, c8, rfl, hr8, _, _, hb8⟩
                  have hbw : Below w7.heap.size w7 w21 := (below_drewN ((Below.refl w7.heap.size w7).alloc (Nat.le_refl _) (.cells #[.string x.1, .int .i64 (x.2 - 1)] 134)) 1).trans (hb8.mono (by simp))
                  have hbq : Below W.heap.size W w21 := hbz.trans (hbw.mono hbz.size)
                  have hbx : Box w21 w7.heap.size 134 #[.string x.1, .int .i64 (x.2 - 1)] := ((Box.new w7 134 #[.string x.1, .int .i64 (x.2 - 1)]).drewN 1).below hb8 (by simp)
                  have q0 : w21.cell? ⟨w7.heap.size, 0, none⟩ = some ((.string x.1 : Value)) := by simpa using hbx.cell 0
                  have q1 : w21.cell? ⟨w7.heap.size, 1, none⟩ = some ((.int .i64 (x.2 - 1) : Value)) := by simpa using hbx.cell 1
                  rw [HWB.out (x.1, x.2 - 1)] at hr8 ⊢
                  have HEQ := Lib.hid (equal_blob Ab A8 cb c8 (l.set k (x.1, x.2 - 1)) (l.set k (x.1, x.2 - 1)) _ _ w21 (HRB.out.below (hbw.mono hb3z.size)) hr8 (by rw [HLN.out]; unfold maxLen; omega) (by rw [HLN.out]; unfold maxLen; omega))
                  rw [show decide (l.set k (x.1, x.2 - 1) = l.set k (x.1, x.2 - 1)) = true by simp, HLN.out] at HEQ
                  rw [HLN.out]
                  go_wp2_with fail
                  refine HEQ.out.mono ?_
                  rintro e w22 ⟨rfl, nq2, rfl⟩
                  go_wp2_with fail
                  go_ret
                  exact ⟨rfl, below_drewN hbq nq2⟩
          · have b60 : ((at_ : Int) == 60) = false := beq_eq_false_iff_ne.2 (by omega)
            have b60' : (at_ == 60) = false := beq_eq_false_iff_ne.2 h60
            have hfu := HFU.out
            rw [b60', Bool.false_or, Bool.and_eq_true] at hfu
            have hlt : at_ < l.length := by simpa using hfu.1
            have d1 : decide ((at_ : Int) < (l.length : Int)) = true := by simp; omega
            have d1' : decide (at_ < l.length) = true := by simp; omega
            have ha1 : (at_ : Int) < (l.length : Int) := by omega
            have ha0 : (0 : Int) ≤ (at_ : Int) := by omega
            obtain ⟨b, o, rfl, _, ca0, ca1⟩ := (hr.below hbz).blob hlt bnil
            have bth := hfu.2
            clear hfu HFU
            generalize l.getD at_ bnil = xa at *
            as_aux_lemma =>
              go_upto_region 35 with fail
              have ein : decide (0 ≤ (k : Int) ∧ (k : Int) ≤ (l.length : Int) - 1) = true := by simp; omega
              have hk0 : (0 : Int) ≤ (k : Int) := by omega
              have hk1 : (k : Int) < (l.length : Int) := by omega
              obtain ⟨b', o', hbo, _, hc0, hc1⟩ := (hr.below hbz).blob hk bnil; injection hbo with hbo; injection hbo with hbo1 hbo2; subst hbo1 hbo2
              rw [HXE.out] at hc0 hc1
              have hc0' := alloc_cell hc0
              have hc1' := alloc_cell hc1
              have hxa := HXK.out
              have hxb := HXN.out
              have b0 : (x.2 == 0) = false := beq_eq_false_iff_ne.2 hxb
              have HWB := Lib.hid (fun y => show withB l k y = l.set k y by unfold withB; rw [if_pos hk])
              have HSW2 := Lib.hid (fun w hb y => HSW.out w hb k y (by omega))
              have HRB := Lib.hid (hrb.below hb3z)
              have hw1 : IntKind.i64.wrap (x.2 - 1) = x.2 - 1 := IntWalk.i64_in _ (by omega)
              have HLN := Lib.hid (fun y : BlobT => show (l.set k y).length = l.length by simp)
              clear hrb
              by_cases hone : x.2 = 1
              · have b2 : (x.2 - 1 == 0) = true := by rw [hone]; rfl
                have b3 : (x.2 == 1) = true := by rw [hone]; rfl
                have hle : lessB x = bnil := by unfold lessB; rw [if_pos hone]
                rw [hle] at HRB
                have HON := Lib.hid hone
                clear hone hxb hle
                go_wp2_with fail
                refine (in_any _ _ _ _).mono ?_
                rintro e w20 ⟨rfl, rfl⟩
                rw [ein]
                go_wp2_with fail
                go_region
                all_goals
                  go_wp2_with fail
                  refine (HSW2.out _ (below_drewN (hbz.alloc hbz.size _) 1) bnil).mono ?_
                  rintro e w21 ⟨A8, c8, rfl, hr8, _, _, hb8⟩
                  have hbw : Below w7.heap.size w7 w21 := (below_drewN ((Below.refl w7.heap.size w7).alloc (Nat.le_refl _) (.cells #[.string ⟨#[]⟩, .int .i64 0] 134)) 1).trans (hb8.mono (by simp))
                  have hbq : Below W.heap.size W w21 := hbz.trans (hbw.mono hbz.size)
                  have hbx : Box w21 w7.heap.size 134 #[.string ⟨#[]⟩, .int .i64 0] := ((Box.new w7 134 #[.string ⟨#[]⟩, .int .i64 0]).drewN 1).below hb8 (by simp)
                  have q0 : w21.cell? ⟨w7.heap.size, 0, none⟩ = some ((.string ⟨#[]⟩ : Value)) := by simpa using hbx.cell 0
                  have q1 : w21.cell? ⟨w7.heap.size, 1, none⟩ = some ((.int .i64 0 : Value)) := by simpa using hbx.cell 1
                  rw [HWB.out bnil] at hr8 ⊢
                  have HEQ := Lib.hid (equal_blob Ab A8 cb c8 (l.set k bnil) (l.set k bnil) _ _ w21 (HRB.out.below (hbw.mono hb3z.size)) hr8 (by rw [HLN.out]; unfold maxLen; omega) (by rw [HLN.out]; unfold maxLen; omega))
                  rw [show decide (l.set k bnil = l.set k bnil) = true by simp, HLN.out] at HEQ
                  rw [HLN.out]
                  go_wp2_with fail
                  refine HEQ.out.mono ?_
                  rintro e w22 ⟨rfl, nq2, rfl⟩
                  go_wp2_with fail
                  go_ret
                  exact ⟨rfl, below_drewN hbq nq2⟩
              · have b2 : (x.2 - 1 == 0) = false := beq_eq_false_iff_ne.2 (by omega)
                have b3 : (x.2 == 1) = false := beq_eq_false_iff_ne.2 hone
                have hle : lessB x = (x.1, x.2 - 1) := by unfold lessB; rw [if_neg hone]
                rw [hle] at HRB
                have HON := Lib.hid hone
                clear hone hxb hle
                go_wp2_with fail
                refine (in_any _ _ _ _).mono ?_
                rintro e w20 ⟨rfl, rfl⟩
                rw [ein]
                go_wp2_with fail
                go_region
                all_goals
                  go_wp2_with fail
                  refine (HSW2.out _ (below_drewN (hbz.alloc hbz.size _) 1) (x.1, x.2 - 1)).mono ?_
                  rintro e w21 ⟨A8, c8, rfl, hr8, _, _, hb8⟩
                  have hbw : Below w7.heap.size w7 w21 := (below_drewN ((Below.refl w7.heap.size w7).alloc (Nat.le_refl _) (.cells #[.string x.1, .int .i64 (x.2 - 1)] 134)) 1).trans (hb8.mono (by simp))
                  have hbq : Below W.heap.size W w21 := hbz.trans (hbw.mono hbz.size)
                  have hbx : Box w21 w7.heap.size 134 #[.string x.1, .int .i64 (x.2 - 1)] := ((Box.new w7 134 #[.string x.1, .int .i64 (x.2 - 1)]).drewN 1).below hb8 (by simp)
                  have q0 : w21.cell? ⟨w7.heap.size, 0, none⟩ = some ((.string x.1 : Value)) := by simpa using hbx.cell 0
                  have q1 : w21.cell? ⟨w7.heap.size, 1, none⟩ = some ((.int .i64 (x.2 - 1) : Value)) := by simpa using hbx.cell 1
                  rw [HWB.out (x.1, x.2 - 1)] at hr8 ⊢
                  have HEQ := Lib.hid (equal_blob Ab A8 cb c8 (l.set k (x.1, x.2 - 1)) (l.set k (x.1, x.2 - 1)) _ _ w21 (HRB.out.below (hbw.mono hb3z.size)) hr8 (by rw [HLN.out]; unfold maxLen; omega) (by rw [HLN.out]; unfold maxLen; omega))
                  rw [show decide (l.set k (x.1, x.2 - 1) = l.set k (x.1, x.2 - 1)) = true by simp, HLN.out] at HEQ
                  rw [HLN.out]
                  go_wp2_with fail
                  refine HEQ.out.mono ?_
                  rintro e w22 ⟨rfl, nq2, rfl⟩
                  go_wp2_with fail
                  go_ret
                  exact ⟨rfl, below_drewN hbq nq2⟩
        · have d64 : decide (64 < t.size) = false := by simp; omega
          have d64' : decide ((64 : Int) < (t.size : Int)) = false := by simp; omega
          generalize holdAt l t = at_ at *
          have hfu := hf
          unfold fullB at hfu
          rw [Bool.or_eq_false_iff] at hfu
          have h60 : at_ ≠ 60 := by simpa using hfu.1
          have b60 : ((at_ : Int) == 60) = false := beq_eq_false_iff_ne.2 (by omega)
          have hraz := hra.below hb17
          have ha0 : (0 : Int) ≤ (at_ : Int) := by omega
          have HFB := Lib.hid hfu.2
          clear hf hfu HCASE hra
          by_cases hlt : at_ < l.length
          · have d1 : decide ((at_ : Int) < (l.length : Int)) = true := by simp; omega
            have d1' : decide (at_ < l.length) = true := by simp; omega
            have ha1 : (at_ : Int) < (l.length : Int) := by omega
            have bth : ((l.getD at_ bnil).2 == 1000) = false := by
              have := HFB.out
              rw [d1', Bool.true_and] at this
              exact this
            obtain ⟨b, o, rfl, _, ca0, ca1⟩ := (hr.below hb07).blob hlt bnil
            have hxa := HALL.out _ (getD_mem bnil hlt)
            have HRAZ := Lib.hid hraz
            have HWL := Lib.hid (show (withB l at_ (t, (l.getD at_ bnil).2 + 1)).length = l.length by unfold withB; rw [if_pos hlt]; simp)
            clear hraz HFB
            generalize l.getD at_ bnil = xa at *
            have HS9 := Lib.hid (HSW.out w7 hb07 at_ (t, xa.2 + 1) hatle)
            generalize withB l at_ (t, xa.2 + 1) = ls at *
            go_wp2_with fail
            rw [show (1 : Int) + xa.2 = xa.2 + 1 by omega]
            refine HS9.out.mono ?_
            rintro e w8 ⟨A8, c8, rfl, hr8, _, _, hb8⟩
            have HEQ := Lib.hid (equal_blob Aa A8 ca c8 ls ls _ _ w8 (HRAZ.out.below (hb8.mono hb17.size)) hr8 (by rw [HWL.out]; unfold maxLen; omega) (by rw [HWL.out]; unfold maxLen; omega))
            rw [show decide (ls = ls) = true by simp] at HEQ
            go_wp2_with fail
            refine HEQ.out.mono ?_
            rintro e w9 ⟨rfl, nq9, rfl⟩
            have hbz := below_drewN (hb07.trans (hb8.mono hb07.size)) nq9
            have hb3z := below_drewN (hb37.trans (hb8.mono hb37.size)) nq9
            generalize w8.drewN nq9 = w9 at *
            clear HEQ HS9 hr8 hb8 hb07 hb37 hb17 HRAZ HWL
            as_aux_lemma =>
              go_upto_region 35 with fail
              have ein : decide (0 ≤ (k : Int) ∧ (k : Int) ≤ (l.length : Int) - 1) = true := by simp; omega
              have hk0 : (0 : Int) ≤ (k : Int) := by omega
              have hk1 : (k : Int) < (l.length : Int) := by omega
              obtain ⟨b', o', hbo, _, hc0, hc1⟩ := (hr.below hbz).blob hk bnil; injection hbo with hbo; injection hbo with hbo1 hbo2; subst hbo1 hbo2
              rw [HXE.out] at hc0 hc1
              have hc0' := alloc_cell hc0
              have hc1' := alloc_cell hc1
              have hxa := HXK.out
              have hxb := HXN.out
              have b0 : (x.2 == 0) = false := beq_eq_false_iff_ne.2 hxb
              have HWB := Lib.hid (fun y => show withB l k y = l.set k y by unfold withB; rw [if_pos hk])
              have HSW2 := Lib.hid (fun w hb y => HSW.out w hb k y (by omega))
              have HRB := Lib.hid (hrb.below hb3z)
              have hw1 : IntKind.i64.wrap (x.2 - 1) = x.2 - 1 := IntWalk.i64_in _ (by omega)
              have HLN := Lib.hid (fun y : BlobT => show (l.set k y).length = l.length by simp)
              clear hrb
              by_cases hone : x.2 = 1
              · have b2 : (x.2 - 1 == 0) = true := by rw [hone]; rfl
                have b3 : (x.2 == 1) = true := by rw [hone]; rfl
                have hle : lessB x = bnil := by unfold lessB; rw [if_pos hone]
                rw [hle] at HRB
                have HON := Lib.hid hone
                clear hone hxb hle
                go_wp2_with fail
                refine (in_any _ _ _ _).mono ?_
                rintro e w20 ⟨rfl, rfl⟩
                rw [ein]
                go_wp2_with fail
                go_region
                all_goals
                  go_wp2_with fail
                  refine (HSW2.out _ (below_drewN (hbz.alloc hbz.size _) 1) bnil).mono ?_
                  rintro e w21 ⟨A8, c8, rfl, hr8, _, _, hb8⟩
                  have hbw : Below w9.heap.size w9 w21 := (below_drewN ((Below.refl w9.heap.size w9).alloc (Nat.le_refl _) (.cells #[.string ⟨#[]⟩, .int .i64 0] 134)) 1).trans (hb8.mono (by simp))
                  have hbq : Below W.heap.size W w21 := hbz.trans (hbw.mono hbz.size)
                  have hbx : Box w21 w9.heap.size 134 #[.string ⟨#[]⟩, .int .i64 0] := ((Box.new w9 134 #[.string ⟨#[]⟩, .int .i64 0]).drewN 1).below hb8 (by simp)
                  have q0 : w21.cell? ⟨w9.heap.size, 0, none⟩ = some ((.string ⟨#[]⟩ : Value)) := by simpa using hbx.cell 0
                  have q1 : w21.cell? ⟨w9.heap.size, 1, none⟩ = some ((.int .i64 0 : Value)) := by simpa using hbx.cell 1
                  rw [HWB.out bnil] at hr8 ⊢
                  have HEQ := Lib.hid (equal_blob Ab A8 cb c8 (l.set k bnil) (l.set k bnil) _ _ w21 (HRB.out.below (hbw.mono hb3z.size)) hr8 (by rw [HLN.out]; unfold maxLen; omega) (by rw [HLN.out]; unfold maxLen; omega))
                  rw [show decide (l.set k bnil = l.set k bnil) = true by simp, HLN.out] at HEQ
                  rw [HLN.out]
                  go_wp2_with fail
                  refine HEQ.out.mono ?_
                  rintro e w22 ⟨rfl, nq2, rfl⟩
                  go_wp2_with fail
                  go_ret
                  exact ⟨rfl, below_drewN hbq nq2⟩
              · have b2 : (x.2 - 1 == 0) = false := beq_eq_false_iff_ne.2 (by omega)
                have b3 : (x.2 == 1) = false := beq_eq_false_iff_ne.2 hone
                have hle : lessB x = (x.1, x.2 - 1) := by unfold lessB; rw [if_neg hone]
                rw [hle] at HRB
                have HON := Lib.hid hone
                clear hone hxb hle
                go_wp2_with fail
                refine (in_any _ _ _ _).mono ?_
                rintro e w20 ⟨rfl, rfl⟩
                rw [ein]
                go_wp2_with fail
                go_region
                all_goals
                  go_wp2_with fail
                  refine (HSW2.out _ (below_drewN (hbz.alloc hbz.size _) 1) (x.1, x.2 - 1)).mono ?_
                  rintro e w21 ⟨A8, c8, rfl, hr8, _, _, hb8⟩
                  have hbw : Below w9.heap.size w9 w21 := (below_drewN ((Below.refl w9.heap.size w9).alloc (Nat.le_refl _) (.cells #[.string x.1, .int .i64 (x.2 - 1)] 134)) 1).trans (hb8.mono (by simp))
                  have hbq : Below W.heap.size W w21 := hbz.trans (hbw.mono hbz.size)
                  have hbx : Box w21 w9.heap.size 134 #[.string x.1, .int .i64 (x.2 - 1)] := ((Box.new w9 134 #[.string x.1, .int .i64 (x.2 - 1)]).drewN 1).below hb8 (by simp)
                  have q0 : w21.cell? ⟨w9.heap.size, 0, none⟩ = some ((.string x.1 : Value)) := by simpa using hbx.cell 0
                  have q1 : w21.cell? ⟨w9.heap.size, 1, none⟩ = some ((.int .i64 (x.2 - 1) : Value)) := by simpa using hbx.cell 1
                  rw [HWB.out (x.1, x.2 - 1)] at hr8 ⊢
                  have HEQ := Lib.hid (equal_blob Ab A8 cb c8 (l.set k (x.1, x.2 - 1)) (l.set k (x.1, x.2 - 1)) _ _ w21 (HRB.out.below (hbw.mono hb3z.size)) hr8 (by rw [HLN.out]; unfold maxLen; omega) (by rw [HLN.out]; unfold maxLen; omega))
                  rw [show decide (l.set k (x.1, x.2 - 1) = l.set k (x.1, x.2 - 1)) = true by simp, HLN.out] at HEQ
                  rw [HLN.out]
                  go_wp2_with fail
                  refine HEQ.out.mono ?_
                  rintro e w22 ⟨rfl, nq2, rfl⟩
                  go_wp2_with fail
                  go_ret
                  exact ⟨rfl, below_drewN hbq nq2⟩
          · obtain rfl : at_ = l.length := by omega
            have d1 : decide ((l.length : Int) < (l.length : Int)) = false := by simp
            have HRAZ := Lib.hid hraz
            have HWL := Lib.hid (show (withB l l.length (t, (l.getD l.length bnil).2 + 1)).length = l.length + 1 by unfold withB; rw [if_neg (by omega)]; simp)
            have HLQ := Lib.hid (show withB l l.length (t, (l.getD l.length bnil).2 + 1) = withB l l.length (t, 1) by rw [show (l.getD l.length bnil) = bnil by simp [List.getD_eq_getElem?_getD]]; rfl)
            clear hraz HFB
            have HS9 := Lib.hid (HSW.out w7 hb07 l.length (t, 1) (Nat.le_refl _))
            rw [← HLQ.out] at HS9
            generalize withB l l.length (t, (l.getD l.length bnil).2 + 1) = ls at *
            clear HLQ
            go_wp2_with fail
            refine HS9.out.mono ?_
            rintro e w8 ⟨A8, c8, rfl, hr8, _, _, hb8⟩
            have HEQ := Lib.hid (equal_blob Aa A8 ca c8 ls ls _ _ w8 (HRAZ.out.below (hb8.mono hb17.size)) hr8 (by rw [HWL.out]; unfold maxLen; omega) (by rw [HWL.out]; unfold maxLen; omega))
            rw [show decide (ls = ls) = true by simp] at HEQ
            go_wp2_with fail
            refine HEQ.out.mono ?_
            rintro e w9 ⟨rfl, nq9, rfl⟩
            have hbz := below_drewN (hb07.trans (hb8.mono hb07.size)) nq9
            have hb3z := below_drewN (hb37.trans (hb8.mono hb37.size)) nq9
            generalize w8.drewN nq9 = w9 at *
            clear HEQ HS9 hr8 hb8 hb07 hb37 hb17 HRAZ HWL
            as_aux_lemma =>
              go_upto_region 35 with fail
              have ein : decide (0 ≤ (k : Int) ∧ (k : Int) ≤ (l.length : Int) - 1) = true := by simp; omega
              have hk0 : (0 : Int) ≤ (k : Int) := by omega
              have hk1 : (k : Int) < (l.length : Int) := by omega
              obtain ⟨b, o, rfl, _, hc0, hc1⟩ := (hr.below hbz).blob hk bnil
              rw [HXE.out] at hc0 hc1
              have hc0' := alloc_cell hc0
              have hc1' := alloc_cell hc1
              have hxa := HXK.out
              have hxb := HXN.out
              have b0 : (x.2 == 0) = false := beq_eq_false_iff_ne.2 hxb
              have HWB := Lib.hid (fun y => show withB l k y = l.set k y by unfold withB; rw [if_pos hk])
              have HSW2 := Lib.hid (fun w hb y => HSW.out w hb k y (by omega))
              have HRB := Lib.hid (hrb.below hb3z)
              have hw1 : IntKind.i64.wrap (x.2 - 1) = x.2 - 1 := IntWalk.i64_in _ (by omega)
              have HLN := Lib.hid (fun y : BlobT => show (l.set k y).length = l.length by simp)
              clear hrb
              by_cases hone : x.2 = 1
              · have b2 : (x.2 - 1 == 0) = true := by rw [hone]; rfl
                have b3 : (x.2 == 1) = true := by rw [hone]; rfl
                have hle : lessB x = bnil := by unfold lessB; rw [if_pos hone]
                rw [hle] at HRB
                have HON := Lib.hid hone
                clear hone hxb hle
                go_wp2_with fail
                refine (in_any _ _ _ _).mono ?_
                rintro e w20 ⟨rfl, rfl⟩
                rw [ein]
                go_wp2_with fail
                go_region
                all_goals
                  go_wp2_with fail
                  refine (HSW2.out _ (below_drewN (hbz.alloc hbz.size _) 1) bnil).mono ?_
                  rintro e w21 ⟨A8, c8, rfl, hr8, _, _, hb8⟩
                  have hbw : Below w9.heap.size w9 w21 := (below_drewN ((Below.refl w9.heap.size w9).alloc (Nat.le_refl _) (.cells #[.string ⟨#[]⟩, .int .i64 0] 134)) 1).trans (hb8.mono (by simp))
                  have hbq : Below W.heap.size W w21 := hbz.trans (hbw.mono hbz.size)
                  have hbx : Box w21 w9.heap.size 134 #[.string ⟨#[]⟩, .int .i64 0] := ((Box.new w9 134 #[.string ⟨#[]⟩, .int .i64 0]).drewN 1).below hb8 (by simp)
                  have q0 : w21.cell? ⟨w9.heap.size, 0, none⟩ = some ((.string ⟨#[]⟩ : Value)) := by simpa using hbx.cell 0
                  have q1 : w21.cell? ⟨w9.heap.size, 1, none⟩ = some ((.int .i64 0 : Value)) := by simpa using hbx.cell 1
                  rw [HWB.out bnil] at hr8 ⊢
                  have HEQ := Lib.hid (equal_blob Ab A8 cb c8 (l.set k bnil) (l.set k bnil) _ _ w21 (HRB.out.below (hbw.mono hb3z.size)) hr8 (by rw [HLN.out]; unfold maxLen; omega) (by rw [HLN.out]; unfold maxLen; omega))
                  rw [show decide (l.set k bnil = l.set k bnil) = true by simp, HLN.out] at HEQ
                  rw [HLN.out]
                  go_wp2_with fail
                  refine HEQ.out.mono ?_
                  rintro e w22 ⟨rfl, nq2, rfl⟩
                  go_wp2_with fail
                  go_ret
                  exact ⟨rfl, below_drewN hbq nq2⟩
              · have b2 : (x.2 - 1 == 0) = false := beq_eq_false_iff_ne.2 (by omega)
                have b3 : (x.2 == 1) = false := beq_eq_false_iff_ne.2 hone
                have hle : lessB x = (x.1, x.2 - 1) := by unfold lessB; rw [if_neg hone]
                rw [hle] at HRB
                have HON := Lib.hid hone
                clear hone hxb hle
                go_wp2_with fail
                refine (in_any _ _ _ _).mono ?_
                rintro e w20 ⟨rfl, rfl⟩
                rw [ein]
                go_wp2_with fail
                go_region
                all_goals
                  go_wp2_with fail
                  refine (HSW2.out _ (below_drewN (hbz.alloc hbz.size _) 1) (x.1, x.2 - 1)).mono ?_
                  rintro e w21 ⟨A8, c8, rfl, hr8, _, _, hb8⟩
                  have hbw : Below w9.heap.size w9 w21 := (below_drewN ((Below.refl w9.heap.size w9).alloc (Nat.le_refl _) (.cells #[.string x.1, .int .i64 (x.2 - 1)] 134)) 1).trans (hb8.mono (by simp))
                  have hbq : Below W.heap.size W w21 := hbz.trans (hbw.mono hbz.size)
                  have hbx : Box w21 w9.heap.size 134 #[.string x.1, .int .i64 (x.2 - 1)] := ((Box.new w9 134 #[.string x.1, .int .i64 (x.2 - 1)]).drewN 1).below hb8 (by simp)
                  have q0 : w21.cell? ⟨w9.heap.size, 0, none⟩ = some ((.string x.1 : Value)) := by simpa using hbx.cell 0
                  have q1 : w21.cell? ⟨w9.heap.size, 1, none⟩ = some ((.int .i64 (x.2 - 1) : Value)) := by simpa using hbx.cell 1
                  rw [HWB.out (x.1, x.2 - 1)] at hr8 ⊢
                  have HEQ := Lib.hid (equal_blob Ab A8 cb c8 (l.set k (x.1, x.2 - 1)) (l.set k (x.1, x.2 - 1)) _ _ w21 (HRB.out.below (hbw.mono hb3z.size)) hr8 (by rw [HLN.out]; unfold maxLen; omega) (by rw [HLN.out]; unfold maxLen; omega))
                  rw [show decide (l.set k (x.1, x.2 - 1) = l.set k (x.1, x.2 - 1)) = true by simp, HLN.out] at HEQ
                  rw [HLN.out]
                  go_wp2_with fail
                  refine HEQ.out.mono ?_
                  rintro e w22 ⟨rfl, nq2, rfl⟩
                  go_wp2_with fail
                  go_ret
                  exact ⟨rfl, below_drewN hbq nq2⟩
    · obtain ⟨j, rfl⟩ : ∃ j, gk = j + 1 := ⟨gk - 1, by omega⟩
      rw [show (((j + 1 : Nat) : Int) - 1) = (j : Int) by omega]
      have hj : j < l.length := by omega
      obtain ⟨b, o, rfl, _, hc0, hc1⟩ := hr6.blob hj bnil
      have hxj := HALL.out _ (getD_mem bnil hj)
      have HS1 := Lib.hid (idxAt_drop (isT t) l bnil j hj j)
      have HS2 := Lib.hid (freeFrom_step l hj)
      obtain ⟨hd1, hd2, hd3⟩ := held_drop l hj
      have HD := Lib.hid (And.intro hd1 (And.intro hd2 hd3))
      have hbd2 := held_bd (l.drop (j + 1)) (fun x hx => HALL.out x (List.mem_of_mem_drop hx))
      have hlen2 : (l.drop (j + 1)).length ≤ 60 := by simp; omega
      clear hd1 hd2 hd3
      generalize l.getD j bnil = x at *
      have hj0 : (0 : Int) ≤ (j : Int) := by omega
      have hj1 : (j : Int) < (l.length : Int) := by omega
      have dj : decide ((0 : Int) ≤ (j : Int)) = true := by simp
      by_cases hx : x.2 = 0
      · have b1 : (x.2 == 0) = true := by simp [hx]
        have HX := Lib.hid hx
        have HF1 := Lib.hid (show isT t x = false by simp [isT, hx])
        have HF2 := Lib.hid (show isFree x = true by simp [isFree, hx])
        have HF3 := Lib.hid (show ¬ 0 < x.2 by omega)
        clear hx
        go_wp2_with fail
        go_roundg j
        case measure => omega
        case rel =>
          obtain ⟨k1, k2, k3⟩ := HD.out
          rw [if_neg (by have := HF3.out; omega), Int.zero_add] at k1 k2 k3
          refine ⟨by omega, rfl, by rw [HS1.out, HF1.out]; simp, by rw [HS2.out, HF2.out]; simp, by rw [k1], by rw [k2], by rw [k3], nq, rfl⟩
      · have b1 : (x.2 == 0) = false := by simp [hx]
        have hxp : 0 < x.2 := by omega
        have HX := Lib.hid hx
        have HF2 := Lib.hid (show isFree x = false by simp [isFree, hx])
        have HF3 := Lib.hid hxp
        have hw4 : IntKind.i64.wrap (heldN (l.drop (j + 1)) + 1) = heldN (l.drop (j + 1)) + 1 := IntWalk.i64_in _ (by omega)
        have hw5 : IntKind.i64.wrap (timesN (l.drop (j + 1)) + x.2) = timesN (l.drop (j + 1)) + x.2 := IntWalk.i64_in _ (by omega)
        have hw6 : IntKind.i64.wrap (bytesN (l.drop (j + 1)) + (x.1.size : Int)) = bytesN (l.drop (j + 1)) + (x.1.size : Int) := IntWalk.i64_in _ (by omega)
        clear hx
        cases hte : (x.1.toList == t.toList) with
        | true =>
          have HF1 := Lib.hid (show isT t x = true by simp [isT, hxp, hte])
          go_wp2_with fail
          go_quiet (fail)
          go_wp2_with fail
          go_roundg j
          case measure => omega
          case rel =>
            obtain ⟨k1, k2, k3⟩ := HD.out
            rw [if_pos HF3.out] at k1 k2 k3
            refine ⟨by omega, rfl, by rw [HS1.out, HF1.out]; simp, by rw [HS2.out, HF2.out]; simp, by rw [k1, Int.add_comm], by rw [k2, Int.add_comm], by rw [k3, Int.add_comm], _, rfl⟩
        | false =>
          have HF1 := Lib.hid (show isT t x = false by simp [isT, hxp, hte])
          go_wp2_with fail
          go_quiet (fail)
          go_wp2_with fail
          go_roundg j
          case measure => omega
          case rel =>
            obtain ⟨k1, k2, k3⟩ := HD.out
            rw [if_pos HF3.out] at k1 k2 k3
            refine ⟨by omega, rfl, by rw [HS1.out, HF1.out]; simp, by rw [HS2.out, HF2.out]; simp, by rw [k1, Int.add_comm], by rw [k2, Int.add_comm], by rw [k3, Int.add_comm], _, rfl⟩
end Go.Proofs.Ytjblfkoepedhpaa
