/-
  The law ShrinkSays: what List hands back fails and nothing of it can be spared, or what is wrong is told.
-/
import Derived.Test.YtjblfkoepedhpaaShrinkTest
import Derived.Test.YtjblfkoepedhpaaEqual
import Derived.Deep.RegionLaw
namespace Go.Proofs.Ytjblfkoepedhpaa
open Go.ChangeShapes Go.WideShapes Go.ChangeAt Go.RowKit Go.Deep

theorem sub_one {a : Int} {zs : List Int} (h : zs.Sublist [a]) : zs = [] ∨ zs = [a] := by
  rcases List.sublist_cons_iff.1 h with h1 | ⟨r, e, h1⟩
  · exact .inl (List.sublist_nil.1 h1)
  · rw [List.sublist_nil.1 h1] at e
    exact .inr e
theorem sub_two {a b : Int} {zs : List Int} (h : zs.Sublist [a, b]) : zs = [] ∨ zs = [b] ∨ zs = [a] ∨ zs = [a, b] := by
  rcases List.sublist_cons_iff.1 h with h1 | ⟨r, e, h1⟩
  · rcases sub_one h1 with h2 | h2
    · exact .inl h2
    · exact .inr (.inl h2)
  · rcases sub_one h1 with h2 | h2
    · rw [h2] at e; exact .inr (.inr (.inl e))
    · rw [h2] at e; exact .inr (.inr (.inr e))
theorem nine {zs : List Int} (h : zs.Sublist [4, 9, 4]) (h9 : hasB 9 zs = true) (hm : ∀ i, i < zs.length → hasB 9 (zs.eraseIdx i) = false) : zs = [9] := by
  have hall : zs = [] ∨ zs = [4] ∨ zs = [9] ∨ zs = [4, 9] ∨ zs = [9, 4] ∨ zs = [4, 4] ∨ zs = [4, 9, 4] := by
    rcases List.sublist_cons_iff.1 h with h1 | ⟨r, e, h1⟩
    · rcases sub_two h1 with h2 | h2 | h2 | h2 <;> simp [h2]
    · rcases sub_two h1 with h2 | h2 | h2 | h2 <;> simp [e, h2]
  rcases hall with rfl | rfl | rfl | rfl | rfl | rfl | rfl
  · cases h9
  · cases h9
  · rfl
  · have := hm 0 (by decide); cases this
  · have := hm 1 (by decide); cases this
  · cases h9
  · have := hm 0 (by decide); cases this

set_option maxRecDepth 100000 in
set_option maxHeartbeats 4000000 in
theorem shrinkSays_walk (A An : Option Addr) (c cn : Nat) (l need : List Int) (least : Int) (W : World) (hr : Row W W.heap.size A (ints l)) (hA : A = none → c = 0) (hi : ∀ x ∈ l, I64 x) (hrn : Row W W.heap.size An (ints need)) (hnc : need.length ≤ cn) (hnm : cn ≤ maxLen) (hlm : l.length ≤ maxLen) :
    Calls Try.prog 13 #[.slice A l.length c, .slice An need.length cn, .int .i64 least] W fun e w' => e = .returned (.bool true) ∧ Below W.heap.size W w' := by
  unfold maxLen at hnm
  obtain ⟨k, hk5, hkn, hmin⟩ : ∃ k : Nat, k ≤ 5 ∧ k ≤ need.length ∧ min (need.length : Int) 5 = (k : Int) := ⟨min need.length 5, by omega, by omega, by omega⟩
  have hkc : (k : Int) ≤ (cn : Int) := by omega
  have HX := Lib.hid (show Box (((W.alloc (.cells #[.slice An need.length cn] 27)).alloc (.cells #[.int .i64 least] 3)).alloc (.cells #[.int .i64 4, .int .i64 9, .int .i64 4] 3)) W.heap.size 27 #[.slice An need.length cn] ∧ Box (((W.alloc (.cells #[.slice An need.length cn] 27)).alloc (.cells #[.int .i64 least] 3)).alloc (.cells #[.int .i64 4, .int .i64 9, .int .i64 4] 3)) (W.heap.size + 1) 3 #[.int .i64 least] ∧ Box (((W.alloc (.cells #[.slice An need.length cn] 27)).alloc (.cells #[.int .i64 least] 3)).alloc (.cells #[.int .i64 4, .int .i64 9, .int .i64 4] 3)) (W.heap.size + 1 + 1) 3 #[.int .i64 4, .int .i64 9, .int .i64 4] ∧ Below W.heap.size W (((W.alloc (.cells #[.slice An need.length cn] 27)).alloc (.cells #[.int .i64 least] 3)).alloc (.cells #[.int .i64 4, .int .i64 9, .int .i64 4] 3)) from by
    refine ⟨((Box.new _ _ _).alloc _).alloc _, ?_, ?_, (((Below.refl _ _).alloc (Nat.le_refl _) _).alloc (by simp) _).alloc (by simp; omega) _⟩
    · have := (Box.new (W.alloc (.cells #[.slice An need.length cn] 27)) 3 #[.int .i64 least]).alloc (.cells #[.int .i64 4, .int .i64 9, .int .i64 4] 3)
      simpa using this
    · have := Box.new ((W.alloc (.cells #[.slice An need.length cn] 27)).alloc (.cells #[.int .i64 least] 3)) 3 #[.int .i64 4, .int .i64 9, .int .i64 4]
      simpa using this)
  go_enter Try.func13, Try.ntmps13
  go_wp2_with fail
  generalize ((W.alloc (.cells #[.slice An need.length cn] 27)).alloc (.cells #[.int .i64 least] 3)).alloc (.cells #[.int .i64 4, .int .i64 9, .int .i64 4] 3) = W1 at *
  obtain ⟨hB4, hB5, hB6, hb1⟩ := HX.out
  clear HX
  have HL0 := Lib.hid (list_any (some ⟨W.heap.size + 1 + 1, 0, none⟩) 3 [4, 9, 4] 85 #[] (hasB 9) W1 enters_ss1 (ss1_any W1) (fun _ => ⟨_, 0, rfl, hB6.lt, fun i v hv => by
    rw [Nat.zero_add, hB6.cell i]
    simpa [ints] using hv⟩) (fun e => by cases e) (by intro x hx; simp at hx; unfold I64; omega))
  refine HL0.out.mono ?_
  rintro e w2 ⟨hb2, hcase⟩
  rcases hcase with ⟨h, _⟩ | ⟨_, h, _⟩ | ⟨_, _, v, zs, rfl, hown, hsub, h9, hmn⟩
  · simp at h
  · exact absurd h (by decide)
  obtain rfl := nine hsub h9 hmn
  clear HL0 hsub h9 hmn
  obtain ⟨A9, c9, rfl, hr9, _, _, _⟩ := row_of_own_int hown
  have hB4' := hB4.below hb2 hB4.lt
  have hB5' := hB5.below hb2 hB5.lt
  have hb02 : Below W.heap.size W w2 := hb1.trans (hb2.mono hb1.size)
  have hg4 : W.heap.size + 1 < w2.heap.size := hB5'.lt
  clear hB4 hB5 hB6 hb1 hb2 hown
  have hal : Below w2.heap.size w2 (w2.alloc (.cells #[.int .i64 9] 3)) := (Below.refl _ _).alloc (Nat.le_refl _) _
  have HEQ := Lib.hid (equal_any A9 (some ⟨w2.heap.size, 0, none⟩) c9 1 [9] [9] w2.heap.size (w2.heap.size + 1) (w2.alloc (.cells #[.int .i64 9] 3)) (hr9.below hal) (fun _ => ⟨_, 0, rfl, by omega, fun i v hv => by
    rw [Nat.zero_add, (Box.new w2 3 #[.int .i64 9]).cell i]
    simpa [ints] using hv⟩) (by decide) (by decide))
  rw [show decide (([9] : List Int) = [9]) = true by decide] at HEQ
  go_wp2_with fail
  refine HEQ.out.mono ?_
  rintro e w3 ⟨rfl, nq, rfl⟩
  have hb3 := below_drewN (hb02.alloc hb02.size (.cells #[.int .i64 9] 3)) nq
  have hB4 := (hB4'.alloc (.cells #[.int .i64 9] 3)).drewN nq
  have hB5 := (hB5'.alloc (.cells #[.int .i64 9] 3)).drewN nq
  generalize (w2.alloc (.cells #[.int .i64 9] 3)).drewN nq = w3 at *
  clear hB4' hB5' hal HEQ hr9 hb02
  have c4 : w3.cell? ⟨W.heap.size, 0, none⟩ = some (.slice An need.length cn) := by simpa using hB4.cell 0
  have c5 : w3.cell? ⟨W.heap.size + 1, 0, none⟩ = some (.int .i64 least) := by simpa using hB5.cell 0
  have f4 := hB4.frozen 0
  have f5 := hB5.frozen 0
  have HMN := Lib.hid (show ∀ (LL : Int), Box ((w3.setCell ⟨W.heap.size + 1, 0, none⟩ (.int .i64 LL)).setCell ⟨W.heap.size, 0, none⟩ (.slice An k cn)) W.heap.size 27 #[.slice An k cn] ∧ Box ((w3.setCell ⟨W.heap.size + 1, 0, none⟩ (.int .i64 LL)).setCell ⟨W.heap.size, 0, none⟩ (.slice An k cn)) (W.heap.size + 1) 3 #[.int .i64 LL] ∧ Below W.heap.size W ((w3.setCell ⟨W.heap.size + 1, 0, none⟩ (.int .i64 LL)).setCell ⟨W.heap.size, 0, none⟩ (.slice An k cn)) from fun LL =>
    ⟨(hB4.far (p := ⟨W.heap.size + 1, 0, none⟩) (by simp) _).set 0 _, (hB5.set 0 _).far (p := ⟨W.heap.size, 0, none⟩) (by simp) _, (hb3.setCell (by simp) _).setCell (by simp) _⟩)
  go_wp2_with fail
  generalize wrap64 ((IntKind.u64.wrap least).tmod 2000) = LL at *
  obtain ⟨hB4n, hB5n, hb5⟩ := HMN.out LL
  generalize (w3.setCell ⟨W.heap.size + 1, 0, none⟩ (.int .i64 LL)).setCell ⟨W.heap.size, 0, none⟩ (.slice An k cn) = W5 at *
  have HND := Lib.hid (show (need.take k).length = k by simp; omega)
  have HF := Lib.hid (ss2_any (W.heap.size + 1) W.heap.size LL An cn (need.take k) W5 (by simpa using hB5n.cell 0) (by rw [HND.out]; simpa using hB4n.cell 0) (by
    rw [show ints (need.take k) = (ints need).take k by simp [ints]]
    exact ((hrn.below hb5).more hb5.size).take k) (by rw [HND.out]; omega))
  have hr5 := (hr.below hb5).more hb5.size
  have HA := Lib.hid hA
  have HI := Lib.hid hi
  have HLM := Lib.hid hlm
  have HLI := Lib.hid (list_any A c l 87 #[.pointer (some ⟨W.heap.size + 1, 0, none⟩), .pointer (some ⟨W.heap.size, 0, none⟩)] (failsB LL (need.take k)) W5 enters_ss2 HF.out hr5 hA hi)
  clear HMN c4 c5 f4 f5 hB4 hB5 hb3 hmin hA hi hlm
  generalize failsB LL (need.take k) = F at *
  refine HLI.out.mono ?_
  rintro e w6 ⟨hb6, hcase⟩
  have hb06 : Below W.heap.size W w6 := hb5.trans (hb6.mono hb5.size)
  rcases hcase with ⟨h200, rfl⟩ | ⟨h200, hFl, rfl⟩ | ⟨h200, hFl, v, zs, rfl, hown, hsub, hFz, hmn⟩
  · go_wp2_with fail
    go_ret
    exact ⟨rfl, hb06⟩
  · have d2 : decide (200 < l.length) = false := by simp; omega
    have d2' : decide ((200 : Int) < (l.length : Int)) = false := by simp; omega
    have HFL := Lib.hid hFl
    clear hFl
    go_wp2_with fail
    refine (clone_any A c l _ w6 (hr5.below hb6) HA.out (by omega)).mono ?_
    rintro e w7 ⟨v7, rfl, hown7, hb7⟩
    have hb57 : Below W5.heap.size W5 w7 := hb6.trans (hb7.mono hb6.size)
    have HFC := Lib.hid (HF.out l v7 w7 h200 HI.out hb57 (own_lower hown7 hb6.size))
    rw [HFL.out] at HFC
    go_wp2_with fail
    refine HFC.out.mono ?_
    rintro e w8 ⟨rfl, hg8⟩
    have hb8 : Below W5.heap.size W5 w8 := hb57.grown hg8 hb57.size (fun q hq => Nat.le_trans hb6.size (hown7.lt q hq).1)
    go_wp2_with fail
    go_ret
    exact ⟨rfl, hb5.trans (hb8.mono hb5.size)⟩
  · have d2 : decide (200 < l.length) = false := by simp; omega
    have d2' : decide ((200 : Int) < (l.length : Int)) = false := by simp; omega
    have HFL := Lib.hid hFl
    have HFZ := Lib.hid hFz
    have HMN := Lib.hid hmn
    have HSB := Lib.hid hsub
    have hzl : zs.length ≤ 200 := by have := hsub.length_le; omega
    have HIZ := Lib.hid (fun x hx => HI.out x (hsub.subset hx))
    clear hFl hFz hmn hsub
    obtain ⟨A6, c6, rfl, hr6, hc6, hm6, hA6⟩ := row_of_own_int hown
    go_wp2_with fail
    refine (clone_any A c l _ w6 (hr5.below hb6) HA.out (by omega)).mono ?_
    rintro e w7 ⟨v7, rfl, hown7, hb7⟩
    have hb57 : Below W5.heap.size W5 w7 := hb6.trans (hb7.mono hb6.size)
    have HFC := Lib.hid (HF.out l v7 w7 h200 HI.out hb57 (own_lower hown7 hb6.size))
    rw [HFL.out] at HFC
    go_wp2_with fail
    refine HFC.out.mono ?_
    rintro e w8 ⟨rfl, hg8⟩
    have hb68 : Below w6.heap.size w6 w8 := hb7.grown hg8 hb7.size (fun q hq => (hown7.lt q hq).1)
    have hb58 : Below W5.heap.size W5 w8 := hb6.trans (hb68.mono hb6.size)
    have hown8 := own_under hown hb68
    have hr8 := (hr6.below hb68).more hb68.size
    clear hg8 hb7 hown7 hb57 HFC hown hb68 hr6
    have HWI := Lib.hid (within_any A6 A c6 c zs l _ _ w8 hr8 (hr5.below hb58) hc6 hm6 HLM.out)
    rw [leftOf_sub l zs HSB.out] at HWI
    go_wp2_with fail
    refine HWI.out.mono ?_
    rintro e w9 ⟨rfl, nq9, rfl⟩
    have hb59 := below_drewN hb58 nq9
    have hown9 : (w8.drewN nq9).ownsRow W5.heap.size 3 1 (.slice A6 zs.length c6) zs.length (ints zs) := hown8
    have hr9 : Row (w8.drewN nq9) (w8.drewN nq9).heap.size A6 (ints zs) := hr8
    generalize w8.drewN nq9 = w9 at *
    clear hown8 hr8 hb58 HWI
    go_wp2_with fail
    refine (clone_any A6 c6 zs _ w9 hr9 hA6 (by omega)).mono ?_
    rintro e w10 ⟨v10, rfl, hown10, hb10⟩
    have hb510 : Below W5.heap.size W5 w10 := hb59.trans (hb10.mono hb59.size)
    have HFC := Lib.hid (HF.out zs v10 w10 hzl HIZ.out hb510 (own_lower hown10 hb59.size))
    rw [HFZ.out] at HFC
    go_wp2_with fail
    refine HFC.out.mono ?_
    rintro e w11 ⟨rfl, hg11⟩
    have hb911 : Below w9.heap.size w9 w11 := hb10.grown hg11 hb10.size (fun q hq => (hown10.lt q hq).1)
    have hb511 : Below W5.heap.size W5 w11 := hb59.trans (hb911.mono hb59.size)
    have hown11 := own_under hown9 hb911
    clear hown9 hr9 hb59 hb10 hb510 hown10 hg11 hb911 HFC
    unfold maxLen at hm6
    go_wp2_with fail
    go_loopg [83] zs.length (fun m v83 wr => ∃ j : Nat, j ≤ zs.length ∧ m = zs.length - j ∧ v83 = .int .i64 j ∧ wr.ownsRow W5.heap.size 3 1 (.slice A6 zs.length c6) zs.length (ints zs) ∧ Below W5.heap.size W5 wr)
    case atStart => exact ⟨0, by omega, rfl, rfl, hown11, hb511⟩
    case round =>
      obtain ⟨j, hj, hjm, rfl, hown4, hb4⟩ := hrel
      have HJ := Lib.hid hjm
      clear hjm
      by_cases hlt : j < zs.length
      · obtain ⟨A6', c6', hve, hr4, hc4, _, _⟩ := row_of_own_int hown4
        injection hve with hve1 hve2 hve3
        subst hve1 hve3
        obtain ⟨A5, hsl, hrt, hA5⟩ := row_from hr4 hc4 hA6 j hlt
        have hk1 : (0 : Int) ≤ (j : Int) := by omega
        have hk2 : (j : Int) ≤ (c6 : Int) := by omega
        have hw1 : IntKind.i64.wrap ((j : Int) + 1) = (j : Int) + 1 := IntWalk.i64_in _ (by omega)
        have HCT := Lib.hid (show Calls Try.prog 90 #[.slice (some ⟨wr.heap.size, 0, none⟩) 2 2] (wr.alloc (.cells #[.slice A6 j c6, .slice A5 (zs.length - (j + 1)) (c6 - (j + 1))] 27)).drew (IntsPost (zs.eraseIdx j) (wr.alloc (.cells #[.slice A6 j c6, .slice A5 (zs.length - (j + 1)) (c6 - (j + 1))] 27)).drew) by
          rw [← erase_eq]
          have hal : Below wr.heap.size wr (wr.alloc (.cells #[.slice A6 j c6, .slice A5 (zs.length - (j + 1)) (c6 - (j + 1))] 27)).drew := below_drewN ((Below.refl _ _).alloc (Nat.le_refl _) _) 1
          have hbx : Box (wr.alloc (.cells #[.slice A6 j c6, .slice A5 (zs.length - (j + 1)) (c6 - (j + 1))] 27)).drew wr.heap.size 27 #[.slice A6 j c6, .slice A5 (zs.length - (j + 1)) (c6 - (j + 1))] := (Box.new _ _ _).drew
          refine concat_two wr.heap.size A6 A5 c6 (c6 - (j + 1)) (zs.take j) (zs.drop (j + 1)) _ ⟨?_, ?_, ?_, (hrt.below hal).more hal.size, hA6, hA5, hbx.lt⟩ (by simp; omega) (by simp; omega)
          · rw [show (zs.take j).length = j by simp; omega]
            exact (hbx.cell 0).trans rfl
          · rw [show (zs.drop (j + 1)).length = zs.length - (j + 1) by simp]
            exact (hbx.cell 1).trans rfl
          · have := (hr4.take j).below hal
            rw [show ints (zs.take j) = (ints zs).take j by simp [ints]]
            exact this.more hal.size)
        have HB5 := Lib.hid (show Below W5.heap.size W5 (wr.alloc (.cells #[.slice A6 j c6, .slice A5 (zs.length - (j + 1)) (c6 - (j + 1))] 27)).drew from below_drewN (hb4.alloc hb4.size _) 1)
        have HO5 := Lib.hid (show (wr.alloc (.cells #[.slice A6 j c6, .slice A5 (zs.length - (j + 1)) (c6 - (j + 1))] 27)).drew.ownsRow W5.heap.size 3 1 (.slice A6 zs.length c6) zs.length (ints zs) from (hown4.alloc _).drew)
        have hel : (zs.eraseIdx j).length = zs.length - 1 := List.length_eraseIdx_of_lt hlt
        have HFE := Lib.hid (HMN.out j hlt)
        have hew : (zs.eraseIdx j).length ≤ 200 := by omega
        have HES := Lib.hid (fun x hx => HIZ.out x ((List.eraseIdx_sublist zs j).subset hx))
        clear hel
        generalize zs.eraseIdx j = qs at *
        have HFF := Lib.hid (fun v5 w5 (hown5 : w5.ownsRow (wr.alloc (.cells #[.slice A6 j c6, .slice A5 (zs.length - (j + 1)) (c6 - (j + 1))] 27)).drew.heap.size 3 1 v5 qs.length (ints qs)) (hb5 : Below (wr.alloc (.cells #[.slice A6 j c6, .slice A5 (zs.length - (j + 1)) (c6 - (j + 1))] 27)).drew.heap.size (wr.alloc (.cells #[.slice A6 j c6, .slice A5 (zs.length - (j + 1)) (c6 - (j + 1))] 27)).drew w5) =>
          HF.out qs v5 w5 hew HES.out (HB5.out.trans (hb5.mono HB5.out.size)) (own_lower hown5 HB5.out.size))
        rw [HFE.out] at HFF
        go_wp2_with fail
        go_region_law ((first
          | (go_simp; go_at_call 90; refine HCT.out.mono ?_; rintro e w5 ⟨v5, rfl, hown5, hb5⟩)
          | (go_simp; go_at_call 87; refine (HFF.out v5 w5 hown5 hb5).mono ?_; rintro e w12 ⟨rfl, hg12⟩)))
        have hbx12 := hb5.grown hg12 hb5.size (fun q hq => (hown5.lt q hq).1)
        have hown12 := own_under HO5.out hbx12
        have hb12 := HB5.out.trans (hbx12.mono HB5.out.size)
        clear hbx12 hg12 hown5
        go_wp2_with fail
        go_roundg (zs.length - (j + 1))
        case measure => have := HJ.out; omega
        case rel => exact ⟨j + 1, by omega, rfl, by go_num, hown12, hb12⟩
      · go_wp2_with fail
        go_ret
        exact ⟨rfl, hb5.trans (hb4.mono hb5.size)⟩

set_option maxRecDepth 100000 in
theorem shrinkSays_called : Called 13 Try.f13 := by
  intro H enc W base args ds p hval hA hsz
  rw [Try.params13] at hA hval
  obtain ⟨v0, v1, v2, d0, d1, d2, p0, p1, p2, rfl, rfl, rfl, h0, h1, h2⟩ := trodAll_three hA
  obtain ⟨A, c, l, rfl, hr, hl, hm, hi, _⟩ := open_intRow Try.underlying27 Try.underlying3 (by kernel_rfl) (hval 0 27 v0 rfl rfl) h0
  obtain ⟨An, cn, need, rfl, hrn, hln, hmn, _, _⟩ := open_intRow Try.underlying27 Try.underlying3 (by kernel_rfl) (hval 1 27 v1 rfl rfl) h1
  obtain ⟨least, rfl, rfl, rfl, w2⟩ := open_int Try.underlying3 (hval 2 3 v2 rfl rfl) h2
  refine shrinkSays_walk A An c cn l need least W hr (fun hn => ?_) hi hrn hln hmn (by omega)
  subst hn
  obtain ⟨fuel, hf⟩ := h0
  rcases open_ints Try.underlying27 Try.underlying3 (by kernel_rfl) hf with ⟨hcs, _⟩ | ⟨a, len', cap', zs, hcs, _⟩
  · simp [Value.cells] at hcs
    exact hcs.2
  · simp [Value.cells] at hcs

set_option maxRecDepth 100000 in
theorem shrinkSays_lifted (os : Os) (started : os.Started) (H : Type) (enc : TypeId × Value → H) :
    ReturnsInHanded {} Try.checked os 13 .any (Rows.shrinkSaysSpec.pre6 enc Try.prog Try.f13 Rows.shrinkSaysRow.domain false) (Rows.shrinkSaysSpec.post enc Try.prog Try.f13 false true false false) :=
  law_lift started (by kernel_rfl) Try.func13
    (ChangeSpec.witness6 (enc := enc) (C := Try.checked) false ⟨#[], #[.slice none 0 0, .slice none 0 0, .int .i64 0], []⟩ 8 (by kernel_rfl) (by kernel_rfl) (by kernel_rfl) (by kernel_rfl))
    rfl rfl (by kernel_rfl) (by kernel_rfl) (fun l hl => by
      rw [Try.params13] at hl
      match l, hl with
      | [d0, d1, d2], _ => rfl) shrinkSays_called

theorem shrinkSays_over : Rows.shrinkSaysRow.holds Try.pinned (OpenSpec.ofChange Rows.shrinkSaysSpec) :=
  OpenClaim.holds_of_wide 13 Try.f13 rfl rfl rfl rfl rfl rfl rfl ⟨rfl, rfl, rfl, rfl, rfl⟩ rfl rfl rfl rfl rfl (by kernel_rfl) Try.func13 (by kernel_rfl)
    (of_decide_eq_true (by kernel_rfl)) (by unfold Func.isWrapper; first | (rw [if_pos (by decide +kernel)]; kernel_rfl) | (rw [if_neg (by decide +kernel)]; exact ⟨rfl, rfl⟩))
    (fun os started H enc _ => shrinkSays_lifted os started H enc)

theorem shrinkSays_holds : Rows.ShrinkSaysSaid := shrinkSays_over
end Go.Proofs.Ytjblfkoepedhpaa
