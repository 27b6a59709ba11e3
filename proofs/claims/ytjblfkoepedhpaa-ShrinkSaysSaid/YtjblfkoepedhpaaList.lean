/-
  Package shrink's List, over whatever test (which may clear what it is handed).
-/
import Derived.Test.YtjblfkoepedhpaaConcat
import Derived.Deep.RegionLaw
import Derived.IntWalk
namespace Go.Proofs.Ytjblfkoepedhpaa
open Go.RowKit

theorem own_lower {w : World} {base base' : Nat} {e : TypeId} {size n : Nat} {v : Value} {vs : List Value} (h : w.ownsRow base' e size v n vs) (hb : base ≤ base') : w.ownsRow base e size v n vs := by
  refine ⟨h.1, ?_⟩
  rcases h.2 with h0 | ⟨g, cap, cur, h1, h2, h3⟩
  · exact .inl h0
  · exact .inr ⟨g, cap, cur, h1, by omega, h3⟩
theorem own_under {w w' : World} {base : Nat} {e : TypeId} {size n : Nat} {v : Value} {vs : List Value} (h : w.ownsRow base e size v n vs) (hb : Below w.heap.size w w') : w'.ownsRow base e size v n vs := by
  refine ⟨h.1, ?_⟩
  rcases h.2 with h0 | ⟨g, cap, cur, h1, h2, h3, h4⟩
  · exact .inl h0
  · have hlt : g < w.heap.size := by
      rcases Nat.lt_or_ge g w.heap.size with hl | hge
      · exact hl
      · rw [Array.getElem?_eq_none hge] at h3; cases h3
    exact .inr ⟨g, cap, cur, h1, h2, (hb.block g hlt).trans h3, h4⟩

/-- A test over lists: what it answers for a row of the call's own; it may turn that row alone. -/
def Fails (fid : FuncId) (caps : Array Value) (F : List Int → Bool) (W : World) : Prop :=
  ∀ (xs : List Int) (v : Value) (w : World), xs.length ≤ 200 → (∀ x ∈ xs, I64 x) → Below W.heap.size W w → w.ownsRow W.heap.size 3 1 v xs.length (ints xs) →
    Calls Try.prog fid (#[v] ++ caps) w fun e w' => e = .returned (.bool (F xs)) ∧ w.grownBy w' v.ownBlock

/-- What List answers. -/
def ListPost (F : List Int → Bool) (xs : List Int) (W : World) (e : Ending) (w' : World) : Prop :=
  Below W.heap.size W w' ∧ ((200 < xs.length ∧ e = .returned (.tuple #[.slice none 0 0, .int .i64 2])) ∨ (xs.length ≤ 200 ∧ F xs = false ∧ e = .returned (.tuple #[.slice none 0 0, .int .i64 4])) ∨
    (xs.length ≤ 200 ∧ F xs = true ∧ ∃ v zs, e = .returned (.tuple #[v, .int .i64 0]) ∧ w'.ownsRow W.heap.size 3 1 v zs.length (ints zs) ∧ zs.Sublist xs ∧ F zs = true ∧ ∀ i, i < zs.length → F (zs.eraseIdx i) = false))

/-- A slice from an index on. -/
theorem row_from {w : World} {B : Nat} {A : Option Addr} {zs : List Int} {c : Nat} (hr : Row w B A (ints zs)) (hc : zs.length ≤ c) (hA : A = none → c = 0) (k : Nat) (hk : k + 1 ≤ zs.length) :
    ∃ A3, (∀ w, (Instr.slice 27 (.slice A zs.length c) (some (.int .i64 ((k : Int) + 1))) none none).run Try.prog w = .ok (.slice A3 (zs.length - (k + 1)) (c - (k + 1))) w) ∧ Row w B A3 (ints (zs.drop (k + 1))) ∧ (A3 = none → c - (k + 1) = 0) := by
  have he : Try.prog.elem 27 = 3 := by kernel_rfl
  have hr1 : ∀ w, (Instr.slice 27 (.slice A zs.length c) (some (.int .i64 ((k : Int) + 1))) none none).run Try.prog w = .ok (sliced A (k + 1) zs.length c 1) w := fun w => by
    rw [run_slice_l w 27 A zs.length c (by rw [he]; exact Try.underlying27) .i64 ((k : Int) + 1) (by omega) (by omega), he]
    rw [show ((k : Int) + 1).toNat = k + 1 by omega]
    obtain ⟨i0, hi0, hz0, hz1, hz2⟩ := info_parts int_info
    simp [sizeOf, typeInfo, hi0, hz1]
  obtain ⟨b, o, rfl, hb, hcell⟩ := hr (by rw [ints_len]; omega)
  by_cases hck : c = k + 1
  · refine ⟨some ⟨b, o, none⟩, fun w => by rw [hr1]; simp [sliced, hck], ?_, (fun e => by cases e)⟩
    rw [List.drop_eq_nil_of_le (by omega)]
    exact Row.nil
  · refine ⟨some ⟨b, o + (k + 1), none⟩, fun w => by rw [hr1]; simp only [sliced, if_neg hck, Option.map_some, Nat.mul_one]; rw [show (⟨b, o, none⟩ : Addr).add (k + 1) = ⟨b, o + (k + 1), none⟩ by unfold Addr.add; split <;> simp_all], fun _ => ⟨b, o + (k + 1), rfl, hb, fun i u hu => ?_⟩, (fun e => by cases e)⟩
    rw [Nat.add_assoc]
    refine hcell _ u ?_
    rw [← hu]
    simp [ints]

theorem erase_eq (zs : List Int) (k : Nat) : zs.take k ++ zs.drop (k + 1) = zs.eraseIdx k := (List.eraseIdx_eq_take_drop_succ zs k).symm

set_option maxRecDepth 100000 in
set_option maxHeartbeats 2000000 in
theorem list_any (A : Option Addr) (c : Nat) (xs : List Int) (fid : FuncId) (caps : Array Value) (F : List Int → Bool) (W : World) (he : Enters fid) (hF : Fails fid caps F W) (hr : Row W W.heap.size A (ints xs)) (hA : A = none → c = 0) (hi : ∀ x ∈ xs, I64 x) :
    Calls Try.prog 84 #[.slice A xs.length c, .func (.func fid) #[] caps] W (ListPost F xs W) := by
  have HF := Lib.hid hF
  unfold Enters at he
  clear hF
  by_cases hl : 200 < xs.length
  · go_enter Try.func84, Try.ntmps84
    go_wp2_with fail
    go_ret2
    exact ⟨Below.refl _ _, .inl ⟨hl, rfl⟩⟩
  have dl : decide (200 < xs.length) = false := by simp; omega
  have dl' : decide ((200 : Int) < (xs.length : Int)) = false := by simp; omega
  have hl' : xs.length ≤ 200 := by omega
  have HI := Lib.hid hi
  have HCL := Lib.hid (fun w (h : Below W.heap.size W w) => clone_any A c xs W.heap.size w (hr.below h) hA (by omega))
  clear hi hl hA
  go_enter Try.func84, Try.ntmps84
  go_wp2_with fail
  refine (HCL.out W (Below.refl _ _)).mono ?_
  rintro e w1 ⟨v1, rfl, hown1, hb1⟩
  go_wp2_with fail
  refine (HF.out xs v1 w1 hl' HI.out hb1 hown1).mono ?_
  rintro e w2 ⟨rfl, hg2⟩
  have hb2 : Below W.heap.size W w2 := hb1.grown hg2 hb1.size (fun k hk => (hown1.lt k hk).1)
  cases hfx : F xs with
  | false =>
    have HX := Lib.hid hfx
    clear hfx
    go_wp2_with fail
    go_ret2
    exact ⟨hb2, .inr (.inl ⟨hl', HX.out, rfl⟩)⟩
  | true =>
    have HX := Lib.hid hfx
    clear hfx
    go_wp2_with fail
    refine (HCL.out w2 hb2).mono ?_
    rintro e w3 ⟨v3, rfl, hown3, hb3⟩
    have hb03 : Below W.heap.size W w3 := hb2.trans (hb3.mono hb2.size)
    have hown3' := own_lower hown3 hb2.size
    clear hown1 hg2 hb1 hb3 hown3 HCL
    go_wp2_with fail
    go_loopg [6, 7] (xs.length + 1) (fun m v6 v7 wr => ∃ (zs : List Int) (ag : Bool), v7 = .bool ag ∧ wr.ownsRow W.heap.size 3 1 v6 zs.length (ints zs) ∧ Below W.heap.size W wr ∧ zs.Sublist xs ∧ F zs = true ∧ (ag = true → m = zs.length + 1) ∧ (ag = false → ∀ i, i < zs.length → F (zs.eraseIdx i) = false))
    case atStart => exact ⟨xs, true, rfl, hown3', hb03, List.Sublist.refl _, HX.out, fun _ => rfl, fun h => by cases h⟩
    case round =>
      obtain ⟨zs, ag, rfl, hown, hb, hsub, hfz, hag1, hag2⟩ := hrel
      have HFZ := Lib.hid hfz
      have HSU := Lib.hid hsub
      cases ag with
      | false =>
        have HA2 := Lib.hid (hag2 rfl)
        clear hag1 hag2 hfz hsub
        go_wp2_with fail
        go_ret2
        exact ⟨hb, .inr (.inr ⟨hl', HX.out, _, zs, rfl, hown, HSU.out, HFZ.out, HA2.out⟩)⟩
      | true =>
        have HA1 := Lib.hid (hag1 rfl)
        clear hag1 hag2 hfz hsub
        obtain ⟨A2, c2, rfl, hr2, hc2, hm2, hA2⟩ := row_of_own_int hown
        have hzl : zs.length ≤ 200 := by have := HSU.out.length_le; omega
        go_wp2_with fail
        obtain ⟨gq, hgq⟩ : ∃ q : Nat, q = gk := ⟨_, rfl⟩
        have HGQ := Lib.hid hgq
        clear hgq
        obtain ⟨wo, hwo⟩ : ∃ wo : World, wo = wr := ⟨_, rfl⟩
        have HWO := Lib.hid hwo
        clear hwo
        go_loopg [6, 7, 8] zs.length (fun m v6 v7 v8 wq => ∃ (ys : List Int) (ag : Bool), m ≤ ys.length ∧ v8 = .int .i64 ((m : Int) - 1) ∧ v7 = .bool ag ∧ wq.ownsRow W.heap.size 3 1 v6 ys.length (ints ys) ∧ Below W.heap.size W wq ∧ ys.Sublist xs ∧ F ys = true ∧ (ag = true → ys.length < zs.length) ∧ (ag = false → ys = zs ∧ ∀ i, m ≤ i → i < zs.length → F (zs.eraseIdx i) = false))
        case atStart => exact ⟨zs, false, Nat.le_refl _, rfl, rfl, hown, hb, HSU.out, HFZ.out, (fun h => by cases h), fun _ => ⟨rfl, fun i h1 h2 => by omega⟩⟩
        case round =>
          obtain ⟨ys, ag, hmy, rfl, rfl, hown4, hb4, hsub4, hfy, hg1, hg2⟩ := hrel
          have HFY := Lib.hid hfy
          have HSY := Lib.hid hsub4
          have HG1 := Lib.hid hg1
          have HG2 := Lib.hid hg2
          have hyl : ys.length ≤ 200 := by have := hsub4.length_le; omega
          have HIY := Lib.hid (fun x hx => HI.out x (hsub4.subset hx))
          clear hfy hsub4 hg1 hg2
          obtain ⟨A4, c4, rfl, hr4, hc4, hm4, hA4⟩ := row_of_own_int hown4
          unfold maxLen at hm4
          by_cases hm0 : gk = 0
          · subst hm0
            rw [show ((0 : Nat) : Int) - 1 = -1 by omega]
            cases ag with
            | false =>
              obtain ⟨rfl, hmin⟩ := HG2.out rfl
              have HMIN := Lib.hid hmin
              clear hmin
              go_wp2_with fail
              go_roundg 0
              case measure => have := HA1.out; omega
              case rel => exact ⟨ys, false, rfl, hown4, hb4, HSY.out, HFY.out, (fun h => by cases h), fun _ i hi => HMIN.out i (by omega) hi⟩
            | true =>
              go_wp2_with fail
              go_roundg (ys.length + 1)
              case measure => have := HA1.out; have := HG1.out (by simp); omega
              case rel => exact ⟨ys, true, rfl, hown4, hb4, HSY.out, HFY.out, fun _ => rfl, (fun h => by cases h)⟩
          · obtain ⟨k, rfl⟩ : ∃ k, gk = k + 1 := ⟨gk - 1, by omega⟩
            rw [show ((k + 1 : Nat) : Int) - 1 = (k : Int) by omega]
            obtain ⟨A5, hsl, hr5, hA5⟩ := row_from hr4 hc4 hA4 k hmy
            have hk1 : (0 : Int) ≤ (k : Int) := by omega
            have hk2 : (k : Int) ≤ (c4 : Int) := by omega
            have hk3 : decide ((0 : Int) ≤ (k : Int)) = true := by simp
            have hw1 : IntKind.i64.wrap ((k : Int) + 1) = (k : Int) + 1 := IntWalk.i64_in _ (by omega)
            have HCT := Lib.hid (show Calls Try.prog 90 #[.slice (some ⟨wr.heap.size, 0, none⟩) 2 2] (wr.alloc (.cells #[.slice A4 k c4, .slice A5 (ys.length - (k + 1)) (c4 - (k + 1))] 27)).drew (IntsPost (ys.eraseIdx k) (wr.alloc (.cells #[.slice A4 k c4, .slice A5 (ys.length - (k + 1)) (c4 - (k + 1))] 27)).drew) by
              rw [← erase_eq]
              have hal : Below wr.heap.size wr (wr.alloc (.cells #[.slice A4 k c4, .slice A5 (ys.length - (k + 1)) (c4 - (k + 1))] 27)).drew := below_drewN ((Below.refl _ _).alloc (Nat.le_refl _) _) 1
              have hbx : Box (wr.alloc (.cells #[.slice A4 k c4, .slice A5 (ys.length - (k + 1)) (c4 - (k + 1))] 27)).drew wr.heap.size 27 #[.slice A4 k c4, .slice A5 (ys.length - (k + 1)) (c4 - (k + 1))] := (Box.new _ _ _).drew
              refine concat_two wr.heap.size A4 A5 c4 (c4 - (k + 1)) (ys.take k) (ys.drop (k + 1)) _ ⟨?_, ?_, ?_, (hr5.below hal).more hal.size, hA4, hA5, hbx.lt⟩ (by simp; omega) (by simp; omega)
              · rw [show (ys.take k).length = k by simp; omega]
                exact (hbx.cell 0).trans rfl
              · rw [show (ys.drop (k + 1)).length = ys.length - (k + 1) by simp]
                exact (hbx.cell 1).trans rfl
              · have := (hr4.take k).below hal
                rw [show ints (ys.take k) = (ints ys).take k by simp [ints]]
                exact this.more hal.size)
            have HB5 := Lib.hid (show Below W.heap.size W (wr.alloc (.cells #[.slice A4 k c4, .slice A5 (ys.length - (k + 1)) (c4 - (k + 1))] 27)).drew from below_drewN (hb4.alloc hb4.size _) 1)
            have HO5 := Lib.hid (show (wr.alloc (.cells #[.slice A4 k c4, .slice A5 (ys.length - (k + 1)) (c4 - (k + 1))] 27)).drew.ownsRow W.heap.size 3 1 (.slice A4 ys.length c4) ys.length (ints ys) from (hown4.alloc _).drew)
            go_wp2_with fail
            go_region_law ((go_simp; go_at_call 90; refine HCT.out.mono ?_; rintro e w5 ⟨v5, rfl, hown5, hb5⟩))
            simp only [List.getElem_toArray, List.getElem_cons_succ, List.getElem_cons_zero]
            go_frame
            have hel : (ys.eraseIdx k).length = ys.length - 1 := List.length_eraseIdx_of_lt (by omega)
            have HEL := Lib.hid hel
            have hew : (ys.eraseIdx k).length ≤ 200 := by omega
            have HES := Lib.hid (List.eraseIdx_sublist ys k)
            have HEE := Lib.hid (Eq.refl (ys.eraseIdx k))
            have hb05 : Below W.heap.size W w5 := HB5.out.trans (hb5.mono HB5.out.size)
            have HO6 := Lib.hid (own_under HO5.out hb5)
            have hown5' := own_lower hown5 HB5.out.size
            have HFE := Lib.hid (show ∀ i, i = k → ys.eraseIdx i = ys.eraseIdx k from fun i h => by rw [h])
            generalize hqq : ys.eraseIdx k = qs at *
            have HQQ := Lib.hid hqq
            clear hel hqq HCT HB5 HO5 hb5 hown5 HFE HEE
            obtain ⟨A6, c6, rfl, hr6, hc6, hm6, hA6⟩ := row_of_own_int hown5'
            go_wp2_with fail
            refine (clone_any A6 c6 qs _ w5 hr6 hA6 (by omega)).mono ?_
            rintro e w6 ⟨v7, rfl, hown7, hb6⟩
            have hb06 : Below W.heap.size W w6 := hb05.trans (hb6.mono hb05.size)
            have HFC := Lib.hid (HF.out qs v7 w6 hew (fun x hx => HIY.out x (HES.out.subset hx)) hb06 (own_lower hown7 hb05.size))
            go_wp2_with fail
            refine HFC.out.mono ?_
            rintro e w7 ⟨rfl, hg7⟩
            have hb7 : Below w5.heap.size w5 w7 := hb6.grown hg7 hb6.size (fun q hq => (hown7.lt q hq).1)
            have hb07 : Below W.heap.size W w7 := hb05.trans (hb7.mono hb05.size)
            have hoy := own_under HO6.out hb7
            have hoq := own_under hown5' hb7
            clear hg7 hb6 hown7 hb06 HFC HO6 hown5' hb7
            cases hfq : F qs with
            | false =>
              have HFQ := Lib.hid hfq
              clear hfq
              go_wp2_with fail
              go_roundg k
              case measure => omega
              case rel =>
                refine ⟨ys, ag, by omega, rfl, rfl, hoy, hb07, HSY.out, HFY.out, HG1.out, fun h => ?_⟩
                obtain ⟨rfl, hmin⟩ := HG2.out h
                refine ⟨rfl, fun i h1 h2 => ?_⟩
                rcases Nat.eq_or_lt_of_le h1 with rfl | h1
                · rw [HQQ.out]; exact HFQ.out
                · exact hmin i (by omega) h2
            | true =>
              have HFQ := Lib.hid hfq
              clear hfq
              go_wp2_with fail
              go_roundg k
              case measure => omega
              case rel =>
                refine ⟨qs, true, by have := HEL.out; omega, rfl, rfl, hoq, hb07, HES.out.trans HSY.out, HFQ.out, fun _ => ?_, (fun h => by cases h)⟩
                have h1 := HEL.out
                cases ag with
                | true => have := HG1.out (by simp); omega
                | false => obtain ⟨rfl, _⟩ := HG2.out (by simp); omega
end Go.Proofs.Ytjblfkoepedhpaa
