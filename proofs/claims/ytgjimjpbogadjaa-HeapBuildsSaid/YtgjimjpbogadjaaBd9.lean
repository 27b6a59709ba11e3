
/-
  HeapBuilds' own walk.
-/
import Derived.Test.YtgjimjpbogadjaaBd8
namespace Go.Proofs.Ytgjimjpbogadjaa
open Go.RowKit

def LawB (w : World) (e : Ending) (w' : World) : Prop := e = .returned (.bool true) ∧ Below w.heap.size w w'
set_option maxRecDepth 100000 in
set_option maxHeartbeats 8000000 in
theorem heapBuilds_walk (n : Nat) (x : VC) (v : Val) (h : List Nat) (A : Option Addr) (c : Nat) (u : Nat) (w : World) (hu : u < 18446744073709551616) (hx : VIn w (· < w.heap.size) n x v) (hh : HpIn w A c h) :
    Calls Try.prog 3 #[.slice A h.length c, valV x, .int .u64 (u : Int)] w (LawB w) := by
  obtain ⟨xk, xm, xt, xA, xl, xc⟩ := x
  have hb1 := (Below.refl w.heap.size w).alloc (Nat.le_refl _) (.cells #[.int .i64 xk, .int .i64 xm, .string xt, .slice xA xl xc] 26)
  have hbx := Box.new w 26 #[.int .i64 xk, .int .i64 xm, .string xt, .slice xA xl xc]
  have hsz : (w.alloc (.cells #[.int .i64 xk, .int .i64 xm, .string xt, .slice xA xl xc] 26)).heap.size = w.heap.size + 1 := by simp
  have HX : Hid (∀ w', Below w.heap.size w w' → VIn w' (· < w'.heap.size) n ⟨xk, xm, xt, xA, xl, xc⟩ v) := Lib.hid (fun w' hb => (hx.below hb fun _ h => h).all)
  have HHH : Hid (∀ w', Below w.heap.size w w' → HpIn w' A c h) := Lib.hid (fun w' hb => hh.below hb)
  have hcap := hh.cap
  have hle := hh.le
  unfold maxLen at hcap
  clear hh hx
  have HF := Lib.hid (fun w' hb => flat_any n ⟨xk, xm, xt, xA, xl, xc⟩ v w' _ (HX.out w' hb))
  unfold valV at *
  dsimp only at *
  go_enter Try.func3, Try.ntmps3
  go_upto_region 1 with fail
  have HF1 := Lib.hid (HF.out _ hb1)
  generalize w.alloc (.cells #[.int .i64 xk, .int .i64 xm, .string xt, .slice xA xl xc] 26) = w1 at *
  obtain ⟨c0, c1, c2, c3, _⟩ := own_cells4 hbx
  by_cases hbig : 4000 < h.length
  · have d1 : decide (4000 < (h.length : Int)) = true := decide_eq_true (by omega)
    have d2 : 4000 < (h.length : Int) := by omega
    have HB1 := Lib.hid hb1
    go_wp2_with (go_at_call 9; refine HF1.out.mono ?_; rintro e w2 ⟨⟨q, rfl⟩, hb2⟩; cases q)
    all_goals (
      go_ret
      exact ⟨rfl, HB1.out.trans (hb2.mono HB1.out.size)⟩)
  · have d1 : decide (4000 < (h.length : Int)) = false := decide_eq_false (by omega)
    have d2 : ¬ 4000 < (h.length : Int) := by omega
    go_upto_if 24 with (go_at_call 9; refine HF1.out.mono ?_; rintro e w2 ⟨⟨q, rfl⟩, hb2⟩; cases q)
    · have HB1 := Lib.hid hb1
      go_wp2_with fail
      go_ret
      exact ⟨rfl, HB1.out.trans (hb2.mono HB1.out.size)⟩
    · have HB2 := Lib.hid (hb1.trans (hb2.mono (by omega)))
      have HX2 := Lib.hid (hbx.below hb2 hbx.lt)
      clear hb1 hbx hb2 c0 c1 c2 c3 HF HF1
      obtain ⟨c0, c1, c2, c3, _⟩ := own_cells4 HX2.out
      rcases hbn : buildN n h v with er | ⟨h', uu⟩
      · have hbu := Build_any n ⟨xk, xm, xt, xA, xl, xc⟩ v h A c w2 (HX.out w2 HB2.out) (HHH.out w2 HB2.out).row (HHH.out w2 HB2.out).none (by omega)
        unfold BRes at hbu
        rw [hbn] at hbu
        dsimp only [valV] at hbu
        have HBU := Lib.hid hbu
        clear hbu
        go_upto_region 4 with (go_at_call 10; refine HBU.out.mono ?_; rintro e w3 ⟨hb3, rfl⟩)
        have HB3 := Lib.hid (HB2.out.trans (hb3.mono HB2.out.size))
        have HX3 := Lib.hid (HX2.out.below hb3 HX2.out.lt)
        have HRD := Lib.hid ((Read_any u h A c w3 hu (HHH.out w3 HB3.out)).mono fun e w' hh => hh.one)
        clear c0 c1 c2 c3 HBU hb3
        go_upto_region 5 with (go_at_call 11; refine HRD.out.mono ?_; rintro e w4 ⟨hb4, ⟨yk, ym, yt, yA, yl, yc⟩, rfl, hy⟩; unfold valV; dsimp only)
        have hal := (Below.refl w4.heap.size w4).alloc (Nat.le_refl _) (.cells #[.int .i64 yk, .int .i64 ym, .string yt, .slice yA yl yc] 26)
        have hby := Box.new w4 26 #[.int .i64 yk, .int .i64 ym, .string yt, .slice yA yl yc]
        have hy5 := (hy.all.below hal fun _ h => h)
        have hb35 := hb4.trans (hal.mono hb4.size)
        have HB5 := Lib.hid (HB3.out.trans (hb35.mono HB3.out.size))
        have HX5 := Lib.hid (HX3.out.below hb35 HX3.out.lt)
        clear hal hy hb4
        generalize w4.alloc (.cells #[.int .i64 yk, .int .i64 ym, .string yt, .slice yA yl yc] 26) = w5 at *
        generalize w4.heap.size = g4 at *
        go_upto_region 6 with fail
        have hal6 := (Below.refl w5.heap.size w5).alloc (Nat.le_refl _) (.cells #[.int .i64 400] 3)
        have hlf : RfBox (w5.alloc (.cells #[.int .i64 400] 3)) w5.heap.size A h.length c 400 := Box.new w5 3 #[.int .i64 400]
        have HB6 := Lib.hid (HB5.out.trans (hal6.mono HB5.out.size))
        have hrr := rreads_any 40 u h A c 400 1 w5.heap.size (w5.alloc (.cells #[.int .i64 400] 3)) hu (HHH.out _ HB6.out) (((HHH.out w5 HB5.out).row).below hal6) hlf (by omega) (by omega) (by omega) (by omega)
        have HRR := Lib.hid (hrr.mono fun e w' hh => And.intro hh.1.one hh.2.1)
        have hby6 := hby.below hal6 hby.lt
        have hy6 := hy5.all.below hal6 fun _ h => h
        have hx6 := HX5.out.below hal6 HX5.out.lt
        have hgl6 := hlf.lt
        have hbylt := hby.lt
        have hxlt := HX5.out.lt
        have hb36 := hb35.trans (hal6.mono hb35.size)
        clear hrr hal6 hlf
        generalize w5.alloc (.cells #[.int .i64 400] 3) = w6 at *
        go_upto_region 7 with (go_at_call 12; refine HRR.out.mono ?_; rintro e w7 ⟨⟨⟨zk, zm, zt, zA, zl, zc⟩, rfl, hz⟩, ho7⟩; unfold valV; dsimp only)
        have hb67 : Below w5.heap.size w6 w7 := ho7.to_below (Below.refl _ _) (Nat.le_of_lt hgl6) (fun i hi => Nat.le_of_eq hi.symm)
        have hal8 := (Below.refl w7.heap.size w7).alloc (Nat.le_refl _) (.cells #[.int .i64 zk, .int .i64 zm, .string zt, .slice zA zl zc] 26)
        have hbz := Box.new w7 26 #[.int .i64 zk, .int .i64 zm, .string zt, .slice zA zl zc]
        have HY8 := Lib.hid ((hby6.below hb67 hbylt).below hal8 (by have := ho7.size; omega))
        have HX8 := Lib.hid ((hx6.below hb67 hxlt).below hal8 (by have := ho7.size; omega))
        have HYV := Lib.hid (((hy6.below hb67 fun _ h => h).all.below hal8 fun _ h => h).all)
        have HZV := Lib.hid (hz.all.below hal8 fun _ h => h).all
        have HB8 := Lib.hid ((HB6.out.trans (hb67.mono HB5.out.size)).trans (hal8.mono (Nat.le_trans HB6.out.size ho7.size)))
        have HB38 := Lib.hid ((hb36.trans (hb67.mono hb35.size)).trans (hal8.mono (Nat.le_trans hb36.size ho7.size)))
        clear hb67 hal8 hby6 hx6 hy6 hz ho7 hby hy5 HRR
        generalize w7.alloc (.cells #[.int .i64 zk, .int .i64 zm, .string zt, .slice zA zl zc] 26) = w8 at *
        generalize w7.heap.size = g7 at *
        obtain ⟨e0, e1, e2, e3, _⟩ := own_cells4 HY8.out
        obtain ⟨f0, f1, f2, f3, _⟩ := own_cells4 hbz
        have hsv := same_val 40 ⟨yk, ym, yt, yA, yl, yc⟩ ⟨zk, zm, zt, zA, zl, zc⟩ _ _ w8 _ _ HYV.out HZV.out
        unfold valV at hsv
        dsimp only at hsv
        have HSV := Lib.hid (hsv.mono fun e w' hh => show e = .returned (.bool true) ∧ Below w8.heap.size w8 w' from by
          obtain ⟨q, he, hq, hb⟩ := hh
          obtain rfl : q = true := hq.2 rfl
          exact ⟨he, hb⟩)
        clear hsv
        generalize errOf (readV h 40 400 u) = E at *
        go_upto_region 9 with (go_at_call 13; refine HSV.out.mono ?_; rintro e w9 ⟨rfl, hb9⟩)
        have HB9 := Lib.hid (HB8.out.trans (hb9.mono HB8.out.size))
        have HB39 := Lib.hid (HB38.out.trans (hb9.mono HB38.out.size))
        obtain ⟨t0, t1, t2, t3, _⟩ := own_cells4 (HX8.out.below hb9 HX8.out.lt)
        have hin9 := HHH.out w9 HB9.out
        have hbl := built_any n ⟨xk, xm, xt, xA, xl, xc⟩ v h A c w9 (· < w9.heap.size) (· < w9.heap.size) (HX.out w9 HB9.out) (fun b hb => hb) hin9.row hin9.none hin9.le hin9.cap (by omega)
        unfold RBl at hbl
        rw [hbn] at hbl
        dsimp only [valV] at hbl
        have HBL := Lib.hid hbl
        clear hbl hin9 hb9 e0 e1 e2 e3 f0 f1 f2 f3
        have hne := buildN_err n h v er hbn
        have b3 : (er != 0) = true := by simp [hne]
        go_wp2_with (go_at_call 14; refine HBL.out.mono ?_; rintro e w10 ⟨hb10, rfl⟩)
        go_ret
        exact ⟨rfl, HB9.out.trans (hb10.mono HB9.out.size)⟩
      · have hbu := Build_any n ⟨xk, xm, xt, xA, xl, xc⟩ v h A c w2 (HX.out w2 HB2.out) (HHH.out w2 HB2.out).row (HHH.out w2 HB2.out).none (by omega)
        unfold BRes at hbu
        rw [hbn] at hbu
        dsimp only [valV] at hbu
        have HBU := Lib.hid hbu
        clear hbu
        go_upto_region 4 with (go_at_call 10; refine HBU.out.mono ?_; rintro e w3 ⟨hb3, A3, c3', rfl, hr3⟩)
        have HB3 := Lib.hid (HB2.out.trans (hb3.mono HB2.out.size))
        have HX3 := Lib.hid (HX2.out.below hb3 HX2.out.lt)
        have HRD := Lib.hid ((Read_any u h A c w3 hu (HHH.out w3 HB3.out)).mono fun e w' hh => hh.one)
        clear c0 c1 c2 c3 HBU hb3
        go_upto_region 5 with (go_at_call 11; refine HRD.out.mono ?_; rintro e w4 ⟨hb4, ⟨yk, ym, yt, yA, yl, yc⟩, rfl, hy⟩; unfold valV; dsimp only)
        have hal := (Below.refl w4.heap.size w4).alloc (Nat.le_refl _) (.cells #[.int .i64 yk, .int .i64 ym, .string yt, .slice yA yl yc] 26)
        have hby := Box.new w4 26 #[.int .i64 yk, .int .i64 ym, .string yt, .slice yA yl yc]
        have hy5 := (hy.all.below hal fun _ h => h)
        have hb35 := hb4.trans (hal.mono hb4.size)
        have HB5 := Lib.hid (HB3.out.trans (hb35.mono HB3.out.size))
        have HX5 := Lib.hid (HX3.out.below hb35 HX3.out.lt)
        clear hal hy hb4
        generalize w4.alloc (.cells #[.int .i64 yk, .int .i64 ym, .string yt, .slice yA yl yc] 26) = w5 at *
        generalize w4.heap.size = g4 at *
        go_upto_region 6 with fail
        have hal6 := (Below.refl w5.heap.size w5).alloc (Nat.le_refl _) (.cells #[.int .i64 400] 3)
        have hlf : RfBox (w5.alloc (.cells #[.int .i64 400] 3)) w5.heap.size A h.length c 400 := Box.new w5 3 #[.int .i64 400]
        have HB6 := Lib.hid (HB5.out.trans (hal6.mono HB5.out.size))
        have hrr := rreads_any 40 u h A c 400 1 w5.heap.size (w5.alloc (.cells #[.int .i64 400] 3)) hu (HHH.out _ HB6.out) (((HHH.out w5 HB5.out).row).below hal6) hlf (by omega) (by omega) (by omega) (by omega)
        have HRR := Lib.hid (hrr.mono fun e w' hh => And.intro hh.1.one hh.2.1)
        have hby6 := hby.below hal6 hby.lt
        have hy6 := hy5.all.below hal6 fun _ h => h
        have hx6 := HX5.out.below hal6 HX5.out.lt
        have hgl6 := hlf.lt
        have hbylt := hby.lt
        have hxlt := HX5.out.lt
        have hb36 := hb35.trans (hal6.mono hb35.size)
        clear hrr hal6 hlf
        generalize w5.alloc (.cells #[.int .i64 400] 3) = w6 at *
        go_upto_region 7 with (go_at_call 12; refine HRR.out.mono ?_; rintro e w7 ⟨⟨⟨zk, zm, zt, zA, zl, zc⟩, rfl, hz⟩, ho7⟩; unfold valV; dsimp only)
        have hb67 : Below w5.heap.size w6 w7 := ho7.to_below (Below.refl _ _) (Nat.le_of_lt hgl6) (fun i hi => Nat.le_of_eq hi.symm)
        have hal8 := (Below.refl w7.heap.size w7).alloc (Nat.le_refl _) (.cells #[.int .i64 zk, .int .i64 zm, .string zt, .slice zA zl zc] 26)
        have hbz := Box.new w7 26 #[.int .i64 zk, .int .i64 zm, .string zt, .slice zA zl zc]
        have HY8 := Lib.hid ((hby6.below hb67 hbylt).below hal8 (by have := ho7.size; omega))
        have HX8 := Lib.hid ((hx6.below hb67 hxlt).below hal8 (by have := ho7.size; omega))
        have HYV := Lib.hid (((hy6.below hb67 fun _ h => h).all.below hal8 fun _ h => h).all)
        have HZV := Lib.hid (hz.all.below hal8 fun _ h => h).all
        have HB8 := Lib.hid ((HB6.out.trans (hb67.mono HB5.out.size)).trans (hal8.mono (Nat.le_trans HB6.out.size ho7.size)))
        have HB38 := Lib.hid ((hb36.trans (hb67.mono hb35.size)).trans (hal8.mono (Nat.le_trans hb36.size ho7.size)))
        clear hb67 hal8 hby6 hx6 hy6 hz ho7 hby hy5 HRR
        generalize w7.alloc (.cells #[.int .i64 zk, .int .i64 zm, .string zt, .slice zA zl zc] 26) = w8 at *
        generalize w7.heap.size = g7 at *
        obtain ⟨e0, e1, e2, e3, _⟩ := own_cells4 HY8.out
        obtain ⟨f0, f1, f2, f3, _⟩ := own_cells4 hbz
        have hsv := same_val 40 ⟨yk, ym, yt, yA, yl, yc⟩ ⟨zk, zm, zt, zA, zl, zc⟩ _ _ w8 _ _ HYV.out HZV.out
        unfold valV at hsv
        dsimp only at hsv
        have HSV := Lib.hid (hsv.mono fun e w' hh => show e = .returned (.bool true) ∧ Below w8.heap.size w8 w' from by
          obtain ⟨q, he, hq, hb⟩ := hh
          obtain rfl : q = true := hq.2 rfl
          exact ⟨he, hb⟩)
        clear hsv
        generalize errOf (readV h 40 400 u) = E at *
        go_upto_region 9 with (go_at_call 13; refine HSV.out.mono ?_; rintro e w9 ⟨rfl, hb9⟩)
        have HB9 := Lib.hid (HB8.out.trans (hb9.mono HB8.out.size))
        have HB39 := Lib.hid (HB38.out.trans (hb9.mono HB38.out.size))
        obtain ⟨t0, t1, t2, t3, _⟩ := own_cells4 (HX8.out.below hb9 HX8.out.lt)
        have hin9 := HHH.out w9 HB9.out
        have hbl := built_any n ⟨xk, xm, xt, xA, xl, xc⟩ v h A c w9 (· < w9.heap.size) (· < w9.heap.size) (HX.out w9 HB9.out) (fun b hb => hb) hin9.row hin9.none hin9.le hin9.cap (by omega)
        unfold RBl at hbl
        rw [hbn] at hbl
        dsimp only [valV] at hbl
        have HBL := Lib.hid hbl
        clear hbl hin9 hb9 e0 e1 e2 e3 f0 f1 f2 f3
        have hl4 := buildN_len n h v h' uu (by omega) hbn
        have HR3 := Lib.hid hr3
        go_wp2_with (first
          | (go_at_call 14; refine HBL.out.mono ?_; rintro e w10 ⟨hb10, A10, c10, rfl, hr10, _, _, _⟩; have HSW := Lib.hid (sameWords_same A3 A10 c3' c10 h' _ _ w10 (HR3.out.below (HB39.out.trans (hb10.mono HB39.out.size))) hr10.all (by unfold maxLen; omega)))
          | (go_at_call 15; refine HSW.out.mono ?_; rintro e w11 ⟨rfl, hb11⟩))
        go_ret
        exact ⟨rfl, (HB9.out.trans (hb10.mono HB9.out.size)).trans (hb11.mono (Nat.le_trans HB9.out.size hb10.size))⟩
end Go.Proofs.Ytgjimjpbogadjaa
