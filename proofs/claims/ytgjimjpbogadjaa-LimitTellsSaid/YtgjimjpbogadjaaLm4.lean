
/-
  Fork of package limit.
-/
import Derived.Test.YtgjimjpbogadjaaLm3
namespace Go.Proofs.Ytgjimjpbogadjaa
open Go.RowKit

theorem putLm_step (x : Lm) (L : List Lm) {k : Nat} (hk : k < L.length) (h : putLm x L = L.take k ++ putLm x (L.drop k)) :
    ((L.getD k lm0).ref < x.ref → putLm x L = L.take (k + 1) ++ putLm x (L.drop (k + 1))) ∧ (¬ (L.getD k lm0).ref < x.ref → putLm x L = L.take k ++ x :: L.drop k) := by
  rw [drop_getD L lm0 hk] at h ⊢
  rw [show ∀ (y : Lm) (r : List Lm), putLm x (y :: r) = if y.ref < x.ref then y :: putLm x r else x :: y :: r from fun _ _ => rfl] at h
  constructor
  · intro h1
    rw [if_pos h1] at h
    rw [h, take_getD L lm0 hk, List.append_assoc]
    rfl
  · intro h1
    rw [if_neg h1] at h
    exact h
theorem putLm_end (x : Lm) (L : List Lm) (h : putLm x L = L.take L.length ++ putLm x (L.drop L.length)) : putLm x L = L.take L.length ++ x :: L.drop L.length := by
  rw [List.drop_length] at h ⊢
  exact h

set_option maxRecDepth 100000 in
set_option maxHeartbeats 4000000 in
theorem limfork_any (A : Option Addr) (c : Nat) (l : List Lm) (n tt a b : Int) (w : World) (hr : Row w w.heap.size A (flat lmC l)) (hA : A = none → c = 0) (hlm : l.length ≤ maxLen) :
    Calls Try.prog 35 #[.slice A l.length c, .int .i64 n, .int .i64 tt, .int .i64 a, .int .i64 b] w fun e w' => LmRes (forkF l n tt a b) w e w' := by
  have HBG := Lib.hid (limbegin_any n A c l w hr hlm)
  have HR := Lib.hid (fun (w' : World) (hb : Below w.heap.size w w') => (hr.below hb).more hb.size)
  have HFD := Lib.hid (fun (w' : World) (hb : Below w.heap.size w w') => limfind_any tt A c l w' (HR.out w' hb) hlm)
  have HFF : Hid (forkF l n tt a b = if beginE l n ≠ 0 then (beginE l n, []) else if fkE l (l.getD (lmAt l n).toNat lm0) (lmAt l tt) a b ≠ 0 then (fkE l (l.getD (lmAt l n).toNat lm0) (lmAt l tt) a b, []) else (0, putLm ⟨tt, 0, 0, a, b⟩ (l.set (lmAt l n).toNat (fkR (l.getD (lmAt l n).toNat lm0) a b)))) := rfl
  generalize forkF l n tt a b = F at *
  unfold maxLen at hlm
  by_cases hE : beginE l n = 0
  case neg =>
    obtain ⟨E, hEE⟩ : ∃ E, beginE l n = E := ⟨_, rfl⟩
    rw [hEE] at hE HBG HFF
    rw [if_neg hE] at HBG
    have b1 : (E != 0) = true := by simpa using hE
    have HF := Lib.hid (show F = (E, []) by rw [HFF.out, if_pos hE])
    clear hEE hE HFF hr hA
    go_enter Try.func35, Try.ntmps35
    go_wp2_with fail
    refine HBG.out.mono ?_
    rintro e w1 ⟨rfl, hb1⟩
    go_wp2_with fail
    go_ret2
    rw [HF.out]
    exact ⟨none, 0, rfl, Row.nil, Nat.zero_le _, hb1⟩
  obtain ⟨hok, i, hi, hil⟩ := begin_ok hE
  rw [hE, if_pos rfl, hi] at HBG
  rw [hE, if_neg (by simp), hi, Int.toNat_natCast] at HFF
  have hi1 : (i : Int) < (l.length : Int) := by omega
  obtain ⟨k1, k2, k3, k4, k5, k6⟩ := hok.rows _ (getD_mem lm0 hil)
  have hl1 := hok.len
  obtain ⟨g0, o0, rfl, hg0, c0, c1, c2, c3, c4⟩ := hr.lm hil lm0
  have HCL := Lib.hid (fun (w' : World) (hb : Below w.heap.size w w') => clone_lm (some ⟨g0, o0, none⟩) c l _ w' (HR.out w' hb) hA (by omega))
  have HX := Lib.hid (getD_some lm0 hil)
  have HB0 := Lib.hid (fun (w' : World) (hb : Below w.heap.size w w') (b o : Nat) (hlt : b < w.heap.size) => hb.cell (p := ⟨b, o, none⟩) hlt)
  generalize l.getD i lm0 = y at *
  obtain ⟨y0, y1, y2, y3, y4⟩ := y
  dsimp only at c0 c1 c2 c3 c4 k1 k2 k3 k4 k5 k6
  have HKE : Hid (∀ K, lmAt l tt = K → fkE l ⟨y0, y1, y2, y3, y4⟩ K a b = if 0 ≤ K then 5 else if tkE ⟨y0, y1, y2, y3, y4⟩ a b ≠ 0 then tkE ⟨y0, y1, y2, y3, y4⟩ a b else if l.length = 100 then 6 else 0) := fun _ _ => rfl
  have HTE : Hid (tkE ⟨y0, y1, y2, y3, y4⟩ a b = if (amt a && amt b) = false then 1 else if y3 < y1 + a then 6 else if y4 < y2 + b then 2 else 0) := rfl
  have HKK := Lib.hid (HKE.out _ rfl)
  generalize lmAt l tt = K at *
  clear hr hA hE hi hok HKE
  by_cases u0 : 0 ≤ K
  · have f0 : decide (0 ≤ K) = true := decide_eq_true u0
    have HF := Lib.hid (show F = (5, []) by
      rw [HFF.out, show fkE l ⟨y0, y1, y2, y3, y4⟩ K a b = 5 by rw [HKK.out, if_pos u0]]
      rfl)
    clear HFF HKK HTE u0
    go_enter Try.func35, Try.ntmps35
    go_wp2_with fail
    refine HBG.out.mono ?_
    rintro e w1 ⟨rfl, hb1⟩
    have hs1 := hb1.size
    have d0 := (HB0.out w1 hb1 g0 (o0 + i * 5) hg0).trans c0
    have d1 := (HB0.out w1 hb1 g0 (o0 + i * 5 + 1) hg0).trans c1
    have d2 := (HB0.out w1 hb1 g0 (o0 + i * 5 + 2) hg0).trans c2
    have d3 := (HB0.out w1 hb1 g0 (o0 + i * 5 + 3) hg0).trans c3
    have d4 := (HB0.out w1 hb1 g0 (o0 + i * 5 + 4) hg0).trans c4
    have HBA := Lib.hid (hb1.alloc hs1 (.cells #[.int .i64 y0, .int .i64 y1, .int .i64 y2, .int .i64 y3, .int .i64 y4] 89))
    have HBX := Lib.hid (Box.new w1 89 #[.int .i64 y0, .int .i64 y1, .int .i64 y2, .int .i64 y3, .int .i64 y4])
    clear hb1 c0 c1 c2 c3 c4
    go_wp2_with fail
    refine (HFD.out _ HBA.out).mono ?_
    rintro e w2 ⟨rfl, hb2⟩
    have HB2 := Lib.hid (HBA.out.trans (hb2.mono HBA.out.size))
    have hbx := HBX.out.below hb2 HBX.out.lt
    have x1 := hbx.cell 1
    have x2 := hbx.cell 2
    have x3 := hbx.cell 3
    have x4 := hbx.cell 4
    simp only [List.getElem?_toArray, List.getElem?_cons_zero, List.getElem?_cons_succ] at x1 x2 x3 x4
    clear hb2 hbx d0 d1 d2 d3 d4 HBX HBA
    go_wp2_with (go_at_call 86; refine (amount_any _ _).mono ?_; rintro e w' ⟨rfl, rfl⟩)
    go_ret2
    rw [HF.out]
    exact ⟨none, 0, rfl, Row.nil, Nat.zero_le _, HB2.out⟩
  have f0 : decide (0 ≤ K) = false := decide_eq_false u0
  by_cases u1 : amt a = false
  · have f1 : amt a = false := u1
    have HF := Lib.hid (show F = (1, []) by
      rw [HFF.out, show fkE l ⟨y0, y1, y2, y3, y4⟩ K a b = 1 by rw [HKK.out, if_neg u0, HTE.out, if_pos (show (amt a && amt b) = false by rw [f1]; rfl), if_pos (by decide)]]
      rfl)
    clear HFF HKK HTE u0 u1
    go_enter Try.func35, Try.ntmps35
    go_wp2_with fail
    refine HBG.out.mono ?_
    rintro e w1 ⟨rfl, hb1⟩
    have hs1 := hb1.size
    have d0 := (HB0.out w1 hb1 g0 (o0 + i * 5) hg0).trans c0
    have d1 := (HB0.out w1 hb1 g0 (o0 + i * 5 + 1) hg0).trans c1
    have d2 := (HB0.out w1 hb1 g0 (o0 + i * 5 + 2) hg0).trans c2
    have d3 := (HB0.out w1 hb1 g0 (o0 + i * 5 + 3) hg0).trans c3
    have d4 := (HB0.out w1 hb1 g0 (o0 + i * 5 + 4) hg0).trans c4
    have HBA := Lib.hid (hb1.alloc hs1 (.cells #[.int .i64 y0, .int .i64 y1, .int .i64 y2, .int .i64 y3, .int .i64 y4] 89))
    have HBX := Lib.hid (Box.new w1 89 #[.int .i64 y0, .int .i64 y1, .int .i64 y2, .int .i64 y3, .int .i64 y4])
    clear hb1 c0 c1 c2 c3 c4
    go_wp2_with fail
    refine (HFD.out _ HBA.out).mono ?_
    rintro e w2 ⟨rfl, hb2⟩
    have HB2 := Lib.hid (HBA.out.trans (hb2.mono HBA.out.size))
    have hbx := HBX.out.below hb2 HBX.out.lt
    have x1 := hbx.cell 1
    have x2 := hbx.cell 2
    have x3 := hbx.cell 3
    have x4 := hbx.cell 4
    simp only [List.getElem?_toArray, List.getElem?_cons_zero, List.getElem?_cons_succ] at x1 x2 x3 x4
    clear hb2 hbx d0 d1 d2 d3 d4 HBX HBA
    go_wp2_with (go_at_call 86; refine (amount_any _ _).mono ?_; rintro e w' ⟨rfl, rfl⟩)
    go_ret2
    rw [HF.out]
    exact ⟨none, 0, rfl, Row.nil, Nat.zero_le _, HB2.out⟩
  have f1 : amt a = true := by simpa using u1
  have r1 := (amt_iff a).1 f1
  by_cases u2 : amt b = false
  · have f2 : amt b = false := u2
    have HF := Lib.hid (show F = (1, []) by
      rw [HFF.out, show fkE l ⟨y0, y1, y2, y3, y4⟩ K a b = 1 by rw [HKK.out, if_neg u0, HTE.out, if_pos (show (amt a && amt b) = false by rw [f1, f2]; rfl), if_pos (by decide)]]
      rfl)
    clear HFF HKK HTE u0 u1 u2
    go_enter Try.func35, Try.ntmps35
    go_wp2_with fail
    refine HBG.out.mono ?_
    rintro e w1 ⟨rfl, hb1⟩
    have hs1 := hb1.size
    have d0 := (HB0.out w1 hb1 g0 (o0 + i * 5) hg0).trans c0
    have d1 := (HB0.out w1 hb1 g0 (o0 + i * 5 + 1) hg0).trans c1
    have d2 := (HB0.out w1 hb1 g0 (o0 + i * 5 + 2) hg0).trans c2
    have d3 := (HB0.out w1 hb1 g0 (o0 + i * 5 + 3) hg0).trans c3
    have d4 := (HB0.out w1 hb1 g0 (o0 + i * 5 + 4) hg0).trans c4
    have HBA := Lib.hid (hb1.alloc hs1 (.cells #[.int .i64 y0, .int .i64 y1, .int .i64 y2, .int .i64 y3, .int .i64 y4] 89))
    have HBX := Lib.hid (Box.new w1 89 #[.int .i64 y0, .int .i64 y1, .int .i64 y2, .int .i64 y3, .int .i64 y4])
    clear hb1 c0 c1 c2 c3 c4
    go_wp2_with fail
    refine (HFD.out _ HBA.out).mono ?_
    rintro e w2 ⟨rfl, hb2⟩
    have HB2 := Lib.hid (HBA.out.trans (hb2.mono HBA.out.size))
    have hbx := HBX.out.below hb2 HBX.out.lt
    have x1 := hbx.cell 1
    have x2 := hbx.cell 2
    have x3 := hbx.cell 3
    have x4 := hbx.cell 4
    simp only [List.getElem?_toArray, List.getElem?_cons_zero, List.getElem?_cons_succ] at x1 x2 x3 x4
    clear hb2 hbx d0 d1 d2 d3 d4 HBX HBA
    go_wp2_with (go_at_call 86; refine (amount_any _ _).mono ?_; rintro e w' ⟨rfl, rfl⟩)
    go_ret2
    rw [HF.out]
    exact ⟨none, 0, rfl, Row.nil, Nat.zero_le _, HB2.out⟩
  have f2 : amt b = true := by simpa using u2
  have r2 := (amt_iff b).1 f2
  by_cases u3 : y3 - y1 < a
  · have f3 : decide (y3 - y1 < a) = true := decide_eq_true u3
    have HF := Lib.hid (show F = (6, []) by
      rw [HFF.out, show fkE l ⟨y0, y1, y2, y3, y4⟩ K a b = 6 by rw [HKK.out, if_neg u0, HTE.out, if_neg (show ¬ (amt a && amt b) = false by rw [f1, f2]; decide), if_pos (show y3 < y1 + a by omega), if_pos (by decide)]]
      rfl)
    clear HFF HKK HTE u0 u1 u2 u3
    go_enter Try.func35, Try.ntmps35
    go_wp2_with fail
    refine HBG.out.mono ?_
    rintro e w1 ⟨rfl, hb1⟩
    have hs1 := hb1.size
    have d0 := (HB0.out w1 hb1 g0 (o0 + i * 5) hg0).trans c0
    have d1 := (HB0.out w1 hb1 g0 (o0 + i * 5 + 1) hg0).trans c1
    have d2 := (HB0.out w1 hb1 g0 (o0 + i * 5 + 2) hg0).trans c2
    have d3 := (HB0.out w1 hb1 g0 (o0 + i * 5 + 3) hg0).trans c3
    have d4 := (HB0.out w1 hb1 g0 (o0 + i * 5 + 4) hg0).trans c4
    have HBA := Lib.hid (hb1.alloc hs1 (.cells #[.int .i64 y0, .int .i64 y1, .int .i64 y2, .int .i64 y3, .int .i64 y4] 89))
    have HBX := Lib.hid (Box.new w1 89 #[.int .i64 y0, .int .i64 y1, .int .i64 y2, .int .i64 y3, .int .i64 y4])
    clear hb1 c0 c1 c2 c3 c4
    go_wp2_with fail
    refine (HFD.out _ HBA.out).mono ?_
    rintro e w2 ⟨rfl, hb2⟩
    have HB2 := Lib.hid (HBA.out.trans (hb2.mono HBA.out.size))
    have hbx := HBX.out.below hb2 HBX.out.lt
    have x1 := hbx.cell 1
    have x2 := hbx.cell 2
    have x3 := hbx.cell 3
    have x4 := hbx.cell 4
    simp only [List.getElem?_toArray, List.getElem?_cons_zero, List.getElem?_cons_succ] at x1 x2 x3 x4
    clear hb2 hbx d0 d1 d2 d3 d4 HBX HBA
    go_wp2_with (go_at_call 86; refine (amount_any _ _).mono ?_; rintro e w' ⟨rfl, rfl⟩)
    go_ret2
    rw [HF.out]
    exact ⟨none, 0, rfl, Row.nil, Nat.zero_le _, HB2.out⟩
  have f3 : decide (y3 - y1 < a) = false := decide_eq_false u3
  by_cases u4 : y4 - y2 < b
  · have f4 : decide (y4 - y2 < b) = true := decide_eq_true u4
    have HF := Lib.hid (show F = (2, []) by
      rw [HFF.out, show fkE l ⟨y0, y1, y2, y3, y4⟩ K a b = 2 by rw [HKK.out, if_neg u0, HTE.out, if_neg (show ¬ (amt a && amt b) = false by rw [f1, f2]; decide), if_neg (show ¬ y3 < y1 + a by omega), if_pos (show y4 < y2 + b by omega), if_pos (by decide)]]
      rfl)
    clear HFF HKK HTE u0 u1 u2 u3 u4
    go_enter Try.func35, Try.ntmps35
    go_wp2_with fail
    refine HBG.out.mono ?_
    rintro e w1 ⟨rfl, hb1⟩
    have hs1 := hb1.size
    have d0 := (HB0.out w1 hb1 g0 (o0 + i * 5) hg0).trans c0
    have d1 := (HB0.out w1 hb1 g0 (o0 + i * 5 + 1) hg0).trans c1
    have d2 := (HB0.out w1 hb1 g0 (o0 + i * 5 + 2) hg0).trans c2
    have d3 := (HB0.out w1 hb1 g0 (o0 + i * 5 + 3) hg0).trans c3
    have d4 := (HB0.out w1 hb1 g0 (o0 + i * 5 + 4) hg0).trans c4
    have HBA := Lib.hid (hb1.alloc hs1 (.cells #[.int .i64 y0, .int .i64 y1, .int .i64 y2, .int .i64 y3, .int .i64 y4] 89))
    have HBX := Lib.hid (Box.new w1 89 #[.int .i64 y0, .int .i64 y1, .int .i64 y2, .int .i64 y3, .int .i64 y4])
    clear hb1 c0 c1 c2 c3 c4
    go_wp2_with fail
    refine (HFD.out _ HBA.out).mono ?_
    rintro e w2 ⟨rfl, hb2⟩
    have HB2 := Lib.hid (HBA.out.trans (hb2.mono HBA.out.size))
    have hbx := HBX.out.below hb2 HBX.out.lt
    have x1 := hbx.cell 1
    have x2 := hbx.cell 2
    have x3 := hbx.cell 3
    have x4 := hbx.cell 4
    simp only [List.getElem?_toArray, List.getElem?_cons_zero, List.getElem?_cons_succ] at x1 x2 x3 x4
    clear hb2 hbx d0 d1 d2 d3 d4 HBX HBA
    go_wp2_with (go_at_call 86; refine (amount_any _ _).mono ?_; rintro e w' ⟨rfl, rfl⟩)
    go_ret2
    rw [HF.out]
    exact ⟨none, 0, rfl, Row.nil, Nat.zero_le _, HB2.out⟩
  have f4 : decide (y4 - y2 < b) = false := decide_eq_false u4
  by_cases u5 : l.length = 100
  · have f5 : ((l.length : Int) == 100) = true := by simp; omega
    have f5' : (l.length == 100) = true := by simp; omega
    have HF := Lib.hid (show F = (6, []) by
      rw [HFF.out, show fkE l ⟨y0, y1, y2, y3, y4⟩ K a b = 6 by rw [HKK.out, if_neg u0, HTE.out, if_neg (show ¬ (amt a && amt b) = false by rw [f1, f2]; decide), if_neg (show ¬ y3 < y1 + a by omega), if_neg (show ¬ y4 < y2 + b by omega), if_neg (by decide), if_pos u5]]
      rfl)
    clear HFF HKK HTE u0 u1 u2 u3 u4 u5
    go_enter Try.func35, Try.ntmps35
    go_wp2_with fail
    refine HBG.out.mono ?_
    rintro e w1 ⟨rfl, hb1⟩
    have hs1 := hb1.size
    have d0 := (HB0.out w1 hb1 g0 (o0 + i * 5) hg0).trans c0
    have d1 := (HB0.out w1 hb1 g0 (o0 + i * 5 + 1) hg0).trans c1
    have d2 := (HB0.out w1 hb1 g0 (o0 + i * 5 + 2) hg0).trans c2
    have d3 := (HB0.out w1 hb1 g0 (o0 + i * 5 + 3) hg0).trans c3
    have d4 := (HB0.out w1 hb1 g0 (o0 + i * 5 + 4) hg0).trans c4
    have HBA := Lib.hid (hb1.alloc hs1 (.cells #[.int .i64 y0, .int .i64 y1, .int .i64 y2, .int .i64 y3, .int .i64 y4] 89))
    have HBX := Lib.hid (Box.new w1 89 #[.int .i64 y0, .int .i64 y1, .int .i64 y2, .int .i64 y3, .int .i64 y4])
    clear hb1 c0 c1 c2 c3 c4
    go_wp2_with fail
    refine (HFD.out _ HBA.out).mono ?_
    rintro e w2 ⟨rfl, hb2⟩
    have HB2 := Lib.hid (HBA.out.trans (hb2.mono HBA.out.size))
    have hbx := HBX.out.below hb2 HBX.out.lt
    have x1 := hbx.cell 1
    have x2 := hbx.cell 2
    have x3 := hbx.cell 3
    have x4 := hbx.cell 4
    simp only [List.getElem?_toArray, List.getElem?_cons_zero, List.getElem?_cons_succ] at x1 x2 x3 x4
    clear hb2 hbx d0 d1 d2 d3 d4 HBX HBA
    go_wp2_with (go_at_call 86; refine (amount_any _ _).mono ?_; rintro e w' ⟨rfl, rfl⟩)
    go_ret2
    rw [HF.out]
    exact ⟨none, 0, rfl, Row.nil, Nat.zero_le _, HB2.out⟩
  have f5 : ((l.length : Int) == 100) = false := by simp; omega
  have f5' : (l.length == 100) = false := by simp; omega
  have HF := Lib.hid (show F = (0, putLm ⟨tt, 0, 0, a, b⟩ (l.set i ⟨y0, y1, y2, y3 - a, y4 - b⟩)) by
    rw [HFF.out, show fkE l ⟨y0, y1, y2, y3, y4⟩ K a b = 0 by rw [HKK.out, if_neg u0, HTE.out, if_neg (show ¬ (amt a && amt b) = false by rw [f1, f2]; decide), if_neg (show ¬ y3 < y1 + a by omega), if_neg (show ¬ y4 < y2 + b by omega), if_neg (by decide), if_neg u5]]
    rfl)
  have h99 : l.length ≤ 99 := by omega
  clear HFF HKK HTE u0 u1 u2 u3 u4 u5
  go_enter Try.func35, Try.ntmps35
  go_wp2_with fail
  refine HBG.out.mono ?_
  rintro e w1 ⟨rfl, hb1⟩
  have hs1 := hb1.size
  have d0 := (HB0.out w1 hb1 g0 (o0 + i * 5) hg0).trans c0
  have d1 := (HB0.out w1 hb1 g0 (o0 + i * 5 + 1) hg0).trans c1
  have d2 := (HB0.out w1 hb1 g0 (o0 + i * 5 + 2) hg0).trans c2
  have d3 := (HB0.out w1 hb1 g0 (o0 + i * 5 + 3) hg0).trans c3
  have d4 := (HB0.out w1 hb1 g0 (o0 + i * 5 + 4) hg0).trans c4
  have HBA := Lib.hid (hb1.alloc hs1 (.cells #[.int .i64 y0, .int .i64 y1, .int .i64 y2, .int .i64 y3, .int .i64 y4] 89))
  have HBX := Lib.hid (Box.new w1 89 #[.int .i64 y0, .int .i64 y1, .int .i64 y2, .int .i64 y3, .int .i64 y4])
  clear hb1 c0 c1 c2 c3 c4
  go_wp2_with fail
  refine (HFD.out _ HBA.out).mono ?_
  rintro e w2 ⟨rfl, hb2⟩
  have HB2 := Lib.hid (HBA.out.trans (hb2.mono HBA.out.size))
  have hbx := HBX.out.below hb2 HBX.out.lt
  have x1 := hbx.cell 1
  have x2 := hbx.cell 2
  have x3 := hbx.cell 3
  have x4 := hbx.cell 4
  simp only [List.getElem?_toArray, List.getElem?_cons_zero, List.getElem?_cons_succ] at x1 x2 x3 x4
  clear hb2 hbx d0 d1 d2 d3 d4 HBX HBA
  have hs2 := HB2.out.size
  go_wp2_with (go_at_call 86; refine (amount_any _ _).mono ?_; rintro e w' ⟨rfl, rfl⟩)
  refine (HCL.out _ HB2.out).mono ?_
  rintro e w3 ⟨v, rfl, hown, hb3⟩
  obtain ⟨A3, c3', rfl, ho3⟩ := OwnAt.of_own hown
  obtain ⟨g, o, rfl, _⟩ := ho3.some_of (by omega)
  have hgl := ho3.lt
  have HB3 := Lib.hid (HB2.out.trans (hb3.mono hs2))
  obtain ⟨g', o', hg', _, e0, e1, e2, e3, e4⟩ := ho3.row.lm hil lm0
  injection hg' with hg'
  injection hg' with hg1 hg2
  subst hg1 hg2
  have hgd : l.getD i lm0 = ⟨y0, y1, y2, y3, y4⟩ := by rw [List.getD_eq_getElem?_getD, HX.out]; rfl
  rw [hgd] at e0 e1 e2 e3 e4
  dsimp only at e0 e1 e2 e3 e4
  have hfz := fun j => ho3.frozen j
  have f3' := hfz (o + i * 5 + 3)
  have f4' := hfz (o + i * 5 + 4)
  have hset1 := ho3.putF lmC_len (j := 3) (.int .i64 (y3 - a)) HX.out (by decide) ⟨y0, y1, y2, y3 - a, y4⟩ rfl
  have hset2 := hset1.putF lmC_len (i := i) (x := ⟨y0, y1, y2, y3 - a, y4⟩) (j := 4) (.int .i64 (y4 - b)) (by rw [List.getElem?_set_self (by exact hil)]) (by decide) ⟨y0, y1, y2, y3 - a, y4 - b⟩ rfl
  rw [List.set_set] at hset2
  have HS := Lib.hid (hset2.lower hs2)
  have HS1 := Lib.hid (show w.heap.size ≤ g by omega)
  obtain ⟨L, hL⟩ : ∃ L, L = l.set i (⟨y0, y1, y2, y3 - a, y4 - b⟩ : Lm) := ⟨_, rfl⟩
  have HLL := Lib.hid (show L.length = l.length by rw [hL]; exact List.length_set ..)
  rw [← hL] at HS HF
  clear hown hb3 ho3 hgl hgd hset1 hset2 HX hfz hL x1 x2 x3 x4 e0 e1 e2
  have HB5 := Lib.hid ((HB3.out.setCell (p := ⟨g, o + i * 5 + 3, none⟩) HS1.out (.int .i64 (y3 - a))).setCell (p := ⟨g, o + i * 5 + 4, none⟩) HS1.out (.int .i64 (y4 - b)))
  go_wp2_with fail
  go_loopg [16] l.length (fun gk v wr => ∃ k : Nat, gk = l.length - k ∧ k ≤ l.length ∧ v = .int .i64 k ∧ Hid (putLm ⟨tt, 0, 0, a, b⟩ L = L.take k ++ putLm ⟨tt, 0, 0, a, b⟩ (L.drop k)) ∧ OwnAt wr w.heap.size 89 5 (some ⟨g, o, none⟩) l.length c3' (flat lmC L) ∧ Below w.heap.size w wr)
  case atStart => exact ⟨0, by omega, by omega, rfl, rfl, HS.out, HB5.out⟩
  case round =>
    obtain ⟨k, hgk, hk, rfl, HP, hown, hb⟩ := hrel
    have HK := Lib.hid hgk
    have HO := Lib.hid hown
    have HBB := Lib.hid hb
    have hbs := hb.size
    have hgr := hown.lt
    have HIN : Hid (∀ Z : List Lm, Z = L.take k ++ (⟨tt, 0, 0, a, b⟩ : Lm) :: L.drop k → Calls Try.prog 89 #[.slice (some ⟨g, o, none⟩) l.length c3', .int .i64 k, .slice (some ⟨wr.heap.size, 0, none⟩) 1 1] (wr.alloc (.cells #[.int .i64 tt, .int .i64 0, .int .i64 0, .int .i64 a, .int .i64 b] 89)) fun e w' => Inslm (wr.alloc (.cells #[.int .i64 tt, .int .i64 0, .int .i64 0, .int .i64 a, .int .i64 b] 89)) w.heap.size (some ⟨g, o, none⟩) Z e w') := fun Z hZ => by
      subst hZ
      have h0 := HLL.out
      have h1 := insert_lm w.heap.size c3' k wr.heap.size (some ⟨g, o, none⟩) L ⟨tt, 0, 0, a, b⟩ (wr.alloc (.cells #[.int .i64 tt, .int .i64 0, .int .i64 0, .int .i64 a, .int .i64 b] 89)) (by rw [h0]; exact hown.alloc _) (by omega) (Box.new wr _ _) (by simp; omega) (by simp; omega) (by rw [h0]; omega)
      rw [h0] at h1
      exact h1
    have HBN := Lib.hid (hb.alloc hbs (.cells #[.int .i64 tt, .int .i64 0, .int .i64 0, .int .i64 a, .int .i64 b] 89))
    clear hgk hown hb
    by_cases hlt : k < l.length
    · have hkL : k < L.length := by rw [HLL.out]; exact hlt
      obtain ⟨g', o', hg', _, e0, e1, e2, e3, e4⟩ := HO.out.row.lm hkL lm0
      injection hg' with hg'
      injection hg' with hg1 hg2
      subst hg1 hg2
      have HST := Lib.hid (putLm_step ⟨tt, 0, 0, a, b⟩ L hkL HP)
      generalize L.getD k lm0 = z at *
      obtain ⟨z0, z1, z2, z3, z4⟩ := z
      dsimp only at e0 e1 e2 e3 e4
      have hlt1 : (k : Int) < (l.length : Int) := by omega
      clear hkL
      by_cases hz : z0 < tt
      · have d1 : decide (z0 < tt) = true := decide_eq_true hz
        have HPN : Hid (putLm ⟨tt, 0, 0, a, b⟩ L = L.take (k + 1) ++ putLm ⟨tt, 0, 0, a, b⟩ (L.drop (k + 1))) := HST.out.1 hz
        clear hz
        go_wp2_with fail
        go_roundg (l.length - (k + 1))
        case measure => have := HK.out; omega
        case rel => exact ⟨k + 1, rfl, by omega, by go_num, HPN, HO.out, HBB.out⟩
      · have d1 : decide (z0 < tt) = false := decide_eq_false hz
        have HPE := Lib.hid (HST.out.2 hz)
        clear hz
        go_wp2_with fail
        refine (HIN.out (putLm ⟨tt, 0, 0, a, b⟩ L) HPE.out).mono ?_
        rintro e w6 ⟨g', o', cap', rfl, hown6, ho6, _⟩
        have HN6 := Lib.hid hown6.row
        have HB6 := Lib.hid (ho6.to_below HBN.out HBN.out.size (fun b (hb : some g = some b) => by injection hb with hb; rw [← hb]; exact HS1.out))
        have HPL := Lib.hid (show (putLm ⟨tt, 0, 0, a, b⟩ L).length ≤ 101 by rw [HPE.out, ins_len _ (by rw [HLL.out]; exact hk), HLL.out]; omega)
        clear hown6 ho6
        go_wp2_with fail
        go_ret2
        rw [HF.out]
        exact ⟨_, _, rfl, HN6.out, HPL.out, HB6.out⟩
    · obtain rfl : k = l.length := by omega
      have HPE := Lib.hid (show putLm ⟨tt, 0, 0, a, b⟩ L = L.take l.length ++ (⟨tt, 0, 0, a, b⟩ : Lm) :: L.drop l.length by
        have h1 := putLm_end ⟨tt, 0, 0, a, b⟩ L (by rw [HLL.out]; exact HP)
        rw [HLL.out] at h1
        exact h1)
      go_wp2_with fail
      refine (HIN.out (putLm ⟨tt, 0, 0, a, b⟩ L) HPE.out).mono ?_
      rintro e w6 ⟨g', o', cap', rfl, hown6, ho6, _⟩
      have HN6 := Lib.hid hown6.row
      have HB6 := Lib.hid (ho6.to_below HBN.out HBN.out.size (fun b (hb : some g = some b) => by injection hb with hb; rw [← hb]; exact HS1.out))
      have HPL := Lib.hid (show (putLm ⟨tt, 0, 0, a, b⟩ L).length ≤ 101 by rw [HPE.out, ins_len _ (by rw [HLL.out]; exact hk), HLL.out]; omega)
      clear hown6 ho6
      go_wp2_with fail
      go_ret2
      rw [HF.out]
      exact ⟨_, _, rfl, HN6.out, HPL.out, HB6.out⟩
end Go.Proofs.Ytgjimjpbogadjaa
