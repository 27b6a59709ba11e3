
/-
  Join of package limit.
-/
import Derived.Test.YtgjimjpbogadjaaLm4
import Derived.RegionTactic
import Derived.Deep.QuietTactic
import Derived.BigQuiet
import Derived.BigRegion
namespace Go.Proofs.Ytgjimjpbogadjaa
open Go.RowKit

set_option maxRecDepth 100000 in
set_option maxHeartbeats 4000000 in
theorem limjoin_any (A : Option Addr) (c : Nat) (l : List Lm) (n tt : Int) (w : World) (hr : Row w w.heap.size A (flat lmC l)) (hA : A = none → c = 0) (hlm : l.length ≤ maxLen) :
    Calls Try.prog 36 #[.slice A l.length c, .int .i64 n, .int .i64 tt] w fun e w' => LmRes (joinF l n tt) w e w' := by
  have HBG := Lib.hid (limbegin_any n A c l w hr hlm)
  have HR := Lib.hid (fun (w' : World) (hb : Below w.heap.size w w') => (hr.below hb).more hb.size)
  have HFD := Lib.hid (fun (w' : World) (hb : Below w.heap.size w w') => limfind_any tt A c l w' (HR.out w' hb) hlm)
  have HFF : Hid (joinF l n tt = if beginE l n ≠ 0 then (beginE l n, []) else if jnE l (lmAt l n).toNat (lmAt l tt) ≠ 0 then (jnE l (lmAt l n).toNat (lmAt l tt), []) else (0, (l.set (lmAt l tt).toNat (jnR (l.getD (lmAt l tt).toNat lm0) (l.getD (lmAt l n).toNat lm0))).eraseIdx (lmAt l n).toNat)) := rfl
  generalize joinF l n tt = F at *
  unfold maxLen at hlm
  by_cases hE : beginE l n = 0
  case neg =>
    obtain ⟨E, hEE⟩ : ∃ E, beginE l n = E := ⟨_, rfl⟩
    rw [hEE] at hE HBG HFF
    rw [if_neg hE] at HBG
    have b1 : (E != 0) = true := by simpa using hE
    have HF := Lib.hid (show F = (E, []) by rw [HFF.out, if_pos hE])
    clear hEE hE HFF hr hA
    go_enter Try.func36, Try.ntmps36
    go_wp2_with fail
    refine HBG.out.mono ?_
    rintro e w1 ⟨rfl, hb1⟩
    go_wp2_with fail
    go_ret2
    rw [HF.out]
    exact ⟨none, 0, rfl, Row.nil, Nat.zero_le _, hb1⟩
  obtain ⟨hok, i, hi, hil⟩ := begin_ok hE
  rw [hE, if_pos rfl, hi] at HBG
  rw [hE, if_neg (by simp), hi, Int.toNat_natCast] at HFF
  have hi1 : (i : Int) < (l.length : Int) := by omega
  have hl1 := hok.len
  have HCL := Lib.hid (fun (w' : World) (hb : Below w.heap.size w w') => clone_lm A c l _ w' (HR.out w' hb) hA (by omega))
  have HJ : Hid (∀ K, lmAt l tt = K → jnE l i K = if K < 0 then 4 else if K = i then 18 else if 1073741824 < (l.getD i lm0).ml + (l.getD K.toNat lm0).ml ∨ 1073741824 < (l.getD i lm0).mc + (l.getD K.toNat lm0).mc then 2 else 0) := fun _ _ => rfl
  have HJJ := Lib.hid (HJ.out _ rfl)
  have hrange := lmAt_range l tt
  generalize lmAt l tt = K at *
  clear HJ
  by_cases u0 : K < 0
  · have f0 : decide (K < 0) = true := decide_eq_true u0
    have HF := Lib.hid (show F = (4, []) by
      rw [HFF.out, show jnE l _ _ = 4 by rw [HJJ.out, if_pos u0]]
      rfl)
    clear HFF HJJ u0 hrange hok hi hE hr hA
    go_enter Try.func36, Try.ntmps36
    go_wp2_with fail
    refine HBG.out.mono ?_
    rintro e w1 ⟨rfl, hb1⟩
    have HB1 := Lib.hid hb1
    clear hb1
    go_wp2_with fail
    refine (HFD.out _ HB1.out).mono ?_
    rintro e w2 ⟨rfl, hb2⟩
    have HB2 := Lib.hid (HB1.out.trans (hb2.mono HB1.out.size))
    clear hb2
    go_wp2_with fail
    go_ret2
    rw [HF.out]
    exact ⟨none, 0, rfl, Row.nil, Nat.zero_le _, HB2.out⟩
  have f0 : decide (K < 0) = false := decide_eq_false u0
  obtain ⟨k, rfl, hkl⟩ : ∃ k : Nat, K = (k : Int) ∧ k < l.length := by
    rcases hrange with h | h
    · omega
    · exact h
  clear hrange
  by_cases u1 : k = i
  · subst u1
    have f1 : ((k : Int) == (k : Int)) = true := by simp
    have HF := Lib.hid (show F = (18, []) by
      rw [HFF.out, show jnE l _ _ = 18 by rw [HJJ.out, if_neg u0, if_pos rfl]]
      rfl)
    clear HFF HJJ u0 hok hi hE hr hA
    go_enter Try.func36, Try.ntmps36
    go_wp2_with fail
    refine HBG.out.mono ?_
    rintro e w1 ⟨rfl, hb1⟩
    have HB1 := Lib.hid hb1
    clear hb1
    go_wp2_with fail
    refine (HFD.out _ HB1.out).mono ?_
    rintro e w2 ⟨rfl, hb2⟩
    have HB2 := Lib.hid (HB1.out.trans (hb2.mono HB1.out.size))
    clear hb2
    go_wp2_with fail
    go_ret2
    rw [HF.out]
    exact ⟨none, 0, rfl, Row.nil, Nat.zero_le _, HB2.out⟩
  have f1 : ((k : Int) == (i : Int)) = false := by simp; omega
  have f1' : (k == i) = false := by simp; omega
  have hk1 : (k : Int) < (l.length : Int) := by omega
  obtain ⟨k1, k2, k3, k4, k5, k6⟩ := hok.rows _ (getD_mem lm0 hil)
  obtain ⟨j1, j2, j3, j4, j5, j6⟩ := hok.rows _ (getD_mem lm0 hkl)
  obtain ⟨g0, o0, rfl, hg0, _, _, _, c3, c4⟩ := hr.lm hil lm0
  obtain ⟨g', o', hg', _, _, _, _, d3, d4⟩ := hr.lm hkl lm0
  injection hg' with hg'
  injection hg' with hg1 hg2
  subst hg1 hg2
  have HX := Lib.hid (getD_some lm0 hil)
  have HY := Lib.hid (getD_some lm0 hkl)
  have HB0 := Lib.hid (fun (w' : World) (hb : Below w.heap.size w w') (b o : Nat) (hlt : b < w.heap.size) => hb.cell (p := ⟨b, o, none⟩) hlt)
  rw [Int.toNat_natCast] at HFF HJJ
  generalize l.getD i lm0 = y at *
  generalize l.getD k lm0 = z at *
  obtain ⟨y0, y1, y2, y3, y4⟩ := y
  obtain ⟨z0, z1, z2, z3, z4⟩ := z
  dsimp only at c3 c4 d3 d4 k1 k2 k3 k4 k5 k6 j1 j2 j3 j4 j5 j6 HJJ
  have q3 : 0 ≤ y3 := by omega
  have q4 : 0 ≤ y4 := by omega
  have r3 : 0 ≤ z3 := by omega
  have r4 : 0 ≤ z4 := by omega
  have hki : ¬ ((k : Int) = (i : Int)) := by omega
  clear k1 k2 k4 k5 j1 j2 j4 j5
  by_cases u2 : 1073741824 < z3 + y3
  · have f2 : decide (1073741824 < z3 + y3) = true := decide_eq_true u2
    have HF := Lib.hid (show F = (2, []) by
      rw [HFF.out, show jnE l _ _ = 2 by rw [HJJ.out, if_neg u0, if_neg hki, if_pos (.inl (show 1073741824 < y3 + z3 by omega))]]
      rfl)
    clear HFF HJJ u0 u1 hok hi hE hr hA u2 hki
    go_enter Try.func36, Try.ntmps36
    go_wp2_with fail
    refine HBG.out.mono ?_
    rintro e w1 ⟨rfl, hb1⟩
    have HB1 := Lib.hid hb1
    clear hb1
    go_wp2_with fail
    refine (HFD.out _ HB1.out).mono ?_
    rintro e w2 ⟨rfl, hb2⟩
    have HB2 := Lib.hid (HB1.out.trans (hb2.mono HB1.out.size))
    clear hb2
    have x3 := (HB0.out w2 HB2.out g0 (o0 + i * 5 + 3) hg0).trans c3
    have x4 := (HB0.out w2 HB2.out g0 (o0 + i * 5 + 4) hg0).trans c4
    have t3 := (HB0.out w2 HB2.out g0 (o0 + k * 5 + 3) hg0).trans d3
    have t4 := (HB0.out w2 HB2.out g0 (o0 + k * 5 + 4) hg0).trans d4
    clear c3 c4 d3 d4
    go_wp2_with fail
    have hw3 : IntKind.i64.wrap (z3 + y3) = z3 + y3 := by rw [IntKind.wrap_i64]; omega
    have hw4 : IntKind.i64.wrap (z4 + y4) = z4 + y4 := by rw [IntKind.wrap_i64]; omega
    go_quiet (fail)
    clear hw3 hw4
    go_wp2_with fail
    go_ret2
    rw [HF.out]
    exact ⟨none, 0, rfl, Row.nil, Nat.zero_le _, below_drewN HB2.out _⟩
  have f2 : decide (1073741824 < z3 + y3) = false := decide_eq_false u2
  by_cases u3 : 1073741824 < z4 + y4
  · have f3 : decide (1073741824 < z4 + y4) = true := decide_eq_true u3
    have HF := Lib.hid (show F = (2, []) by
      rw [HFF.out, show jnE l _ _ = 2 by rw [HJJ.out, if_neg u0, if_neg hki, if_pos (.inr (show 1073741824 < y4 + z4 by omega))]]
      rfl)
    clear HFF HJJ u0 u1 hok hi hE hr hA u2 u3 hki
    go_enter Try.func36, Try.ntmps36
    go_wp2_with fail
    refine HBG.out.mono ?_
    rintro e w1 ⟨rfl, hb1⟩
    have HB1 := Lib.hid hb1
    clear hb1
    go_wp2_with fail
    refine (HFD.out _ HB1.out).mono ?_
    rintro e w2 ⟨rfl, hb2⟩
    have HB2 := Lib.hid (HB1.out.trans (hb2.mono HB1.out.size))
    clear hb2
    have x3 := (HB0.out w2 HB2.out g0 (o0 + i * 5 + 3) hg0).trans c3
    have x4 := (HB0.out w2 HB2.out g0 (o0 + i * 5 + 4) hg0).trans c4
    have t3 := (HB0.out w2 HB2.out g0 (o0 + k * 5 + 3) hg0).trans d3
    have t4 := (HB0.out w2 HB2.out g0 (o0 + k * 5 + 4) hg0).trans d4
    clear c3 c4 d3 d4
    go_wp2_with fail
    have hw3 : IntKind.i64.wrap (z3 + y3) = z3 + y3 := by rw [IntKind.wrap_i64]; omega
    have hw4 : IntKind.i64.wrap (z4 + y4) = z4 + y4 := by rw [IntKind.wrap_i64]; omega
    go_quiet (fail)
    clear hw3 hw4
    go_wp2_with fail
    go_ret2
    rw [HF.out]
    exact ⟨none, 0, rfl, Row.nil, Nat.zero_le _, below_drewN HB2.out _⟩
  have f3 : decide (1073741824 < z4 + y4) = false := decide_eq_false u3
  have HF := Lib.hid (show F = (0, (l.set k ⟨z0, z1, z2, z3 + y3, z4 + y4⟩).eraseIdx i) by
    rw [HFF.out, show jnE l i k = 0 by rw [HJJ.out, if_neg u0, if_neg hki, if_neg (by omega)]]
    rfl)
  clear HFF HJJ u0 u1 hok hi hE hr hA u2 u3 hki
  go_enter Try.func36, Try.ntmps36
  go_wp2_with fail
  refine HBG.out.mono ?_
  rintro e w1 ⟨rfl, hb1⟩
  have HB1 := Lib.hid hb1
  clear hb1
  go_wp2_with fail
  refine (HFD.out _ HB1.out).mono ?_
  rintro e w2 ⟨rfl, hb2⟩
  have HB2 := Lib.hid (HB1.out.trans (hb2.mono HB1.out.size))
  clear hb2
  have x3 := (HB0.out w2 HB2.out g0 (o0 + i * 5 + 3) hg0).trans c3
  have x4 := (HB0.out w2 HB2.out g0 (o0 + i * 5 + 4) hg0).trans c4
  have t3 := (HB0.out w2 HB2.out g0 (o0 + k * 5 + 3) hg0).trans d3
  have t4 := (HB0.out w2 HB2.out g0 (o0 + k * 5 + 4) hg0).trans d4
  clear c3 c4 d3 d4
  go_wp2_with fail
  have hw3 : IntKind.i64.wrap (z3 + y3) = z3 + y3 := by rw [IntKind.wrap_i64]; omega
  have hw4 : IntKind.i64.wrap (z4 + y4) = z4 + y4 := by rw [IntKind.wrap_i64]; omega
  go_quiet (fail)
  clear hw3 hw4
  go_wp2_with fail
  refine (HCL.out _ (below_drewN HB2.out _)).mono ?_
  rintro e w3 ⟨v, rfl, hown, hb3⟩
  obtain ⟨A3, c3', rfl, ho3⟩ := OwnAt.of_own hown
  obtain ⟨g, o, rfl, _⟩ := ho3.some_of (by omega)
  have hgl := ho3.lt
  have HB3 := Lib.hid ((below_drewN HB2.out _).trans (hb3.mono HB2.out.size))
  obtain ⟨g', o', hg', _, _, _, _, e3, e4⟩ := ho3.row.lm hkl lm0
  injection hg' with hg'
  injection hg' with hg1 hg2
  subst hg1 hg2
  have hgd : l.getD k lm0 = ⟨z0, z1, z2, z3, z4⟩ := by rw [List.getD_eq_getElem?_getD, HY.out]; rfl
  rw [hgd] at e3 e4
  dsimp only at e3 e4
  have hfz := fun j => ho3.frozen j
  have f3' := hfz (o + k * 5 + 3)
  have f4' := hfz (o + k * 5 + 4)
  have hs2 := HB2.out.size
  have hgl1 : w2.heap.size ≤ g := hgl.1
  have hne : g0 ≠ g := by omega
  have hne' : ¬ g = g0 := by omega
  have HO3 := Lib.hid ho3
  have HS1 := Lib.hid (show w.heap.size ≤ g by omega)
  have hb3c := HB3.out
  have s3 := (HB0.out w3 hb3c g0 (o0 + i * 5 + 3) hg0).trans (((HB0.out _ (below_drewN HB2.out 0) g0 (o0 + i * 5 + 3) hg0).symm).trans x3)
  have s4 := (HB0.out w3 hb3c g0 (o0 + i * 5 + 4) hg0).trans (((HB0.out _ (below_drewN HB2.out 0) g0 (o0 + i * 5 + 4) hg0).symm).trans x4)
  clear hown hb3 ho3 hgd hfz x3 x4 t3 t4 hb3c
  go_wp2_with fail
  have hw3 : IntKind.i64.wrap (z3 + y3) = z3 + y3 := by rw [IntKind.wrap_i64]; omega
  have hw4 : IntKind.i64.wrap (z4 + y4) = z4 + y4 := by rw [IntKind.wrap_i64]; omega
  go_region
  go_wp2_with fail
  go_region
  have hset := (((HO3.out.drew).putF lmC_len (j := 3) (.int .i64 (z3 + y3)) HY.out (by decide) ⟨z0, z1, z2, z3 + y3, z4⟩ rfl).drew).putF lmC_len (i := k) (x := ⟨z0, z1, z2, z3 + y3, z4⟩) (j := 4) (.int .i64 (z4 + y4)) (by rw [List.getElem?_set_self (by exact hkl)]) (by decide) ⟨z0, z1, z2, z3 + y3, z4 + y4⟩ rfl
  rw [List.set_set] at hset
  have HB5 := Lib.hid ((((HB3.out.drew).setCell (p := ⟨g, o + k * 5 + 3, none⟩) HS1.out (.int .i64 (z3 + y3))).drew).setCell (p := ⟨g, o + k * 5 + 4, none⟩) HS1.out (.int .i64 (z4 + y4)))
  obtain ⟨L, hL⟩ : ∃ L, L = l.set k (⟨z0, z1, z2, z3 + y3, z4 + y4⟩ : Lm) := ⟨_, rfl⟩
  have hLL : L.length = l.length := by rw [hL]; exact List.length_set ..
  rw [← hL] at hset HF
  have hdel := delete_lm _ g o c3' i L _ (by rw [hLL]; exact hset) (by rw [hLL]; exact hil)
  rw [hLL] at hdel
  rw [List.eraseIdx_eq_take_drop_succ] at HF
  have HDL := Lib.hid hdel
  have HDD := Lib.hid (show (L.take i ++ L.drop (i + 1)).length ≤ 101 by rw [List.length_append, List.length_take, List.length_drop]; omega)
  generalize L.take i ++ L.drop (i + 1) = Z at *
  clear hset hL hLL hdel hw3 hw4
  go_wp2_with fail
  refine HDL.out.mono ?_
  rintro e w5 ⟨rfl, hown5, ho5⟩
  have HN5 := Lib.hid hown5.row
  have HB6 := Lib.hid (ho5.to_below HB5.out HB5.out.size (fun b hb => by rw [hb]; exact HS1.out))
  clear hown5 ho5
  go_wp2_with fail
  go_ret2
  rw [HF.out]
  exact ⟨_, _, rfl, HN5.out, HDD.out, HB6.out⟩
end Go.Proofs.Ytgjimjpbogadjaa
