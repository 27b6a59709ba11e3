
/-
  The law LinkTells: its walk.
-/
import Derived.Test.YtgjimjpbogadjaaLkMid
namespace Go.Proofs.Ytgjimjpbogadjaa
open Go.RowKit

theorem sameL (x : LC) (h : plainL x) (w : World) : Calls Try.prog 51 #[letterV x, letterV x] w fun e w' => e = .returned (.bool true) ∧ Below w.heap.size w w' := by
  refine (same_letter 1 x x (letOf x) (letOf x) w (fun _ => True) (fun _ => True) (h.lin w _) (h.lin w _)).mono ?_
  rintro e w' ⟨q, rfl, hq, hb⟩
  exact ⟨by rw [hq.2 rfl], hb⟩

set_option maxRecDepth 100000 in
set_option maxHeartbeats 8000000 in
theorem linkTells_walk (n : Nat) (A : Option Addr) (c : Nat) (l : List LkC) (vs : List Lk) (ref other : Int) (fl : Bool) (txt : ByteArray) (x : LC) (a : Let) (W : World) (hin : lkRow W (· < W.heap.size) 0 A c l vs) (hr : I64 ref) (ho : I64 other) (ht : txt.size ≤ maxLen) (hx : LIn W (· < W.heap.size) n x a) :
    Calls Try.prog 7 #[.slice A l.length c, .int .i64 ref, .int .i64 other, .bool fl, .string txt, letterV x] W fun e w' => e = .returned (.bool true) ∧ Below W.heap.size W w' := by
  have hk := hx.1.2.2.2.2.2.2
  obtain ⟨_, hkf, hkt, _⟩ := hk
  have HXN := Lib.hid (none_any x)
  have HND : Hid (noneL x = if x.kind = 3 then (⟨2, x.to, x.frm, 2, ⟨#[]⟩, vc0⟩, true) else if x.kind = 4 then (⟨5, x.to, x.frm, 0, txtNone, vc0⟩, true) else (lc0, false)) := rfl
  have HKF := Lib.hid hkf
  have HKT := Lib.hid hkt
  obtain ⟨xk, xf, xt, xm, xs, ⟨vk, vm, vt, vA, vl, vc⟩⟩ := x
  obtain ⟨yq, hyq⟩ : ∃ r, noneL ⟨xk, xf, xt, xm, xs, ⟨vk, vm, vt, vA, vl, vc⟩⟩ = r := ⟨_, rfl⟩
  rw [hyq] at HXN HND
  clear hyq
  obtain ⟨⟨yk, yf, yt, ym, ys, ⟨zk, zm, zt, zA, zl, zc⟩⟩, yb⟩ := yq
  have HIN := Lib.hid (fun (w' : World) (hb : Below W.heap.size W w') => (hin.below hb (fun _ h => h)).keep (w' := w') (S' := (· < w'.heap.size)) (fun _ _ => rfl) (fun b h => Nat.lt_of_lt_of_le h hb.size))
  have HLV := Lib.hid hin.1
  have H1 := Lib.hid (fun (w' : World) (hb : Below W.heap.size W w') => lkadd_any A c l vs ref w' (HIN.out w' hb))
  have H2 := Lib.hid (fun (w' : World) (hb : Below W.heap.size W w') => watch_any A c l vs other ref w' (HIN.out w' hb) ho)
  have H3 := Lib.hid (fun (w' : World) (hb : Below W.heap.size W w') => link_any A c l vs other ref w' (HIN.out w' hb) ho)
  have H4 := Lib.hid (fun (w' : World) (hb : Below W.heap.size W w') => linked_any A c l vs ref other w' (HIN.out w' hb))
  have H5 := Lib.hid (fun (w' : World) (hb : Below W.heap.size W w') => gone_any A c l vs ref fl txt w' (HIN.out w' hb) hr ht)
  have HR := Lib.hid hr
  have HO := Lib.hid ho
  have HT := Lib.hid ht
  have hlm : l.length ≤ 2 ^ 63 - 1 := Nat.le_trans hin.2.2.2.1 hin.2.2.2.2.1
  have HLM := Lib.hid hlm
  obtain ⟨T1, hT1⟩ : ∃ r, addF vs ref = r := ⟨_, rfl⟩
  obtain ⟨T2, hT2⟩ : ∃ r, watF vs other ref = r := ⟨_, rfl⟩
  obtain ⟨T3, hT3⟩ : ∃ r, linF vs ref other = r := ⟨_, rfl⟩
  obtain ⟨T4, hT4⟩ : ∃ r, isF vs ref other = r := ⟨_, rfl⟩
  obtain ⟨T5, hT5⟩ : ∃ r, goneF vs ref fl txt = r := ⟨_, rfl⟩
  rw [hT1] at H1
  rw [hT2] at H2
  rw [hT3] at H3
  rw [hT4] at H4
  rw [hT5] at H5
  have HT1 := Lib.hid hT1
  have HT2 := Lib.hid hT2
  have HT3 := Lib.hid hT3
  have HT4 := Lib.hid hT4
  have HT5 := Lib.hid hT5
  obtain ⟨E1, L1⟩ := T1
  obtain ⟨E2, L2⟩ := T2
  obtain ⟨E3, L3⟩ := T3
  obtain ⟨is, E4⟩ := T4
  obtain ⟨E5, L5, S5⟩ := T5
  unfold letterV at HXN ⊢
  dsimp only at HXN HND HKF HKT ⊢
  have hal : Below W.heap.size W (W.alloc (.cells #[.int .i64 xk, .int .i64 xf, .int .i64 xt, .int .i64 xm, .string xs, .int .i64 vk, .int .i64 vm, .string vt, .slice vA vl vc] 98)) := (Below.refl _ _).alloc (Nat.le_refl _) _
  have HB0 := Lib.hid hal
  have hbx := Box.new W 98 #[.int .i64 xk, .int .i64 xf, .int .i64 xt, .int .i64 xm, .string xs, .int .i64 vk, .int .i64 vm, .string vt, .slice vA vl vc]
  have HBX := Lib.hid hbx
  clear hin hr ho ht hx hkf hkt hlm hT1 hT2 hT3 hT4 hT5 hal hbx
  go_enter Try.func7, Try.ntmps7
  go_upto_region 1 with fail
  obtain ⟨gx, hgx⟩ : ∃ gx, W.heap.size = gx := ⟨_, rfl⟩
  rw [hgx] at HBX ⊢
  have HGX := Lib.hid hgx
  clear hgx
  generalize W.alloc (.cells #[.int .i64 xk, .int .i64 xf, .int .i64 xt, .int .i64 xm, .string xs, .int .i64 vk, .int .i64 vm, .string vt, .slice vA vl vc] 98) = w0 at *
  go_wp2_with fail
  refine (H1.out w0 HB0.out).mono ?_
  rintro e w1 ⟨A1, c1, l1, rfl, hl1, hr1, hb1⟩
  have HB1 := Lib.hid (HB0.out.trans (hb1.mono HB0.out.size))
  have HR1 := Lib.hid (fun (w' : World) (hb : Below w1.heap.size w1 w') => (hr1.below hb (fun _ h => h)).keep (w' := w') (S' := (· < w'.heap.size)) (fun _ _ => rfl) (fun b h => Nat.lt_of_lt_of_le h hb.size))
  have HL1 := Lib.hid hl1
  have HBK1 := Lib.hid hb1
  clear hr1 hl1 hb1 H1
  go_wp2_with fail
  refine (H2.out w1 HB1.out).mono ?_
  rintro e w2 ⟨A2, c2, l2, rfl, hl2, hr2, hb2⟩
  have HB2 := Lib.hid (HB1.out.trans (hb2.mono HB1.out.size))
  have HR2 := Lib.hid (fun (w' : World) (hb : Below w2.heap.size w2 w') => (hr2.below hb (fun _ h => h)).keep (w' := w') (S' := (· < w'.heap.size)) (fun _ _ => rfl) (fun b h => Nat.lt_of_lt_of_le h hb.size))
  have HL2 := Lib.hid hl2
  have HBK2 := Lib.hid hb2
  clear hr2 hl2 hb2 H2
  have HR1 := Lib.hid (fun (w' : World) (hb : Below w2.heap.size w2 w') => HR1.out w' (HBK2.out.trans (hb.mono HBK2.out.size)))
  go_wp2_with fail
  refine (H3.out w2 HB2.out).mono ?_
  rintro e w3 ⟨A3, c3, l3, rfl, hl3, hr3, hb3⟩
  have HB3 := Lib.hid (HB2.out.trans (hb3.mono HB2.out.size))
  have HR3 := Lib.hid (fun (w' : World) (hb : Below w3.heap.size w3 w') => (hr3.below hb (fun _ h => h)).keep (w' := w') (S' := (· < w'.heap.size)) (fun _ _ => rfl) (fun b h => Nat.lt_of_lt_of_le h hb.size))
  have HL3 := Lib.hid hl3
  have HBK3 := Lib.hid hb3
  clear hr3 hl3 hb3 H3
  have HR1 := Lib.hid (fun (w' : World) (hb : Below w3.heap.size w3 w') => HR1.out w' (HBK3.out.trans (hb.mono HBK3.out.size)))
  have HR2 := Lib.hid (fun (w' : World) (hb : Below w3.heap.size w3 w') => HR2.out w' (HBK3.out.trans (hb.mono HBK3.out.size)))
  go_wp2_with fail
  refine (H4.out w3 HB3.out).mono ?_
  rintro e w4 ⟨rfl, hb4⟩
  have HB4 := Lib.hid (HB3.out.trans (hb4.mono HB3.out.size))
  have HBK4 := Lib.hid hb4
  clear hb4 H4
  have HR1 := Lib.hid (fun (w' : World) (hb : Below w4.heap.size w4 w') => HR1.out w' (HBK4.out.trans (hb.mono HBK4.out.size)))
  have HR2 := Lib.hid (fun (w' : World) (hb : Below w4.heap.size w4 w') => HR2.out w' (HBK4.out.trans (hb.mono HBK4.out.size)))
  have HR3 := Lib.hid (fun (w' : World) (hb : Below w4.heap.size w4 w') => HR3.out w' (HBK4.out.trans (hb.mono HBK4.out.size)))
  go_wp2_with fail
  refine (H5.out w4 HB4.out).mono ?_
  rintro e w5 ⟨A5, c5, l5, B5, d5, rfl, hl5, hr5, hs5, hb5⟩
  have HB5 := Lib.hid (HB4.out.trans (hb5.mono HB4.out.size))
  have HBK5 := Lib.hid hb5
  have HR5 := Lib.hid (fun (w' : World) (hb : Below w5.heap.size w5 w') => (hr5.below hb (fun _ h => h)).keep (w' := w') (S' := (· < w'.heap.size)) (fun _ _ => rfl) (fun b h => Nat.lt_of_lt_of_le h hb.size))
  have HS5 := Lib.hid (fun (w' : World) (hb : Below w5.heap.size w5 w') => (letterRow.below hb (fun _ h => h) hs5).keep (w' := w') (S' := (· < w'.heap.size)) (fun _ _ => rfl) (fun b h => Nat.lt_of_lt_of_le h hb.size))
  have HL5 := Lib.hid hl5
  clear hr5 hs5 hl5 hb5 H5
  have HR1 := Lib.hid (fun (w' : World) (hb : Below w5.heap.size w5 w') => HR1.out w' (HBK5.out.trans (hb.mono HBK5.out.size)))
  have HR2 := Lib.hid (fun (w' : World) (hb : Below w5.heap.size w5 w') => HR2.out w' (HBK5.out.trans (hb.mono HBK5.out.size)))
  have HR3 := Lib.hid (fun (w' : World) (hb : Below w5.heap.size w5 w') => HR3.out w' (HBK5.out.trans (hb.mono HBK5.out.size)))
  have h12 := HBK1.out.trans (HBK2.out.mono HBK1.out.size)
  have h13 := h12.trans (HBK3.out.mono h12.size)
  have h14 := h13.trans (HBK4.out.mono h13.size)
  have h15 := h14.trans (HBK5.out.mono h14.size)
  have HBX5 := Lib.hid (HBX.out.below h15 HBX.out.lt)
  clear h12 h13 h14 h15 HBK1 HBK2 HBK3 HBK4 HBK5 HB0 HB1 HB2 HB3 HB4 HBX
  obtain ⟨⟨y0, y1, y2, y3, y4, y5, y6, y7, y8⟩, _⟩ := own_cells9 HBX5.out
  go_wp2_with fail
  refine (HXN.out w5).mono ?_
  rintro e w6 ⟨rfl, hb6⟩
  have HB6 := Lib.hid (HB5.out.trans (hb6.mono HB5.out.size))
  have HBX6 := Lib.hid (HBX5.out.below hb6 HBX5.out.lt)
  have HBK6 := Lib.hid hb6
  clear hb6 y0 y1 y2 y3 y4 y5 y6 y7 y8 HXN
  go_upto_region 7 with fail
  have hal : Below w6.heap.size w6 (w6.alloc (.cells #[.int .i64 yk, .int .i64 yf, .int .i64 yt, .int .i64 ym, .string ys, .int .i64 zk, .int .i64 zm, .string zt, .slice zA zl zc] 98)) := (Below.refl _ _).alloc (Nat.le_refl _) _
  have HB7 := Lib.hid (HB6.out.trans (hal.mono HB6.out.size))
  have HBX7 := Lib.hid (HBX6.out.below hal HBX6.out.lt)
  have HBY7 := Lib.hid (Box.new w6 98 #[.int .i64 yk, .int .i64 yf, .int .i64 yt, .int .i64 ym, .string ys, .int .i64 zk, .int .i64 zm, .string zt, .slice zA zl zc])
  have HBK7 := Lib.hid (HBK6.out.trans (hal.mono HBK6.out.size))
  obtain ⟨gy, hgy⟩ : ∃ gy, w6.heap.size = gy := ⟨_, rfl⟩
  rw [hgy] at HBY7 ⊢
  clear hal hgy HBX6 HBX5 HB6 HBK6
  generalize w6.alloc (.cells #[.int .i64 yk, .int .i64 yf, .int .i64 yt, .int .i64 ym, .string ys, .int .i64 zk, .int .i64 zm, .string zt, .slice zA zl zc] 98) = w7 at *
  obtain ⟨⟨y0, y1, y2, y3, y4, y5, y6, y7, y8⟩, _⟩ := own_cells9 HBX7.out
  obtain ⟨⟨q0, q1, q2, q3, q4, q5, q6, q7, q8⟩, _⟩ := own_cells9 HBY7.out
  clear y3 y4 y5 y6 y7 y8
  go_upto_block 0 with fail
  go_cut [81] from 74 to 108 (fun _ wx => Below w7.heap.size w7 wx)
  case first =>
    by_cases h3 : xk = 3
    · have e := HND.out
      rw [if_pos h3] at e
      simp only [Prod.mk.injEq, LC.mk.injEq, VC.mk.injEq, vc0] at e
      obtain ⟨⟨rfl, rfl, rfl, rfl, rfl, rfl, rfl, rfl, rfl, rfl, rfl⟩, rfl⟩ := e
      have HS := Lib.hid (sameL ⟨2, yf, yt, 2, ⟨#[]⟩, vc0⟩ ⟨rfl, Nat.zero_le _, i64_small (m := 2) (by decide), HKT.out, HKF.out, i64_small (m := 2) (by decide)⟩ w7)
      subst h3
      clear HND
      go_wp2_with fail
      refine HS.out.mono ?_
      rintro e w8 ⟨rfl, hb8⟩
      go_wp2_with fail
      go_meet
      exact hb8
    rw [if_neg h3] at HND
    have b3 : (xk == 3) = false := by simpa using h3
    by_cases h4 : xk = 4
    · have e := HND.out
      rw [if_pos h4] at e
      simp only [Prod.mk.injEq, LC.mk.injEq, VC.mk.injEq, vc0] at e
      obtain ⟨⟨rfl, rfl, rfl, rfl, rfl, rfl, rfl, rfl, rfl, rfl, rfl⟩, rfl⟩ := e
      have HS := Lib.hid (sameL ⟨5, yf, yt, 0, txtNone, vc0⟩ ⟨rfl, (show txtNone.size ≤ maxLen by unfold maxLen; decide), i64_small (m := 5) (by decide), HKT.out, HKF.out, i64_small (m := 0) (by decide)⟩ w7)
      subst h4
      clear HND h3
      go_wp2_with fail
      refine HS.out.mono ?_
      rintro e w8 ⟨rfl, hb8⟩
      go_wp2_with fail
      go_meet
      exact hb8
    have e := HND.out
    rw [if_neg h4] at e
    have b4 : (xk == 4) = false := by simpa using h4
    simp only [Prod.mk.injEq, LC.mk.injEq, VC.mk.injEq, lc0, vc0] at e
    obtain ⟨⟨rfl, rfl, rfl, rfl, rfl, rfl, rfl, rfl, rfl, rfl, rfl⟩, rfl⟩ := e
    have HS := Lib.hid (sameL lc0 ⟨rfl, Nat.zero_le _, i64_small (m := 0) (by decide), i64_small (m := 0) (by decide), i64_small (m := 0) (by decide), i64_small (m := 0) (by decide)⟩ w7)
    clear HND h3 h4
    go_wp2_with fail
    refine HS.out.mono ?_
    rintro e w8 ⟨rfl, hb8⟩
    go_wp2_with fail
    go_meet
    exact hb8
  case rest =>
  obtain ⟨w8, hw8⟩ : ∃ w8, w8 = wc := ⟨_, rfl⟩
  subst hw8
  have HB8 := Lib.hid (HB7.out.trans (hcut.mono HB7.out.size))
  have HBK8 := Lib.hid (HBK7.out.trans (hcut.mono HBK7.out.size))
  clear hcut HBK7 HB7 HBX7 HBY7 HND y0 y1 y2 q0 q1 q2 q3 q4 q5 q6 q7 q8
  have HFT := Lib.hid (lkfault_any A c l vs w8 (HIN.out w8 HB8.out))
  go_wp2_with fail
  refine HFT.out.mono ?_
  rintro e w9 ⟨rfl, hb9⟩
  have HB9 := Lib.hid (HB8.out.trans (hb9.mono HB8.out.size))
  have HBK9 := Lib.hid (HBK8.out.trans (hb9.mono HBK8.out.size))
  have HCK := Lib.hid (lkcheck_any A c l vs w9 (HIN.out w9 HB9.out))
  clear hb9 HFT HB8 HBK8
  go_wp2_with fail
  refine HCK.out.mono ?_
  rintro e w10 ⟨rfl, hb10⟩
  have HB10 := Lib.hid (HB9.out.trans (hb10.mono HB9.out.size))
  have HBK10 := Lib.hid (HBK9.out.trans (hb10.mono HBK9.out.size))
  clear hb10 HCK HB9 HBK9
  by_cases hB : lkF vs = 0
  case neg =>
    have hbg : lkBeg vs ref = lkF vs := by unfold lkBeg; rw [if_pos hB]
    have hbn : lkBeg vs ref ≠ 0 := by rw [hbg]; exact hB
    have e1 : lkF vs = E1 ∧ [] = L1 := by have h := HT1.out; unfold addF at h; rw [if_pos hB] at h; injection h with h1 h2; exact ⟨h1, h2⟩
    have e2 : lkF vs = E2 ∧ [] = L2 := by have h := HT2.out; unfold watF at h; rw [if_pos hbn, hbg] at h; injection h with h1 h2; exact ⟨h1, h2⟩
    have e3 : lkF vs = E3 ∧ [] = L3 := by have h := HT3.out; unfold linF at h; rw [if_pos hbn, hbg] at h; injection h with h1 h2; exact ⟨h1, h2⟩
    have e4 : false = is ∧ lkF vs = E4 := by have h := HT4.out; unfold isF at h; rw [if_pos hbn, hbg] at h; injection h with h1 h2; exact ⟨h1, h2⟩
    have e5 : lkF vs = E5 ∧ [] = L5 ∧ [] = S5 := by have h := HT5.out; unfold goneF at h; rw [if_pos hbn, hbg] at h; injection h with h1 h2; injection h2 with h2 h3; exact ⟨h1, h2, h3⟩
    have b0 : (lkF vs != 0) = true := by simpa using hB
    clear HT1 HT2 HT3 HT4 HT5 hbg hbn hB
    generalize lkF vs = E at *
    obtain ⟨rfl, rfl⟩ := e1
    obtain ⟨rfl, rfl⟩ := e2
    obtain ⟨rfl, rfl⟩ := e3
    obtain ⟨rfl, rfl⟩ := e4
    obtain ⟨rfl, rfl, rfl⟩ := e5
    go_wp2_with fail
    go_ret
    exact ⟨rfl, HB10.out⟩
  rw [hB]
  have hok := lkF_ok hB
  have HOK := Lib.hid hok
  have hl100 : l.length ≤ 100 := by rw [HLV.out]; exact hok.len
  have HFB := Lib.hid hB
  have HLA := Lib.hid (linkAt_any ref A c l vs w10 (HIN.out w10 HB10.out))
  have hbg : lkBeg vs ref = if lkAt vs ref < 0 then 4 else 0 := by unfold lkBeg; rw [if_neg (by simpa using hB)]
  have HBG := Lib.hid hbg
  clear hok hB hbg
  obtain ⟨K, hK⟩ : ∃ K, lkAt vs ref = K := ⟨_, rfl⟩
  rw [hK] at HLA HBG
  have HKK := Lib.hid hK
  obtain ⟨AD, hAD⟩ : ∃ AD, addE vs ref = AD := ⟨_, rfl⟩
  have e1 : AD = E1 ∧ (AD ≠ 0 → L1 = []) ∧ (AD = 0 → L1 = putLk ⟨ref, [], []⟩ vs) := by
    have h := HT1.out
    unfold addF at h
    rw [if_neg (by simpa using HFB.out), hAD] at h
    by_cases h0 : AD ≠ 0
    · rw [if_pos h0] at h
      injection h with h1 h2
      exact ⟨h1, fun _ => h2.symm, fun h3 => absurd h3 h0⟩
    · rw [if_neg h0] at h
      injection h with h1 h2
      exact ⟨by simp at h0; rw [h0]; exact h1, fun h3 => absurd h3 h0, fun _ => h2.symm⟩
  obtain ⟨rfl, e1a, e1b⟩ := e1
  have HE1 := Lib.hid (And.intro e1a e1b)
  unfold addE at hAD
  rw [hK, ← HLV.out] at hAD
  have HAD := Lib.hid hAD
  clear hK hAD e1a e1b HT1
  go_wp2_with fail
  refine HLA.out.mono ?_
  rintro e w11 ⟨rfl, hb11⟩
  have HB11 := Lib.hid (HB10.out.trans (hb11.mono HB10.out.size))
  have HBK11 := Lib.hid (HBK10.out.trans (hb11.mono HBK10.out.size))
  clear hb11 HLA HB10 HBK10
  go_upto_block 1 with fail
  go_cut [28] from 164 to 173 (fun v wx => v = .int .i64 AD ∧ w11 = wx)
  case first =>
    have e := HAD.out
    by_cases u0 : ref < 1
    · rw [if_pos u0] at e
      subst e
      have f0 : decide (ref < 1) = true := decide_eq_true u0
      go_wp2_with fail
      go_meet
      exact ⟨rfl, rfl⟩
    rw [if_neg u0] at e
    have f0 : decide (ref < 1) = false := decide_eq_false u0
    by_cases u1 : 0 ≤ K
    · rw [if_pos u1] at e
      subst e
      have f1 : decide (0 ≤ K) = true := decide_eq_true u1
      go_wp2_with fail
      go_meet
      exact ⟨rfl, rfl⟩
    rw [if_neg u1] at e
    have f1 : decide (0 ≤ K) = false := decide_eq_false u1
    by_cases u2 : l.length = 100
    · rw [if_pos u2] at e
      subst e
      have f2 : ((l.length : Int) == 100) = true := by simp; omega
      have f2' : (l.length == 100) = true := by simp; omega
      clear u2
      go_wp2_with fail
      go_meet
      exact ⟨rfl, rfl⟩
    rw [if_neg u2] at e
    subst e
    have f2 : ((l.length : Int) == 100) = false := by simp; omega
    have f2' : (l.length == 100) = false := by simp; omega
    clear u2
    go_wp2_with fail
    go_meet
    exact ⟨rfl, rfl⟩
  case rest =>
  obtain ⟨rfl, rfl⟩ := hcut
  obtain ⟨n1, hn1⟩ : ∃ n, L1.length = n := ⟨_, rfl⟩
  rw [hn1]
  have HN1 := Lib.hid hn1
  clear hn1
  go_upto_region 29 with fail
  go_cut [185] from 174 to 185 (fun v wx => v = .bool false ∧ w11 = wx)
  case first =>
    by_cases h0 : AD = 0
    · have b0 : (AD != 0) = false := by simpa using h0
      clear h0
      go_wp2_with fail
      go_meet
      exact ⟨rfl, rfl⟩
    · have b0 : (AD != 0) = true := by simpa using h0
      obtain rfl : n1 = 0 := by rw [← HN1.out, HE1.out.1 h0]; rfl
      clear h0
      go_wp2_with fail
      go_meet
      exact ⟨rfl, rfl⟩
  case rest =>
  obtain ⟨rfl, rfl⟩ := hcut
  go_upto_if 187 with fail
  go_cut [29, 30] from 187 to 230 (fun _ _ wx => Below w11.heap.size w11 wx)
  case first =>
    by_cases h0 : AD = 0
    · have b0 : (AD == 0) = true := by simpa using h0
      have hFL : K < 0 ∧ l.length ≤ 99 := by
        have e := HAD.out
        rw [h0] at e
        by_cases u0 : ref < 1
        · rw [if_pos u0] at e; cases e
        rw [if_neg u0] at e
        by_cases u1 : 0 ≤ K
        · rw [if_pos u1] at e; cases e
        rw [if_neg u1] at e
        by_cases u2 : l.length = 100
        · rw [if_pos u2] at e; cases e
        · omega
      have HL1V := Lib.hid (HE1.out.2 h0)
      have HKN := Lib.hid (show lkAt vs ref < 0 by rw [HKK.out]; exact hFL.1)
      have hl99 := hFL.2
      have HOW := Lib.hid (linkOwn_any A c l vs w11 (HIN.out w11 HB11.out) hl100)
      obtain ⟨i0, zz0, hi0, hz0, hz1, hz2, hz3⟩ := lk_parts
      obtain rfl : n1 = L1.length := HN1.out.symm
      clear h0 hFL HE1 HAD HN1
      go_wp2_with fail
      refine HOW.out.mono ?_
      rintro e w2 ⟨A', c', l', rfl, hl', ho, hb2⟩
      have HO2 := Lib.hid ho
      have HLL := Lib.hid hl'
      have HB2 := Lib.hid hb2
      have hown := ho.row
      rw [hl'] at hown
      have HOA := Lib.hid (fun ob => hown.alloc ob)
      have HNW := Lib.hid (show ∀ j u, (lkC ⟨ref, bc0, bc0⟩)[j]? = some u → (w2.alloc (.cells #[.int .i64 ref, .slice none 0 0, .slice none 0 0] 114)).cell? ((⟨w2.heap.size, 0, none⟩ : Addr).add j) = some u from fun j u h => by
        rw [addr_add, Nat.zero_add]
        exact lk_new w2 ⟨ref, bc0, bc0⟩ j u h)
      have hsz : w11.heap.size ≤ (w2.alloc (.cells #[.int .i64 ref, .slice none 0 0, .slice none 0 0] 114)).heap.size := Nat.le_trans hb2.size (by simp)
      have HSZ := Lib.hid hsz
      clear ho hl' hb2 hown hsz HOW
      go_upto_block 2 with (at_builtin; refine wpList_append_q rfl (.tmp 189) (.tmp 192) 96 rfl w11.heap.size 114 i0 zz0 3 56 Try.underlying96 hi0 hz0 hz1 hz2 hz3 (by decide) A' l.length c' _ rfl (HOA.out _) ⟨w2.heap.size, 0, none⟩ 1 1 (lkC ⟨ref, bc0, bc0⟩) rfl rfl HNW.out (lk_one _) (by unfold maxLen; omega) (by omega) HSZ.out (by decide) ?_; intro g' o' cap' w4 H1 H2 H3)
      have hgw : w11.heap.size ≤ g' := H1.lt.1
      have HOT := Lib.hid (show Only (fun b => blkS A' b ∨ b = g') w2 w4 from ⟨H2.os, H2.tape, H2.output, Nat.le_trans (by simp) H2.size, fun i hi hne => by
        rw [H2.block i (Nat.lt_of_lt_of_le hi (by simp)) (fun e => hne (.inl e.symm))]
        exact Below.heap_alloc _ _ _ hi⟩)
      have HM0 := Lib.hid (show OwnAt w4 w11.heap.size 114 3 (some ⟨g', o', none⟩) (l.length + 1) cap' (flat lkC (midG l' ⟨ref, bc0, bc0⟩ l.length)) by rw [← HLL.out, midLk_end, HLL.out]; exact H1)
      have HB4 := Lib.hid (show Below w11.heap.size w11 w4 from (HB2.out.alloc HB2.out.size _).grown H2 HSZ.out (fun k hk => (blkS_lt HO2.out.row hk).1))
      have HG3 := Lib.hid (show blkS A' g' ∨ w2.heap.size ≤ g' by
        rcases H3 with h | h
        · exact .inl h
        · right; rw [h]; simp)
      clear H1 H2 H3 HOA HNW HSZ
      go_wp2_with fail
      go_loopg [30] l.length (fun gk v wr => ∃ k : Nat, gk = k ∧ k ≤ l.length ∧ v = .int .i64 k ∧ Hid (∀ j, k ≤ j → j < vs.length → ref < (vs.getD j lk0).ref) ∧ OwnAt wr w11.heap.size 114 3 (some ⟨g', o', none⟩) (l.length + 1) cap' (flat lkC (midG l' ⟨ref, bc0, bc0⟩ k)) ∧ Below w11.heap.size w11 wr ∧ Only (fun b => blkS A' b ∨ b = g') w2 wr)
      case atStart => exact ⟨l.length, rfl, Nat.le_refl _, rfl, Lib.hid (fun j h1 h2 => by have := HLV.out; omega), HM0.out, HB4.out, HOT.out⟩
      case round =>
        obtain ⟨k, hgk, hk, rfl, HD, hown, hbl, hon⟩ := hrel
        have HK := Lib.hid hgk
        have HO := Lib.hid hown
        have HBR := Lib.hid hbl
        have HON := Lib.hid hon
        clear hgk hown hbl hon HM0 HB4 HOT
        have hkL : k ≤ l'.length := by rw [HLL.out]; exact hk
        have hML := midG_len l' ⟨ref, bc0, bc0⟩ hkL
        rw [HLL.out] at hML
        by_cases hk0 : 0 < k
        · obtain ⟨gg, oo, hg', _, e0, e1, e2⟩ := HO.out.row.lk (show k - 1 < (midG l' ⟨ref, bc0, bc0⟩ k).length by omega) lkc0
          injection hg' with hg'
          injection hg' with hg1 hg2
          subst hg1 hg2
          obtain ⟨gg, oo, hg', _, x0, x1, x2⟩ := HO.out.row.lk (show k < (midG l' ⟨ref, bc0, bc0⟩ k).length by omega) lkc0
          injection hg' with hg'
          injection hg' with hg1 hg2
          subst hg1 hg2
          rw [midG_pre lkc0 l' _ hkL hk0] at e0 e1 e2
          rw [midG_at lkc0 l' _ hkL] at x0 x1 x2
          have HSW := Lib.hid (midG_swap lkc0 l' ⟨ref, bc0, bc0⟩ hk0 hkL)
          have hrr : (l'.getD (k - 1) lkc0).r = (vs.getD (k - 1) lk0).ref := (HO2.out.each (k - 1) (by omega)).ref
          have HRR := Lib.hid hrr
          clear hrr
          generalize l'.getD (k - 1) lkc0 = z at *
          obtain ⟨z0, ⟨zA, zl, zc⟩, ⟨yA, yl, yc⟩⟩ := z
          simp only [bc0] at e0 e1 e2 x0 x1 x2
          have dk : decide ((0 : Int) < (k : Int)) = true := by simp; omega
          have dk' : decide (0 < k) = true := by simp; omega
          have hsub : (k : Int) - 1 = ((k - 1 : Nat) : Int) := by omega
          have hkl : ((k - 1 : Nat) : Int) < ((l.length + 1 : Nat) : Int) := by omega
          have hkl' : ((k - 1 : Nat) : Int) < (l.length : Int) + 1 := by omega
          have hkl0 : k - 1 < l.length + 1 := by omega
          have hkn : (k : Int) < (l.length : Int) + 1 := by omega
          have hkn0 : k < l.length + 1 := by omega
          have HML2 := Lib.hid hML
          clear hML hkL
          by_cases hz : ref < z0
          · have d1 : decide (ref < z0) = true := decide_eq_true hz
            have HDN : Hid (∀ j, k - 1 ≤ j → j < vs.length → ref < (vs.getD j lk0).ref) := fun j h1 h2 => by
              by_cases e : j = k - 1
              · subst e; rw [← HRR.out]; exact hz
              · exact HD.out j (by omega) h2
            have hfz := HO.out.frozen
            have r0 := hfz (o' + (k - 1) * 3)
            have r1 := hfz (o' + (k - 1) * 3 + 1)
            have r2 := hfz (o' + (k - 1) * 3 + 2)
            have t0 := hfz (o' + k * 3)
            have t1 := hfz (o' + k * 3 + 1)
            have t2 := hfz (o' + k * 3 + 2)
            clear hfz hz
            go_wp2_with fail
            go_region
            have hs := (HO.out.put3 (i := k - 1) (by have := HML2.out; omega) ⟨ref, bc0, bc0⟩).put3 (i := k) (by rw [List.length_set]; have := HML2.out; omega) ⟨z0, ⟨zA, zl, zc⟩, ⟨yA, yl, yc⟩⟩
            rw [HSW.out] at hs
            have HS := Lib.hid hs.drew
            have HB6 := Lib.hid (below_put3 (below_put3 (p := o' + (k - 1) * 3) HBR.out hgw (.int .i64 ref) (.slice none 0 0) (.slice none 0 0)) (p := o' + k * 3) hgw (.int .i64 z0) (.slice zA zl zc) (.slice yA yl yc)).drew
            have HO6 := Lib.hid (only_put3 (only_put3 (p := o' + (k - 1) * 3) HON.out (.inr rfl) (.int .i64 ref) (.slice none 0 0) (.slice none 0 0)) (p := o' + k * 3) (.inr rfl) (.int .i64 z0) (.slice zA zl zc) (.slice yA yl yc)).drew
            clear hs e0 e1 e2 x0 x1 x2 r0 r1 r2 t0 t1 t2
            go_wp2_with fail
            go_roundg (k - 1)
            case measure => have := HK.out; omega
            case rel => exact ⟨k - 1, rfl, by omega, rfl, HDN, HS.out, HB6.out, HO6.out⟩
          · have d1 : decide (ref < z0) = false := decide_eq_false hz
            have HLS := Lib.hid (HL1V.out.trans (lk_stop HOK.out.sort HKN.out (by rw [← HLV.out]; exact hk) HD.out (.inr (by rw [← HRR.out]; exact hz))))
            have hbw : Below w11.heap.size w11 wr := HBR.out
            have HSM := Lib.hid (mid_same (HR1.out wr (HBK11.out.trans (hbw.mono HBK11.out.size))) HLS.out HO2.out HON.out HG3.out HO.out HLL.out hk hl99)
            clear hz hbw
            go_wp2_with fail
            refine HSM.out.mono ?_
            rintro e wz ⟨rfl, nz, rfl⟩
            go_wp2_with fail
            go_meet
            exact below_drewN HBR.out nz
        · obtain rfl : k = 0 := by omega
          have dk : decide ((0 : Int) < ((0 : Nat) : Int)) = false := by decide
          have HLS := Lib.hid (HL1V.out.trans (lk_stop HOK.out.sort HKN.out (by rw [← HLV.out]; exact hk) HD.out (.inl rfl)))
          have hbw : Below w11.heap.size w11 wr := HBR.out
          have HSM := Lib.hid (mid_same (HR1.out wr (HBK11.out.trans (hbw.mono HBK11.out.size))) HLS.out HO2.out HON.out HG3.out HO.out HLL.out hk hl99)
          clear hbw
          go_wp2_with fail
          refine HSM.out.mono ?_
          rintro e wz ⟨rfl, nz, rfl⟩
          go_wp2_with fail
          go_meet
          exact below_drewN HBR.out nz
    · have b0 : (AD == 0) = false := by simpa using h0
      clear h0
      go_wp2_with fail
      go_meet
      exact Below.refl _ _
  case rest =>
  obtain ⟨w12, hw12⟩ : ∃ w12, w12 = wc := ⟨_, rfl⟩
  subst hw12
  have HB12 := Lib.hid (HB11.out.trans (hcut.mono HB11.out.size))
  have HBK12 := Lib.hid (HBK11.out.trans (hcut.mono HBK11.out.size))
  clear hcut HB11 HBK11 HE1 HAD HN1
  by_cases hK0 : K < 0
  · have hbg : lkBeg vs ref = 4 := by rw [HBG.out, if_pos hK0]
    have hbn : lkBeg vs ref ≠ 0 := by rw [hbg]; decide
    have e2 : 4 = E2 ∧ [] = L2 := by have h := HT2.out; unfold watF at h; rw [if_pos hbn, hbg] at h; injection h with h1 h2; exact ⟨h1, h2⟩
    have e3 : 4 = E3 ∧ [] = L3 := by have h := HT3.out; unfold linF at h; rw [if_pos hbn, hbg] at h; injection h with h1 h2; exact ⟨h1, h2⟩
    have e4 : false = is ∧ 4 = E4 := by have h := HT4.out; unfold isF at h; rw [if_pos hbn, hbg] at h; injection h with h1 h2; exact ⟨h1, h2⟩
    have e5 : 4 = E5 ∧ [] = L5 ∧ [] = S5 := by have h := HT5.out; unfold goneF at h; rw [if_pos hbn, hbg] at h; injection h with h1 h2; injection h2 with h2 h3; exact ⟨h1, h2, h3⟩
    have b0 : decide (K < 0) = true := decide_eq_true hK0
    clear HT2 HT3 HT4 HT5 hbg hbn hK0 HBG
    obtain ⟨rfl, rfl⟩ := e2
    obtain ⟨rfl, rfl⟩ := e3
    obtain ⟨rfl, rfl⟩ := e4
    obtain ⟨rfl, rfl, rfl⟩ := e5
    go_wp2_with fail
    go_ret
    exact ⟨rfl, HB12.out⟩
  have hbg : lkBeg vs ref = 0 := by rw [HBG.out, if_neg hK0]
  have b0 : decide (K < 0) = false := decide_eq_false hK0
  obtain ⟨i, hi, hil⟩ : ∃ i : Nat, K = (i : Int) ∧ i < vs.length := by
    rcases lkAt_range vs ref with h | h
    · rw [HKK.out] at h; omega
    · rw [HKK.out] at h; exact h
  subst hi
  have hrf := lkAt_ref HKK.out hil
  have e2 : (E2, L2) = if (vs.getD i lk0).ws.length = 100 then (6, []) else (0, vs.set i ⟨(vs.getD i lk0).ref, (vs.getD i lk0).ws ++ [other], (vs.getD i lk0).ls⟩) := by
    have h := HT2.out
    unfold watF at h
    rw [if_neg (by rw [hbg]; simp), HKK.out, Int.toNat_natCast] at h
    exact h.symm
  have e3 : (E3, L3) = if (vs.getD i lk0).ls.contains other = true then (0, vs) else if (vs.getD i lk0).ls.length = 100 then (6, []) else (0, vs.set i ⟨(vs.getD i lk0).ref, (vs.getD i lk0).ws, (vs.getD i lk0).ls ++ [other]⟩) := by
    have h := HT3.out
    unfold linF at h
    rw [if_neg (by rw [hbg]; simp), HKK.out, Int.toNat_natCast] at h
    exact h.symm
  have e4 : is = (vs.getD i lk0).ls.contains other ∧ 0 = E4 := by
    have h := HT4.out
    unfold isF at h
    rw [if_neg (by rw [hbg]; simp), HKK.out, Int.toNat_natCast] at h
    injection h with h1 h2
    exact ⟨h1.symm, h2⟩
  have e5 : 0 = E5 ∧ vs.take i ++ vs.drop (i + 1) = L5 ∧ goneL (vs.getD i lk0) (vs.getD i lk0).ref fl txt = S5 := by
    have h := HT5.out
    unfold goneF at h
    rw [if_neg (by rw [hbg]; simp), HKK.out, Int.toNat_natCast] at h
    injection h with h1 h2
    injection h2 with h2 h3
    exact ⟨h1, h2, by rw [hrf]; exact h3⟩
  obtain ⟨e4a, rfl⟩ := e4
  obtain ⟨rfl, e5b, e5c⟩ := e5
  have HLK := Lib.hid (lawlinked_any A c l vs i other w12 (HIN.out w12 HB12.out) hil HOK.out HO.out A2 c2 l2 L2 E2 (HR2.out w12 HBK12.out)
    (fun h => by rw [if_pos h] at e2; injection e2 with h1 h2; exact ⟨h2, h1⟩) (fun h => by rw [if_neg h] at e2; injection e2 with h1 h2; exact ⟨h2, h1⟩)
    A3 c3 l3 L3 E3 (HR3.out w12 HBK12.out)
    (fun h => by rw [if_pos h] at e3; injection e3 with h1 h2; exact ⟨h2, h1⟩)
    (fun h h' => by rw [if_neg (by rw [h]; decide), if_pos h'] at e3; injection e3 with h1 h2; exact ⟨h2, h1⟩)
    (fun h h' => by rw [if_neg (by rw [h]; decide), if_neg h'] at e3; injection e3 with h1 h2; exact ⟨h2, h1⟩))
  rw [← e4a] at HLK
  have HGO := Lib.hid (fun (w' : World) (hb : Below w12.heap.size w12 w') => lawgone_any A c l vs i fl txt w' (HIN.out w' (HB12.out.trans (hb.mono HB12.out.size))) hil HOK.out (by rw [hrf]; exact HR.out) HT.out A5 c5 l5
    (by rw [e5b]; exact HR5.out w' (HBK12.out.trans (hb.mono HBK12.out.size))) B5 d5 (by rw [e5c]; exact HS5.out w' (HBK12.out.trans (hb.mono HBK12.out.size))))
  rw [e5c, HL5.out] at HGO
  clear e2 e3 e4a e5b e5c hbg hrf hil hK0 HT2 HT3 HT4 HT5 HBG HKK HOK
  go_wp2_with fail
  refine HLK.out.mono ?_
  rintro e w13 ⟨rfl, hb13⟩
  have HG := Lib.hid (HGO.out w13 hb13)
  have HB13 := Lib.hid (HB12.out.trans (hb13.mono HB12.out.size))
  clear hb13 HLK HGO
  go_wp2_with fail
  refine HG.out.mono ?_
  rintro e w14 ⟨rfl, hb14⟩
  go_wp2_with fail
  go_ret
  exact ⟨rfl, HB13.out.trans (hb14.mono HB13.out.size)⟩
end Go.Proofs.Ytgjimjpbogadjaa
