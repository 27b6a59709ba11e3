
/-
  The law LimitTells: its walk.
-/
import Derived.Test.YtgjimjpbogadjaaLm10
namespace Go.Proofs.Ytgjimjpbogadjaa
open Go.RowKit

set_option maxRecDepth 100000 in
set_option maxHeartbeats 8000000 in
theorem limitTells_walk (n : Nat) (x : VC) (v : Val) (A : Option Addr) (c : Nat) (l : List Lm) (ref tt a b : Int) (W : World) (hx : VIn W (· < W.heap.size) n x v) (hr : Row W W.heap.size A (flat lmC l)) (hA : A = none → c = 0) (hlm : l.length ≤ maxLen) :
    Calls Try.prog 6 #[.slice A l.length c, .int .i64 ref, .int .i64 tt, .int .i64 a, .int .i64 b, valV x] W fun e w' => e = .returned (.bool true) ∧ Below W.heap.size W w' := by
  obtain ⟨xk, xm, xt, xA, xl, xc⟩ := x
  unfold valV
  dsimp only
  have HR := Lib.hid (fun (w' : World) (hb : Below W.heap.size W w') => (hr.below hb).more hb.size)
  have HVX := Lib.hid (fun (w' : World) (hb : Below W.heap.size W w') => hx.below hb fun _ h => h)
  have HA := Lib.hid hA
  have HLM := Lib.hid hlm
  have hlm' := hlm
  unfold maxLen at hlm'
  obtain ⟨T1, hT1⟩ : ∃ r, takeF l ref a b = r := ⟨_, rfl⟩
  obtain ⟨T2, hT2⟩ : ∃ r, giveF l ref a b = r := ⟨_, rfl⟩
  obtain ⟨T3, hT3⟩ : ∃ r, forkF l ref tt a b = r := ⟨_, rfl⟩
  obtain ⟨T4, hT4⟩ : ∃ r, joinF l ref tt = r := ⟨_, rfl⟩
  obtain ⟨E1, L1⟩ := T1
  obtain ⟨E2, L2⟩ := T2
  obtain ⟨E3, L3⟩ := T3
  obtain ⟨E4, L4⟩ := T4
  have H1 := Lib.hid (fun (w' : World) (hb : Below W.heap.size W w') => by have h := limtake_any A c l ref a b w' (HR.out w' hb) hA hlm; rw [hT1] at h; exact h)
  have H2 := Lib.hid (fun (w' : World) (hb : Below W.heap.size W w') => by have h := limgive_any A c l ref a b w' (HR.out w' hb) hA hlm; rw [hT2] at h; exact h)
  have H3 := Lib.hid (fun (w' : World) (hb : Below W.heap.size W w') => by have h := limfork_any A c l ref tt a b w' (HR.out w' hb) hA hlm; rw [hT3] at h; exact h)
  have H4 := Lib.hid (fun (w' : World) (hb : Below W.heap.size W w') => by have h := limjoin_any A c l ref tt w' (HR.out w' hb) hA hlm; rw [hT4] at h; exact h)
  have HT1 := Lib.hid hT1
  have HT2 := Lib.hid hT2
  have HT3 := Lib.hid hT3
  have HT4 := Lib.hid hT4
  have HB0 := Lib.hid ((Below.refl W.heap.size W).alloc (Nat.le_refl _) (.cells #[.int .i64 xk, .int .i64 xm, .string xt, .slice xA xl xc] 26))
  have HBX := Lib.hid (Box.new W 26 #[.int .i64 xk, .int .i64 xm, .string xt, .slice xA xl xc])
  clear hx hr hA hlm hT1 hT2 hT3 hT4
  go_enter Try.func6, Try.ntmps6
  go_upto_region 1 with fail
  generalize W.alloc (.cells #[.int .i64 xk, .int .i64 xm, .string xt, .slice xA xl xc] 26) = w0 at *
  have hbx := HBX.out
  obtain ⟨x0, x1, x2, x3, _⟩ := own_cells4 hbx
  have hfl := flatV_any n ⟨xk, xm, xt, xA, xl, xc⟩ v w0 _ (HVX.out w0 HB0.out)
  unfold valV at hfl
  dsimp only at hfl
  have HFL := Lib.hid hfl
  clear hfl hbx
  go_wp2_with fail
  refine HFL.out.mono ?_
  rintro e w1 ⟨⟨q, rfl⟩, hb1⟩
  have HB1 := Lib.hid (HB0.out.trans (hb1.mono HB0.out.size))
  have hbx := HBX.out.below hb1 HBX.out.lt
  have HBX1 := Lib.hid hbx
  clear hb1 HFL x0 x1 x2 x3 hbx
  go_upto_if 33 with fail
  go_cut [33] from 33 to 42 (fun _ wx => Below W.heap.size W wx)
  case first =>
    cases q
    · as_aux_lemma =>
      go_wp2_with fail
      go_meet
      exact HB1.out
    · as_aux_lemma =>
      have hbx := HBX1.out
      obtain ⟨x0, x1, x2, x3, _⟩ := own_cells4 hbx
      have hdm := deep_many n ⟨xk, xm, xt, xA, xl, xc⟩ v w1 _ (HVX.out w1 HB1.out)
      unfold valV at hdm
      dsimp only at hdm
      have HDM := Lib.hid hdm
      have HCM := Lib.hid (fun (w' : World) (hb : Below W.heap.size W w') => by
        have h := cells_many n ⟨xk, xm, xt, xA, xl, xc⟩ v w' _ (HVX.out w' hb)
        unfold valV at h
        exact h)
      generalize manyN n v = mm at *
      clear hdm hbx
      go_wp2_with fail
      refine HDM.out.mono ?_
      rintro e w2 ⟨⟨dd, rfl⟩, hb2⟩
      have HB2 := Lib.hid (HB1.out.trans (hb2.mono HB1.out.size))
      have hbx := HBX1.out.below hb2 HBX1.out.lt
      obtain ⟨y0, y1, y2, y3, _⟩ := own_cells4 hbx
      clear hb2 hbx x0 x1 x2 x3
      go_wp2_with fail
      refine (HCM.out w2 HB2.out).mono ?_
      rintro e w3 ⟨rfl, hb3⟩
      have HB3 := Lib.hid (HB2.out.trans (hb3.mono HB2.out.size))
      clear hb3 y0 y1 y2 y3
      go_wp2_with fail
      go_meet
      exact HB3.out
  case rest =>
  obtain ⟨w3, hw3⟩ : ∃ w3, w3 = wc := ⟨_, rfl⟩
  subst hw3
  have HB3 := Lib.hid hcut
  clear hcut HB1 HBX1 HBX HB0 HVX
  go_wp2_with fail
  refine (H1.out w3 HB3.out).mono ?_
  rintro e w4 ⟨A1, c1, rfl, hr1, hl1, hb1⟩
  have HB4 := Lib.hid (HB3.out.trans (hb1.mono HB3.out.size))
  have HR1 := Lib.hid (fun (w' : World) (hb : Below w4.heap.size w4 w') => (hr1.below hb).more hb.size)
  have HL1 := Lib.hid hl1
  clear hr1 hl1 hb1 H1
  go_wp2_with fail
  refine (H2.out w4 HB4.out).mono ?_
  rintro e w5 ⟨A2, c2, rfl, hr2, hl2, hb2⟩
  have HB5 := Lib.hid (HB4.out.trans (hb2.mono HB4.out.size))
  have HR2 := Lib.hid (fun (w' : World) (hb : Below w5.heap.size w5 w') => (hr2.below hb).more hb.size)
  have HL2 := Lib.hid hl2
  have HR1 := Lib.hid (fun (w' : World) (hb : Below w5.heap.size w5 w') => HR1.out w' ((hb2.trans (hb.mono hb2.size))))
  clear hr2 hl2 hb2 H2
  go_wp2_with fail
  refine (H3.out w5 HB5.out).mono ?_
  rintro e w6 ⟨A3, c3, rfl, hr3, hl3, hb3⟩
  have HB6 := Lib.hid (HB5.out.trans (hb3.mono HB5.out.size))
  have HR3 := Lib.hid (fun (w' : World) (hb : Below w6.heap.size w6 w') => (hr3.below hb).more hb.size)
  have HL3 := Lib.hid hl3
  have HR1 := Lib.hid (fun (w' : World) (hb : Below w6.heap.size w6 w') => HR1.out w' ((hb3.trans (hb.mono hb3.size))))
  have HR2 := Lib.hid (fun (w' : World) (hb : Below w6.heap.size w6 w') => HR2.out w' ((hb3.trans (hb.mono hb3.size))))
  clear hr3 hl3 hb3 H3
  go_wp2_with fail
  refine (H4.out w6 HB6.out).mono ?_
  rintro e w7 ⟨A4, c4, rfl, hr4, hl4, hb4⟩
  have HB7 := Lib.hid (HB6.out.trans (hb4.mono HB6.out.size))
  have HR4 := Lib.hid (fun (w' : World) (hb : Below w7.heap.size w7 w') => (hr4.below hb).more hb.size)
  have HL4 := Lib.hid hl4
  have HR1 := Lib.hid (fun (w' : World) (hb : Below w7.heap.size w7 w') => HR1.out w' ((hb4.trans (hb.mono hb4.size))))
  have HR2 := Lib.hid (fun (w' : World) (hb : Below w7.heap.size w7 w') => HR2.out w' ((hb4.trans (hb.mono hb4.size))))
  have HR3 := Lib.hid (fun (w' : World) (hb : Below w7.heap.size w7 w') => HR3.out w' ((hb4.trans (hb.mono hb4.size))))
  clear hr4 hl4 hb4 H4
  have HFT := Lib.hid (lmfault_any A c l w7 (HR.out w7 HB7.out) HLM.out)
  have HCK := Lib.hid (fun (w' : World) (hb : Below W.heap.size W w') => lmcheck_any A c l w' (HR.out w' hb) HLM.out)
  have HAT := Lib.hid (fun (w' : World) (hb : Below W.heap.size W w') (m : Int) => limitAt_any m A c l w' (HR.out w' hb) HLM.out)
  go_wp2_with fail
  refine HFT.out.mono ?_
  rintro e w8 ⟨rfl, hb8⟩
  have HB8 := Lib.hid (HB7.out.trans (hb8.mono HB7.out.size))
  have HH8 := Lib.hid hb8
  clear hb8 HFT
  go_wp2_with fail
  refine (HCK.out w8 HB8.out).mono ?_
  rintro e w9 ⟨rfl, hb9⟩
  have HB9 := Lib.hid (HB8.out.trans (hb9.mono HB8.out.size))
  have HH9 := Lib.hid (HH8.out.trans (hb9.mono HH8.out.size))
  clear hb9 HCK HH8 HB8
  go_wp2_with fail
  refine (HAT.out w9 HB9.out ref).mono ?_
  rintro e w10 ⟨rfl, hb10⟩
  have HB10 := Lib.hid (HB9.out.trans (hb10.mono HB9.out.size))
  have HH10 := Lib.hid (HH9.out.trans (hb10.mono HH9.out.size))
  clear hb10 HH9 HB9
  go_wp2_with fail
  refine (HAT.out w10 HB10.out tt).mono ?_
  rintro e w11 ⟨rfl, hb11⟩
  have HB11 := Lib.hid (HB10.out.trans (hb11.mono HB10.out.size))
  have HH11 := Lib.hid (HH10.out.trans (hb11.mono HH10.out.size))
  clear hb11 HH10 HB10 HAT HB3 HB4 HB5 HB6
  by_cases hB : beginE l ref = 0
  case neg =>
    as_aux_lemma =>
      have e1 : E1 = beginE l ref ∧ L1 = [] := by have h := HT1.out; unfold takeF at h; rw [if_pos hB] at h; injection h with h1 h2; exact ⟨h1.symm, h2.symm⟩
      have e2 : E2 = beginE l ref ∧ L2 = [] := by have h := HT2.out; unfold giveF at h; rw [if_pos hB] at h; injection h with h1 h2; exact ⟨h1.symm, h2.symm⟩
      have e3 : E3 = beginE l ref ∧ L3 = [] := by have h := HT3.out; unfold forkF at h; rw [if_pos hB] at h; injection h with h1 h2; exact ⟨h1.symm, h2.symm⟩
      have e4 : E4 = beginE l ref ∧ L4 = [] := by have h := HT4.out; unfold joinF at h; rw [if_pos hB] at h; injection h with h1 h2; exact ⟨h1.symm, h2.symm⟩
      clear HT1 HT2 HT3 HT4
      obtain ⟨rfl, rfl⟩ := e1
      obtain ⟨rfl, rfl⟩ := e2
      obtain ⟨rfl, rfl⟩ := e3
      obtain ⟨rfl, rfl⟩ := e4
      have hq : beginE l ref = if lmF l ≠ 0 then lmF l else if lmAt l ref < 0 then 4 else 0 := rfl
      generalize lmAt l tt = K at *
      generalize lmAt l ref = I at *
      generalize lmF l = f at *
      obtain ⟨E, hE⟩ : ∃ E, beginE l ref = E := ⟨_, rfl⟩
      rw [hE] at hq hB ⊢
      have HE := Lib.hid hq
      have b0 : (E != 0) = true := by simpa using hB
      have b0' : (E == 0) = false := by simpa using hB
      by_cases hf : f = 0
      · subst hf
        have h1 : I < 0 := by
          have h := HE.out
          rw [if_neg (by simp)] at h
          by_cases hI : I < 0
          · exact hI
          · rw [if_neg hI] at h; exact absurd h hB
        have d1 : decide (I < 0) = true := decide_eq_true h1
        obtain rfl : E = 4 := by have h := HE.out; rw [if_neg (by simp), if_pos h1] at h; exact h
        clear hq hB h1 hE HE
        go_wp2_with fail
        go_ret
        exact ⟨rfl, HB11.out⟩
      · have h1 : E = f := by have h := HE.out; rw [if_pos hf] at h; exact h
        subst h1
        have b1 : (E == 0) = false := by simpa using hf
        clear hq hB hE HE hf
        go_wp2_with fail
        go_ret
        exact ⟨rfl, HB11.out⟩
  have HF0 := Lib.hid (begin_zero hB)
  obtain ⟨hok, i, hi, hil⟩ := begin_ok hB
  have hl100 := hok.len
  obtain ⟨k1, k2, k3, k4, k5, k6⟩ := hok.rows _ (getD_mem lm0 hil)
  have hrf := lmAt_ref hi hil
  have h1 := HT1.out
  have h2 := HT2.out
  have h3 := HT3.out
  have h4 := HT4.out
  unfold takeF at h1
  unfold giveF at h2
  unfold forkF at h3
  unfold joinF at h4
  rw [if_neg (by simpa using hB), hi, Int.toNat_natCast] at h1 h2 h3 h4
  obtain ⟨rfl, p1, q1⟩ := res_cases h1
  obtain ⟨rfl, p2, q2⟩ := res_cases h2
  obtain ⟨rfl, p3, q3⟩ := res_cases h3
  obtain ⟨rfl, p4, q4⟩ := res_cases h4
  have HP := Lib.hid (And.intro p1 (And.intro p2 (And.intro p3 p4)))
  have HQ1 := Lib.hid q1
  have HQ2 := Lib.hid q2
  have HQ3 := Lib.hid q3
  have HQ4 := Lib.hid q4
  have HOK := Lib.hid hok
  have HI := Lib.hid hi
  clear h1 h2 h3 h4 p1 p2 p3 p4 q1 q2 q3 q4 HT1 HT2 HT3 HT4 hB hok
  rw [HF0.out, hi]
  clear hi HF0
  obtain ⟨T, hT⟩ : ∃ T, tkE (l.getD i lm0) a b = T := ⟨_, rfl⟩
  obtain ⟨G, hG⟩ : ∃ G, gvE (l.getD i lm0) a b = G := ⟨_, rfl⟩
  obtain ⟨K, hK⟩ : ∃ K, lmAt l tt = K := ⟨_, rfl⟩
  obtain ⟨FK, hFK⟩ : ∃ FK, fkE l (l.getD i lm0) (lmAt l tt) a b = FK := ⟨_, rfl⟩
  obtain ⟨JN, hJN⟩ : ∃ JN, jnE l i (lmAt l tt) = JN := ⟨_, rfl⟩
  rw [hT, hG, hFK, hJN] at HP
  rw [hT] at HQ1
  rw [hG] at HQ2
  rw [hFK] at HQ3
  rw [hJN] at HQ4
  rw [hT, hG, hFK, hJN, hK]
  have HTT := Lib.hid hT
  have HGG := Lib.hid hG
  have HKK := Lib.hid hK
  rw [hK] at hFK hJN
  have HFF := Lib.hid hFK
  have HJJ := Lib.hid hJN
  clear hT hG hFK hJN hK
  obtain ⟨g0, o0, hA0, hg0, c0, c1, c2, c3, c4⟩ := (HR.out w11 HB11.out).lm hil lm0
  subst hA0
  obtain ⟨y, hy⟩ : ∃ y, l.getD i lm0 = y := ⟨_, rfl⟩
  rw [hy] at c0 c1 c2 c3 c4 k1 k2 k3 k4 k5 k6 hrf HTT HGG HFF HQ1 HQ2 HQ3
  have HY := Lib.hid hy
  clear hy
  obtain ⟨y0, y1, y2, y3, y4⟩ := y
  dsimp only at c0 c1 c2 c3 c4 k1 k2 k3 k4 k5 k6 hrf
  subst hrf
  have hi1 : (i : Int) < (l.length : Int) := by omega
  have di : decide ((i : Int) < 0) = false := decide_eq_false (by omega)
  go_upto_region 18 with fail
  have HB12 := Lib.hid (HB11.out.alloc HB11.out.size (.cells #[.int .i64 y0, .int .i64 y1, .int .i64 y2, .int .i64 y3, .int .i64 y4] 89))
  have HH12 := Lib.hid (HH11.out.alloc HH11.out.size (.cells #[.int .i64 y0, .int .i64 y1, .int .i64 y2, .int .i64 y3, .int .i64 y4] 89))
  have HX12 := Lib.hid (Box.new w11 89 #[.int .i64 y0, .int .i64 y1, .int .i64 y2, .int .i64 y3, .int .i64 y4])
  obtain ⟨gr, hgr⟩ : ∃ gr, w11.heap.size = gr := ⟨_, rfl⟩
  rw [hgr] at HX12 ⊢
  clear c0 c1 c2 c3 c4 hgr di
  generalize w11.alloc (.cells #[.int .i64 y0, .int .i64 y1, .int .i64 y2, .int .i64 y3, .int .i64 y4] 89) = w12 at *
  clear HB11 HH11
  obtain ⟨AM, hAM⟩ : ∃ AM, (amt a && amt b) = AM := ⟨_, rfl⟩
  have HAM := Lib.hid hAM
  have HAR := Lib.hid (show AM = true → (0 ≤ a ∧ a ≤ 1073741824) ∧ (0 ≤ b ∧ b ≤ 1073741824) by
    intro h
    rw [← hAM, Bool.and_eq_true, amt_iff, amt_iff] at h
    exact h)
  clear hAM
  go_cut [27] from 131 to 136 (fun v wx => v = .bool AM ∧ w12 = wx)
  case first =>
    have e := HAM.out
    cases ha : amt a
    · obtain rfl : AM = false := by rw [← e, ha]; rfl
      clear e
      as_aux_lemma =>
      go_wp2_with (go_at_call 40; refine (inA_any _ _).mono ?_; rintro e w' ⟨rfl, rfl⟩)
      go_meet
      exact ⟨rfl, rfl⟩
    · obtain rfl : AM = amt b := by rw [← e, ha]; rfl
      clear e
      cases hb : amt b
      all_goals
        as_aux_lemma =>
        go_wp2_with (go_at_call 40; refine (inA_any _ _).mono ?_; rintro e w' ⟨rfl, rfl⟩)
        go_meet
        exact ⟨by rw [hb], rfl⟩
  case rest =>
  obtain ⟨rfl, rfl⟩ := hcut
  have hbx := HX12.out
  have z0 := hbx.cell 0
  have z1 := hbx.cell 1
  have z2 := hbx.cell 2
  have z3 := hbx.cell 3
  have z4 := hbx.cell 4
  simp only [List.getElem?_toArray, List.getElem?_cons_zero, List.getElem?_cons_succ] at z0 z1 z2 z3 z4
  clear hbx

  have hl100' : l.length ≤ 100 := hl100
  go_upto_block 0 with fail
  go_cut [28] from 137 to 155 (fun v wx => v = .int .i64 T ∧ w12 = wx)
  case first =>
    as_aux_lemma =>
      have e := HTT.out
      unfold tkE at e
      dsimp only at e
      rw [HAM.out] at e
      cases AM
      · rw [if_pos rfl] at e
        subst e
        go_wp2_with fail
        go_meet
        exact ⟨rfl, rfl⟩
      rw [if_neg (by decide)] at e
      obtain ⟨⟨a1, a2⟩, b1, b2⟩ := HAR.out rfl
      by_cases u2 : y3 < y1 + a
      · rw [if_pos u2] at e
        subst e
        have f2 : decide (y3 < y1 + a) = true := decide_eq_true u2
        go_wp2_with fail
        go_meet
        exact ⟨rfl, rfl⟩
      rw [if_neg u2] at e
      have f2 : decide (y3 < y1 + a) = false := decide_eq_false u2
      by_cases u3 : y4 < y2 + b
      · rw [if_pos u3] at e
        subst e
        have f3 : decide (y4 < y2 + b) = true := decide_eq_true u3
        go_wp2_with fail
        go_meet
        exact ⟨rfl, rfl⟩
      rw [if_neg u3] at e
      have f3 : decide (y4 < y2 + b) = false := decide_eq_false u3
      subst e
      go_wp2_with fail
      go_meet
      exact ⟨rfl, rfl⟩
  case rest =>
  obtain ⟨rfl, rfl⟩ := hcut
  obtain ⟨gb, hgb⟩ : ∃ gb : Bool, gb = decide ((amt a && amt b) = false ∨ y1 < a ∨ y2 < b) := ⟨_, rfl⟩
  have HGB := Lib.hid hgb
  have HG1 := Lib.hid (show G = if gb = true then 1 else 0 by
    rw [← HGG.out, hgb]
    unfold gvE
    dsimp only
    by_cases h : (amt a && amt b) = false ∨ y1 < a ∨ y2 < b
    · rw [if_pos h, decide_eq_true h, if_pos rfl]
    · rw [if_neg h, decide_eq_false h, if_neg (by decide)])
  clear hgb
  go_upto_region 26 with fail
  go_cut [169] from 156 to 169 (fun v wx => v = .bool gb ∧ w12 = wx)
  case first =>
    as_aux_lemma =>
      have e := HGB.out
      rw [HAM.out] at e
      cases AM
      · rw [decide_eq_true (.inl rfl)] at e
        subst e
        go_wp2_with fail
        go_meet
        exact ⟨rfl, rfl⟩
      by_cases u2 : y1 < a
      · rw [decide_eq_true (.inr (.inl u2))] at e
        subst e
        have f2 : decide (y1 < a) = true := decide_eq_true u2
        go_wp2_with fail
        go_meet
        exact ⟨rfl, rfl⟩
      have f2 : decide (y1 < a) = false := decide_eq_false u2
      by_cases u3 : y2 < b
      · rw [decide_eq_true (.inr (.inr u3))] at e
        subst e
        have f3 : decide (y2 < b) = true := decide_eq_true u3
        go_wp2_with fail
        go_meet
        exact ⟨rfl, rfl⟩
      rw [decide_eq_false (by rintro (h | h | h); cases h; exact u2 h; exact u3 h)] at e
      have f3 : decide (y2 < b) = false := decide_eq_false u3
      subst e
      go_wp2_with fail
      go_meet
      exact ⟨rfl, rfl⟩
  case rest =>
  obtain ⟨rfl, rfl⟩ := hcut
  go_upto_if 169 with fail
  go_cut [29] from 169 to 169 (fun v wx => v = .int .i64 G ∧ w12 = wx)
  case first =>
    as_aux_lemma =>
      have e := HG1.out
      cases gb
      · rw [if_neg (by decide)] at e
        subst e
        go_wp2_with fail
        go_meet
        exact ⟨rfl, rfl⟩
      · rw [if_pos rfl] at e
        subst e
        go_wp2_with fail
        go_meet
        exact ⟨rfl, rfl⟩
  case rest =>
  obtain ⟨rfl, rfl⟩ := hcut
  clear HGB HG1
  go_upto_block 1 with fail
  go_cut [30] from 170 to 180 (fun v wx => v = .int .i64 FK ∧ w12 = wx)
  case first =>
    as_aux_lemma =>
      have e := HFF.out
      unfold fkE at e
      rw [HTT.out] at e
      by_cases u0 : 0 ≤ K
      · rw [if_pos u0] at e
        subst e
        have f0 : decide (0 ≤ K) = true := decide_eq_true u0
        go_wp2_with fail
        go_meet
        exact ⟨rfl, rfl⟩
      rw [if_neg u0] at e
      have f0 : decide (0 ≤ K) = false := decide_eq_false u0
      by_cases u1 : T = 0
      · rw [if_neg (by simpa using u1)] at e
        have b1 : (T != 0) = false := by simpa using u1
        by_cases u2 : l.length = 100
        · rw [if_pos u2] at e
          subst e
          have f5 : ((l.length : Int) == 100) = true := by simp; omega
          have f5' : (l.length == 100) = true := by simp; omega
          clear u1 u2
          go_wp2_with fail
          go_meet
          exact ⟨rfl, rfl⟩
        · rw [if_neg u2] at e
          subst e
          have f5 : ((l.length : Int) == 100) = false := by simp; omega
          have f5' : (l.length == 100) = false := by simp; omega
          clear u1
          go_wp2_with fail
          go_meet
          exact ⟨rfl, rfl⟩
      · rw [if_pos u1] at e
        have b1 : (T != 0) = true := by simpa using u1
        subst e
        go_wp2_with fail
        go_meet
        exact ⟨rfl, rfl⟩
  case rest =>
  obtain ⟨rfl, rfl⟩ := hcut
  go_upto_block 2 with fail
  go_cut [31] from 181 to 208 (fun v wx => v = .int .i64 JN ∧ ∃ m, w12.drewN m = wx)
  case first =>
    as_aux_lemma =>
      have e := HJJ.out
      unfold jnE at e
      by_cases u0 : K < 0
      · rw [if_pos u0] at e
        subst e
        have f0 : decide (K < 0) = true := decide_eq_true u0
        go_wp2_with fail
        go_meet
        exact ⟨rfl, 0, rfl⟩
      rw [if_neg u0] at e
      have f0 : decide (K < 0) = false := decide_eq_false u0
      have hrange := lmAt_range l tt
      rw [HKK.out] at hrange
      obtain ⟨k, rfl, hkl⟩ : ∃ k : Nat, K = (k : Int) ∧ k < l.length := by
        rcases hrange with h | h
        · omega
        · exact h
      clear hrange
      by_cases u1 : (k : Int) = (i : Int)
      · rw [if_pos u1] at e
        subst e
        have f1 : ((k : Int) == (i : Int)) = true := by simpa using u1
        have f1' : (k == i) = true := by simp; omega
        clear u1
        go_wp2_with fail
        go_meet
        exact ⟨rfl, 0, rfl⟩
      rw [if_neg u1, Int.toNat_natCast, HY.out] at e
      have f1 : ((k : Int) == (i : Int)) = false := by simpa using u1
      have f1' : (k == i) = false := by simp; omega
      have hk1 : (k : Int) < (l.length : Int) := by omega
      obtain ⟨j1, j2, j3, j4, j5, j6⟩ := HOK.out.rows _ (getD_mem lm0 hkl)
      obtain ⟨gg, oo, hgo, hgl, d0, d1, d2, d3, d4⟩ := (HR.out w12 HB12.out).lm hkl lm0
      injection hgo with hgo
      injection hgo with hgo1 hgo2
      subst hgo1 hgo2
      generalize l.getD k lm0 = z at *
      obtain ⟨s0, s1, s2, s3, s4⟩ := z
      dsimp only at d0 d1 d2 d3 d4 j1 j2 j3 j4 j5 j6 e
      have t3 : 0 ≤ y3 := by omega
      have t4 : 0 ≤ y4 := by omega
      have v3 : 0 ≤ s3 := by omega
      have v4 : 0 ≤ s4 := by omega
      clear d0 d1 d2 j1 j2 j4 j5
      by_cases u2 : 1073741824 < y3 + s3
      · rw [if_pos (.inl u2)] at e
        subst e
        have f2 : decide (1073741824 < y3 + s3) = true := decide_eq_true u2
        go_wp2_with fail
        have hw3 : IntKind.i64.wrap (y3 + s3) = y3 + s3 := by rw [IntKind.wrap_i64]; omega
        go_quiet (fail)
        clear hw3
        go_wp2_with fail
        go_meet
        exact ⟨rfl, _, rfl⟩
      have f2 : decide (1073741824 < y3 + s3) = false := decide_eq_false u2
      by_cases u3 : 1073741824 < y4 + s4
      · rw [if_pos (.inr u3)] at e
        subst e
        have f3 : decide (1073741824 < y4 + s4) = true := decide_eq_true u3
        go_wp2_with fail
        have hw3 : IntKind.i64.wrap (y3 + s3) = y3 + s3 := by rw [IntKind.wrap_i64]; omega
        have hw4 : IntKind.i64.wrap (y4 + s4) = y4 + s4 := by rw [IntKind.wrap_i64]; omega
        go_quiet (fail)
        clear hw3 hw4
        go_wp2_with fail
        go_meet
        exact ⟨rfl, _, rfl⟩
      have f3 : decide (1073741824 < y4 + s4) = false := decide_eq_false u3
      rw [if_neg (by rintro (h | h); exact u2 h; exact u3 h)] at e
      subst e
      go_wp2_with fail
      have hw3 : IntKind.i64.wrap (y3 + s3) = y3 + s3 := by rw [IntKind.wrap_i64]; omega
      have hw4 : IntKind.i64.wrap (y4 + s4) = y4 + s4 := by rw [IntKind.wrap_i64]; omega
      go_quiet (fail)
      clear hw3 hw4
      go_wp2_with fail
      go_meet
      exact ⟨rfl, _, rfl⟩
  case rest =>
  obtain ⟨rfl, m12, rfl⟩ := hcut
  have HB13 := Lib.hid (below_drewN HB12.out m12)
  have HH13 := Lib.hid (below_drewN HH12.out m12)
  have z0' : (w12.drewN m12).cell? ⟨gr, 0, none⟩ = some (.int .i64 y0) := z0
  have z1' : (w12.drewN m12).cell? ⟨gr, 1, none⟩ = some (.int .i64 y1) := z1
  have z2' : (w12.drewN m12).cell? ⟨gr, 2, none⟩ = some (.int .i64 y2) := z2
  have z3' : (w12.drewN m12).cell? ⟨gr, 3, none⟩ = some (.int .i64 y3) := z3
  have z4' : (w12.drewN m12).cell? ⟨gr, 4, none⟩ = some (.int .i64 y4) := z4
  have HX13 := Lib.hid (HX12.out.drewN m12)
  clear z0 z1 z2 z3 z4 HB12 HH12 HX12
  generalize w12.drewN m12 = w13 at *
  obtain ⟨n1, hn1⟩ : ∃ n, L1.length = n := ⟨_, rfl⟩
  obtain ⟨n2, hn2⟩ : ∃ n, L2.length = n := ⟨_, rfl⟩
  obtain ⟨n3, hn3⟩ : ∃ n, L3.length = n := ⟨_, rfl⟩
  obtain ⟨n4, hn4⟩ : ∃ n, L4.length = n := ⟨_, rfl⟩
  rw [hn1, hn2, hn3, hn4]
  have HN1 := Lib.hid hn1
  have HN2 := Lib.hid hn2
  have HN3 := Lib.hid hn3
  have HN4 := Lib.hid hn4
  have HN := Lib.hid (show (T ≠ 0 → n1 = 0) ∧ (G ≠ 0 → n2 = 0) ∧ (FK ≠ 0 → n3 = 0) ∧ (JN ≠ 0 → n4 = 0) from
    ⟨fun h => by rw [← hn1, HP.out.1 h]; rfl, fun h => by rw [← hn2, HP.out.2.1 h]; rfl, fun h => by rw [← hn3, HP.out.2.2.1 h]; rfl, fun h => by rw [← hn4, HP.out.2.2.2 h]; rfl⟩)
  clear hn1 hn2 hn3 hn4 HP
  go_upto_region 40 with fail
  go_cut [262] from 209 to 262 (fun v wx => v = .bool false ∧ w13 = wx)
  case first =>
    as_aux_lemma =>
      obtain ⟨hN1, hN2, hN3, hN4⟩ := HN.out
      by_cases hT : T = 0
      · have b1 : (T != 0) = false := by simpa using hT
        clear hT hN1
        by_cases hG : G = 0
        · have b2 : (G != 0) = false := by simpa using hG
          clear hG hN2
          by_cases hF : FK = 0
          · have b3 : (FK != 0) = false := by simpa using hF
            clear hF hN3
            by_cases hJ : JN = 0
            · have b4 : (JN != 0) = false := by simpa using hJ
              clear hJ hN4
              as_aux_lemma =>
              go_wp2_with fail
              go_meet
              exact ⟨rfl, rfl⟩
            · have b4 : (JN != 0) = true := by simpa using hJ
              obtain rfl := hN4 hJ
              clear hJ
              as_aux_lemma =>
              go_wp2_with fail
              go_meet
              exact ⟨rfl, rfl⟩
          · have b3 : (FK != 0) = true := by simpa using hF
            obtain rfl := hN3 hF
            clear hF
            by_cases hJ : JN = 0
            · have b4 : (JN != 0) = false := by simpa using hJ
              clear hJ hN4
              as_aux_lemma =>
              go_wp2_with fail
              go_meet
              exact ⟨rfl, rfl⟩
            · have b4 : (JN != 0) = true := by simpa using hJ
              obtain rfl := hN4 hJ
              clear hJ
              as_aux_lemma =>
              go_wp2_with fail
              go_meet
              exact ⟨rfl, rfl⟩
        · have b2 : (G != 0) = true := by simpa using hG
          obtain rfl := hN2 hG
          clear hG
          by_cases hF : FK = 0
          · have b3 : (FK != 0) = false := by simpa using hF
            clear hF hN3
            by_cases hJ : JN = 0
            · have b4 : (JN != 0) = false := by simpa using hJ
              clear hJ hN4
              as_aux_lemma =>
              go_wp2_with fail
              go_meet
              exact ⟨rfl, rfl⟩
            · have b4 : (JN != 0) = true := by simpa using hJ
              obtain rfl := hN4 hJ
              clear hJ
              as_aux_lemma =>
              go_wp2_with fail
              go_meet
              exact ⟨rfl, rfl⟩
          · have b3 : (FK != 0) = true := by simpa using hF
            obtain rfl := hN3 hF
            clear hF
            by_cases hJ : JN = 0
            · have b4 : (JN != 0) = false := by simpa using hJ
              clear hJ hN4
              as_aux_lemma =>
              go_wp2_with fail
              go_meet
              exact ⟨rfl, rfl⟩
            · have b4 : (JN != 0) = true := by simpa using hJ
              obtain rfl := hN4 hJ
              clear hJ
              as_aux_lemma =>
              go_wp2_with fail
              go_meet
              exact ⟨rfl, rfl⟩
      · have b1 : (T != 0) = true := by simpa using hT
        obtain rfl := hN1 hT
        clear hT
        by_cases hG : G = 0
        · have b2 : (G != 0) = false := by simpa using hG
          clear hG hN2
          by_cases hF : FK = 0
          · have b3 : (FK != 0) = false := by simpa using hF
            clear hF hN3
            by_cases hJ : JN = 0
            · have b4 : (JN != 0) = false := by simpa using hJ
              clear hJ hN4
              as_aux_lemma =>
              go_wp2_with fail
              go_meet
              exact ⟨rfl, rfl⟩
            · have b4 : (JN != 0) = true := by simpa using hJ
              obtain rfl := hN4 hJ
              clear hJ
              as_aux_lemma =>
              go_wp2_with fail
              go_meet
              exact ⟨rfl, rfl⟩
          · have b3 : (FK != 0) = true := by simpa using hF
            obtain rfl := hN3 hF
            clear hF
            by_cases hJ : JN = 0
            · have b4 : (JN != 0) = false := by simpa using hJ
              clear hJ hN4
              as_aux_lemma =>
              go_wp2_with fail
              go_meet
              exact ⟨rfl, rfl⟩
            · have b4 : (JN != 0) = true := by simpa using hJ
              obtain rfl := hN4 hJ
              clear hJ
              as_aux_lemma =>
              go_wp2_with fail
              go_meet
              exact ⟨rfl, rfl⟩
        · have b2 : (G != 0) = true := by simpa using hG
          obtain rfl := hN2 hG
          clear hG
          by_cases hF : FK = 0
          · have b3 : (FK != 0) = false := by simpa using hF
            clear hF hN3
            by_cases hJ : JN = 0
            · have b4 : (JN != 0) = false := by simpa using hJ
              clear hJ hN4
              as_aux_lemma =>
              go_wp2_with fail
              go_meet
              exact ⟨rfl, rfl⟩
            · have b4 : (JN != 0) = true := by simpa using hJ
              obtain rfl := hN4 hJ
              clear hJ
              as_aux_lemma =>
              go_wp2_with fail
              go_meet
              exact ⟨rfl, rfl⟩
          · have b3 : (FK != 0) = true := by simpa using hF
            obtain rfl := hN3 hF
            clear hF
            by_cases hJ : JN = 0
            · have b4 : (JN != 0) = false := by simpa using hJ
              clear hJ hN4
              as_aux_lemma =>
              go_wp2_with fail
              go_meet
              exact ⟨rfl, rfl⟩
            · have b4 : (JN != 0) = true := by simpa using hJ
              obtain rfl := hN4 hJ
              clear hJ
              as_aux_lemma =>
              go_wp2_with fail
              go_meet
              exact ⟨rfl, rfl⟩
  case rest =>
  obtain ⟨rfl, rfl⟩ := hcut
  clear z0' z1' z2' z3' z4'
  go_upto_region 42 with fail
  simp only [List.append_eq, List.cons_append, List.nil_append]
  have HC1 := Lib.hid (lm_c1 HR.out HA.out hil hl100' HTT.out HAM.out HAR.out ⟨k1, Int.le_trans k2 k3⟩ ⟨k4, Int.le_trans k5 k6⟩ HQ1.out)
  have HC2 := Lib.hid (lm_c2 HR.out HA.out hil hl100' HGG.out HAM.out HAR.out ⟨k1, Int.le_trans k2 k3⟩ ⟨k4, Int.le_trans k5 k6⟩ HQ2.out)
  have HK3 := Lib.hid (lm_fk HFF.out HTT.out hl100')
  have HC3 := Lib.hid (lm_c3 HR.out HA.out hil HOK.out HTT.out HAM.out HAR.out (by rw [HKK.out]; exact HFF.out) HY.out HQ3.out)
  have HK4 := Lib.hid (lm_jn HJJ.out)
  have HC4 := Lib.hid (lm_c4 HR.out HA.out hil HOK.out HKK.out HJJ.out HQ4.out)
  clear HFF HTT HGG HKK HAR HAM HOK HQ1 HQ2 HQ3 HQ4 HJJ HY HN HR HA HI hil hl100 hi1 hlm' HLM k1 k2 k3 k4 k5 k6 hl100' hg0


  by_cases hT : T = 0
  · have b1 : (T != 0) = false := by simpa using hT
    have H0T := Lib.hid hT
    clear hT
    by_cases hG : G = 0
    · have b2 : (G != 0) = false := by simpa using hG
      have H0G := Lib.hid hG
      clear hG
      by_cases hF : FK = 0
      · have b3 : (FK != 0) = false := by simpa using hF
        have H0FK := Lib.hid hF
        clear hF
        by_cases hJ : JN = 0
        · have b4 : (JN != 0) = false := by simpa using hJ
          exact absurd (HK4.out hJ) (by have := (HK3.out H0FK.out).1; omega)
        · have b4 : (JN != 0) = true := by simpa using hJ
          have H1JN := Lib.hid hJ
          clear hJ
          have z11 := HX13.out.cell 1
          have z12 := HX13.out.cell 2
          have z13 := HX13.out.cell 3
          have z14 := HX13.out.cell 4
          simp only [List.getElem?_toArray, List.getElem?_cons_zero, List.getElem?_cons_succ] at z11 z12 z13 z14
          go_wp2_with fail
          refine (HC1.out _ HB13.out H0T.out).mono ?_
          rintro e w14 ⟨g1, o1, d1, he, hown, hb⟩
          have HB14 := Lib.hid (HB13.out.trans (hb.mono HB13.out.size))
          have HH14 := Lib.hid (HH13.out.trans (hb.mono HH13.out.size))
          have HX14 := Lib.hid (HX13.out.below hb HX13.out.lt)
          have hsm := same_lm L1 A1 c1 g1 o1 d1 _ w14 w14 w14 (HR1.out w14 HH14.out) (Below.refl _ _) hown (Below.refl _ _) HL1.out
          rw [HN1.out] at he hsm
          subst he
          have HSM := Lib.hid hsm
          clear hown hb hsm z11 z12 z13 z14
          go_wp2_with fail
          refine HSM.out.mono ?_
          rintro e w15' ⟨rfl, m1, rfl⟩
          have HB15 := Lib.hid (below_drewN HB14.out m1)
          have HH15 := Lib.hid (below_drewN HH14.out m1)
          have HX15 := Lib.hid (HX14.out.drewN m1)
          clear HSM
          generalize w14.drewN m1 = w15 at HB15 HH15 HX15 ⊢
          have z21 := HX15.out.cell 1
          have z22 := HX15.out.cell 2
          have z23 := HX15.out.cell 3
          have z24 := HX15.out.cell 4
          simp only [List.getElem?_toArray, List.getElem?_cons_zero, List.getElem?_cons_succ] at z21 z22 z23 z24
          go_wp2_with fail
          refine (HC2.out _ HB15.out H0G.out).mono ?_
          rintro e w16 ⟨g2, o2, d2, he, hown, hb⟩
          have HB16 := Lib.hid (HB15.out.trans (hb.mono HB15.out.size))
          have HH16 := Lib.hid (HH15.out.trans (hb.mono HH15.out.size))
          have HX16 := Lib.hid (HX15.out.below hb HX15.out.lt)
          have hsm := same_lm L2 A2 c2 g2 o2 d2 _ w16 w16 w16 (HR2.out w16 HH16.out) (Below.refl _ _) hown (Below.refl _ _) HL2.out
          rw [HN2.out] at he hsm
          subst he
          have HSM := Lib.hid hsm
          clear hown hb hsm z21 z22 z23 z24
          go_wp2_with fail
          refine HSM.out.mono ?_
          rintro e w17' ⟨rfl, m2, rfl⟩
          have HB17 := Lib.hid (below_drewN HB16.out m2)
          have HH17 := Lib.hid (below_drewN HH16.out m2)
          have HX17 := Lib.hid (HX16.out.drewN m2)
          clear HSM
          generalize w16.drewN m2 = w17 at HB17 HH17 HX17 ⊢
          go_wp2_with fail
          refine (HC3.out _ HB17.out H0FK.out).mono ?_
          rintro e w18 ⟨g3, o3, d3, he, hown, hb⟩
          have HB18 := Lib.hid (HB17.out.trans (hb.mono HB17.out.size))
          have HH18 := Lib.hid (HH17.out.trans (hb.mono HH17.out.size))
          have HX18 := Lib.hid (HX17.out.below hb HX17.out.lt)
          have hsm := same_lm L3 A3 c3 g3 o3 d3 _ w18 w18 w18 (HR3.out w18 HH18.out) (Below.refl _ _) hown (Below.refl _ _) HL3.out
          rw [HN3.out] at he hsm
          subst he
          have HSM := Lib.hid hsm
          clear hown hb hsm
          go_wp2_with fail
          refine HSM.out.mono ?_
          rintro e w19' ⟨rfl, m3, rfl⟩
          have HB19 := Lib.hid (below_drewN HB18.out m3)
          have HH19 := Lib.hid (below_drewN HH18.out m3)
          have HX19 := Lib.hid (HX18.out.drewN m3)
          clear HSM
          generalize w18.drewN m3 = w19 at HB19 HH19 HX19 ⊢
          go_wp2_with fail
          go_ret
          exact ⟨rfl, HB19.out⟩
      · have b3 : (FK != 0) = true := by simpa using hF
        have H1FK := Lib.hid hF
        clear hF
        by_cases hJ : JN = 0
        · have b4 : (JN != 0) = false := by simpa using hJ
          have H0JN := Lib.hid hJ
          clear hJ
          have z11 := HX13.out.cell 1
          have z12 := HX13.out.cell 2
          have z13 := HX13.out.cell 3
          have z14 := HX13.out.cell 4
          simp only [List.getElem?_toArray, List.getElem?_cons_zero, List.getElem?_cons_succ] at z11 z12 z13 z14
          go_wp2_with fail
          refine (HC1.out _ HB13.out H0T.out).mono ?_
          rintro e w14 ⟨g1, o1, d1, he, hown, hb⟩
          have HB14 := Lib.hid (HB13.out.trans (hb.mono HB13.out.size))
          have HH14 := Lib.hid (HH13.out.trans (hb.mono HH13.out.size))
          have HX14 := Lib.hid (HX13.out.below hb HX13.out.lt)
          have hsm := same_lm L1 A1 c1 g1 o1 d1 _ w14 w14 w14 (HR1.out w14 HH14.out) (Below.refl _ _) hown (Below.refl _ _) HL1.out
          rw [HN1.out] at he hsm
          subst he
          have HSM := Lib.hid hsm
          clear hown hb hsm z11 z12 z13 z14
          go_wp2_with fail
          refine HSM.out.mono ?_
          rintro e w15' ⟨rfl, m1, rfl⟩
          have HB15 := Lib.hid (below_drewN HB14.out m1)
          have HH15 := Lib.hid (below_drewN HH14.out m1)
          have HX15 := Lib.hid (HX14.out.drewN m1)
          clear HSM
          generalize w14.drewN m1 = w15 at HB15 HH15 HX15 ⊢
          have z21 := HX15.out.cell 1
          have z22 := HX15.out.cell 2
          have z23 := HX15.out.cell 3
          have z24 := HX15.out.cell 4
          simp only [List.getElem?_toArray, List.getElem?_cons_zero, List.getElem?_cons_succ] at z21 z22 z23 z24
          go_wp2_with fail
          refine (HC2.out _ HB15.out H0G.out).mono ?_
          rintro e w16 ⟨g2, o2, d2, he, hown, hb⟩
          have HB16 := Lib.hid (HB15.out.trans (hb.mono HB15.out.size))
          have HH16 := Lib.hid (HH15.out.trans (hb.mono HH15.out.size))
          have HX16 := Lib.hid (HX15.out.below hb HX15.out.lt)
          have hsm := same_lm L2 A2 c2 g2 o2 d2 _ w16 w16 w16 (HR2.out w16 HH16.out) (Below.refl _ _) hown (Below.refl _ _) HL2.out
          rw [HN2.out] at he hsm
          subst he
          have HSM := Lib.hid hsm
          clear hown hb hsm z21 z22 z23 z24
          go_wp2_with fail
          refine HSM.out.mono ?_
          rintro e w17' ⟨rfl, m2, rfl⟩
          have HB17 := Lib.hid (below_drewN HB16.out m2)
          have HH17 := Lib.hid (below_drewN HH16.out m2)
          have HX17 := Lib.hid (HX16.out.drewN m2)
          clear HSM
          generalize w16.drewN m2 = w17 at HB17 HH17 HX17 ⊢
          go_wp2_with fail
          refine (HC4.out _ HB17.out H0JN.out).mono ?_
          rintro e w18 ⟨g4, o4, d4, he, hown, hb⟩
          have HB18 := Lib.hid (HB17.out.trans (hb.mono HB17.out.size))
          have HH18 := Lib.hid (HH17.out.trans (hb.mono HH17.out.size))
          have HX18 := Lib.hid (HX17.out.below hb HX17.out.lt)
          have hsm := same_lm L4 A4 c4 g4 o4 d4 _ w18 w18 w18 (HR4.out w18 HH18.out) (Below.refl _ _) hown (Below.refl _ _) HL4.out
          rw [HN4.out] at he hsm
          subst he
          have HSM := Lib.hid hsm
          clear hown hb hsm
          go_wp2_with fail
          refine HSM.out.mono ?_
          rintro e w19' ⟨rfl, m4, rfl⟩
          have HB19 := Lib.hid (below_drewN HB18.out m4)
          have HH19 := Lib.hid (below_drewN HH18.out m4)
          have HX19 := Lib.hid (HX18.out.drewN m4)
          clear HSM
          generalize w18.drewN m4 = w19 at HB19 HH19 HX19 ⊢
          go_wp2_with fail
          go_ret
          exact ⟨rfl, HB19.out⟩
        · have b4 : (JN != 0) = true := by simpa using hJ
          have H1JN := Lib.hid hJ
          clear hJ
          have z11 := HX13.out.cell 1
          have z12 := HX13.out.cell 2
          have z13 := HX13.out.cell 3
          have z14 := HX13.out.cell 4
          simp only [List.getElem?_toArray, List.getElem?_cons_zero, List.getElem?_cons_succ] at z11 z12 z13 z14
          go_wp2_with fail
          refine (HC1.out _ HB13.out H0T.out).mono ?_
          rintro e w14 ⟨g1, o1, d1, he, hown, hb⟩
          have HB14 := Lib.hid (HB13.out.trans (hb.mono HB13.out.size))
          have HH14 := Lib.hid (HH13.out.trans (hb.mono HH13.out.size))
          have HX14 := Lib.hid (HX13.out.below hb HX13.out.lt)
          have hsm := same_lm L1 A1 c1 g1 o1 d1 _ w14 w14 w14 (HR1.out w14 HH14.out) (Below.refl _ _) hown (Below.refl _ _) HL1.out
          rw [HN1.out] at he hsm
          subst he
          have HSM := Lib.hid hsm
          clear hown hb hsm z11 z12 z13 z14
          go_wp2_with fail
          refine HSM.out.mono ?_
          rintro e w15' ⟨rfl, m1, rfl⟩
          have HB15 := Lib.hid (below_drewN HB14.out m1)
          have HH15 := Lib.hid (below_drewN HH14.out m1)
          have HX15 := Lib.hid (HX14.out.drewN m1)
          clear HSM
          generalize w14.drewN m1 = w15 at HB15 HH15 HX15 ⊢
          have z21 := HX15.out.cell 1
          have z22 := HX15.out.cell 2
          have z23 := HX15.out.cell 3
          have z24 := HX15.out.cell 4
          simp only [List.getElem?_toArray, List.getElem?_cons_zero, List.getElem?_cons_succ] at z21 z22 z23 z24
          go_wp2_with fail
          refine (HC2.out _ HB15.out H0G.out).mono ?_
          rintro e w16 ⟨g2, o2, d2, he, hown, hb⟩
          have HB16 := Lib.hid (HB15.out.trans (hb.mono HB15.out.size))
          have HH16 := Lib.hid (HH15.out.trans (hb.mono HH15.out.size))
          have HX16 := Lib.hid (HX15.out.below hb HX15.out.lt)
          have hsm := same_lm L2 A2 c2 g2 o2 d2 _ w16 w16 w16 (HR2.out w16 HH16.out) (Below.refl _ _) hown (Below.refl _ _) HL2.out
          rw [HN2.out] at he hsm
          subst he
          have HSM := Lib.hid hsm
          clear hown hb hsm z21 z22 z23 z24
          go_wp2_with fail
          refine HSM.out.mono ?_
          rintro e w17' ⟨rfl, m2, rfl⟩
          have HB17 := Lib.hid (below_drewN HB16.out m2)
          have HH17 := Lib.hid (below_drewN HH16.out m2)
          have HX17 := Lib.hid (HX16.out.drewN m2)
          clear HSM
          generalize w16.drewN m2 = w17 at HB17 HH17 HX17 ⊢
          go_wp2_with fail
          go_ret
          exact ⟨rfl, HB17.out⟩
    · have b2 : (G != 0) = true := by simpa using hG
      have H1G := Lib.hid hG
      clear hG
      by_cases hF : FK = 0
      · have b3 : (FK != 0) = false := by simpa using hF
        have H0FK := Lib.hid hF
        clear hF
        by_cases hJ : JN = 0
        · have b4 : (JN != 0) = false := by simpa using hJ
          exact absurd (HK4.out hJ) (by have := (HK3.out H0FK.out).1; omega)
        · have b4 : (JN != 0) = true := by simpa using hJ
          have H1JN := Lib.hid hJ
          clear hJ
          have z11 := HX13.out.cell 1
          have z12 := HX13.out.cell 2
          have z13 := HX13.out.cell 3
          have z14 := HX13.out.cell 4
          simp only [List.getElem?_toArray, List.getElem?_cons_zero, List.getElem?_cons_succ] at z11 z12 z13 z14
          go_wp2_with fail
          refine (HC1.out _ HB13.out H0T.out).mono ?_
          rintro e w14 ⟨g1, o1, d1, he, hown, hb⟩
          have HB14 := Lib.hid (HB13.out.trans (hb.mono HB13.out.size))
          have HH14 := Lib.hid (HH13.out.trans (hb.mono HH13.out.size))
          have HX14 := Lib.hid (HX13.out.below hb HX13.out.lt)
          have hsm := same_lm L1 A1 c1 g1 o1 d1 _ w14 w14 w14 (HR1.out w14 HH14.out) (Below.refl _ _) hown (Below.refl _ _) HL1.out
          rw [HN1.out] at he hsm
          subst he
          have HSM := Lib.hid hsm
          clear hown hb hsm z11 z12 z13 z14
          go_wp2_with fail
          refine HSM.out.mono ?_
          rintro e w15' ⟨rfl, m1, rfl⟩
          have HB15 := Lib.hid (below_drewN HB14.out m1)
          have HH15 := Lib.hid (below_drewN HH14.out m1)
          have HX15 := Lib.hid (HX14.out.drewN m1)
          clear HSM
          generalize w14.drewN m1 = w15 at HB15 HH15 HX15 ⊢
          go_wp2_with fail
          refine (HC3.out _ HB15.out H0FK.out).mono ?_
          rintro e w16 ⟨g3, o3, d3, he, hown, hb⟩
          have HB16 := Lib.hid (HB15.out.trans (hb.mono HB15.out.size))
          have HH16 := Lib.hid (HH15.out.trans (hb.mono HH15.out.size))
          have HX16 := Lib.hid (HX15.out.below hb HX15.out.lt)
          have hsm := same_lm L3 A3 c3 g3 o3 d3 _ w16 w16 w16 (HR3.out w16 HH16.out) (Below.refl _ _) hown (Below.refl _ _) HL3.out
          rw [HN3.out] at he hsm
          subst he
          have HSM := Lib.hid hsm
          clear hown hb hsm
          go_wp2_with fail
          refine HSM.out.mono ?_
          rintro e w17' ⟨rfl, m3, rfl⟩
          have HB17 := Lib.hid (below_drewN HB16.out m3)
          have HH17 := Lib.hid (below_drewN HH16.out m3)
          have HX17 := Lib.hid (HX16.out.drewN m3)
          clear HSM
          generalize w16.drewN m3 = w17 at HB17 HH17 HX17 ⊢
          go_wp2_with fail
          go_ret
          exact ⟨rfl, HB17.out⟩
      · have b3 : (FK != 0) = true := by simpa using hF
        have H1FK := Lib.hid hF
        clear hF
        by_cases hJ : JN = 0
        · have b4 : (JN != 0) = false := by simpa using hJ
          have H0JN := Lib.hid hJ
          clear hJ
          have z11 := HX13.out.cell 1
          have z12 := HX13.out.cell 2
          have z13 := HX13.out.cell 3
          have z14 := HX13.out.cell 4
          simp only [List.getElem?_toArray, List.getElem?_cons_zero, List.getElem?_cons_succ] at z11 z12 z13 z14
          go_wp2_with fail
          refine (HC1.out _ HB13.out H0T.out).mono ?_
          rintro e w14 ⟨g1, o1, d1, he, hown, hb⟩
          have HB14 := Lib.hid (HB13.out.trans (hb.mono HB13.out.size))
          have HH14 := Lib.hid (HH13.out.trans (hb.mono HH13.out.size))
          have HX14 := Lib.hid (HX13.out.below hb HX13.out.lt)
          have hsm := same_lm L1 A1 c1 g1 o1 d1 _ w14 w14 w14 (HR1.out w14 HH14.out) (Below.refl _ _) hown (Below.refl _ _) HL1.out
          rw [HN1.out] at he hsm
          subst he
          have HSM := Lib.hid hsm
          clear hown hb hsm z11 z12 z13 z14
          go_wp2_with fail
          refine HSM.out.mono ?_
          rintro e w15' ⟨rfl, m1, rfl⟩
          have HB15 := Lib.hid (below_drewN HB14.out m1)
          have HH15 := Lib.hid (below_drewN HH14.out m1)
          have HX15 := Lib.hid (HX14.out.drewN m1)
          clear HSM
          generalize w14.drewN m1 = w15 at HB15 HH15 HX15 ⊢
          go_wp2_with fail
          refine (HC4.out _ HB15.out H0JN.out).mono ?_
          rintro e w16 ⟨g4, o4, d4, he, hown, hb⟩
          have HB16 := Lib.hid (HB15.out.trans (hb.mono HB15.out.size))
          have HH16 := Lib.hid (HH15.out.trans (hb.mono HH15.out.size))
          have HX16 := Lib.hid (HX15.out.below hb HX15.out.lt)
          have hsm := same_lm L4 A4 c4 g4 o4 d4 _ w16 w16 w16 (HR4.out w16 HH16.out) (Below.refl _ _) hown (Below.refl _ _) HL4.out
          rw [HN4.out] at he hsm
          subst he
          have HSM := Lib.hid hsm
          clear hown hb hsm
          go_wp2_with fail
          refine HSM.out.mono ?_
          rintro e w17' ⟨rfl, m4, rfl⟩
          have HB17 := Lib.hid (below_drewN HB16.out m4)
          have HH17 := Lib.hid (below_drewN HH16.out m4)
          have HX17 := Lib.hid (HX16.out.drewN m4)
          clear HSM
          generalize w16.drewN m4 = w17 at HB17 HH17 HX17 ⊢
          go_wp2_with fail
          go_ret
          exact ⟨rfl, HB17.out⟩
        · have b4 : (JN != 0) = true := by simpa using hJ
          have H1JN := Lib.hid hJ
          clear hJ
          have z11 := HX13.out.cell 1
          have z12 := HX13.out.cell 2
          have z13 := HX13.out.cell 3
          have z14 := HX13.out.cell 4
          simp only [List.getElem?_toArray, List.getElem?_cons_zero, List.getElem?_cons_succ] at z11 z12 z13 z14
          go_wp2_with fail
          refine (HC1.out _ HB13.out H0T.out).mono ?_
          rintro e w14 ⟨g1, o1, d1, he, hown, hb⟩
          have HB14 := Lib.hid (HB13.out.trans (hb.mono HB13.out.size))
          have HH14 := Lib.hid (HH13.out.trans (hb.mono HH13.out.size))
          have HX14 := Lib.hid (HX13.out.below hb HX13.out.lt)
          have hsm := same_lm L1 A1 c1 g1 o1 d1 _ w14 w14 w14 (HR1.out w14 HH14.out) (Below.refl _ _) hown (Below.refl _ _) HL1.out
          rw [HN1.out] at he hsm
          subst he
          have HSM := Lib.hid hsm
          clear hown hb hsm z11 z12 z13 z14
          go_wp2_with fail
          refine HSM.out.mono ?_
          rintro e w15' ⟨rfl, m1, rfl⟩
          have HB15 := Lib.hid (below_drewN HB14.out m1)
          have HH15 := Lib.hid (below_drewN HH14.out m1)
          have HX15 := Lib.hid (HX14.out.drewN m1)
          clear HSM
          generalize w14.drewN m1 = w15 at HB15 HH15 HX15 ⊢
          go_wp2_with fail
          go_ret
          exact ⟨rfl, HB15.out⟩
  · have b1 : (T != 0) = true := by simpa using hT
    have H1T := Lib.hid hT
    clear hT
    by_cases hG : G = 0
    · have b2 : (G != 0) = false := by simpa using hG
      have H0G := Lib.hid hG
      clear hG
      by_cases hF : FK = 0
      · have b3 : (FK != 0) = false := by simpa using hF
        exact absurd (HK3.out hF).2.1 H1T.out
      · have b3 : (FK != 0) = true := by simpa using hF
        have H1FK := Lib.hid hF
        clear hF
        by_cases hJ : JN = 0
        · have b4 : (JN != 0) = false := by simpa using hJ
          have H0JN := Lib.hid hJ
          clear hJ
          have z21 := HX13.out.cell 1
          have z22 := HX13.out.cell 2
          have z23 := HX13.out.cell 3
          have z24 := HX13.out.cell 4
          simp only [List.getElem?_toArray, List.getElem?_cons_zero, List.getElem?_cons_succ] at z21 z22 z23 z24
          go_wp2_with fail
          refine (HC2.out _ HB13.out H0G.out).mono ?_
          rintro e w14 ⟨g2, o2, d2, he, hown, hb⟩
          have HB14 := Lib.hid (HB13.out.trans (hb.mono HB13.out.size))
          have HH14 := Lib.hid (HH13.out.trans (hb.mono HH13.out.size))
          have HX14 := Lib.hid (HX13.out.below hb HX13.out.lt)
          have hsm := same_lm L2 A2 c2 g2 o2 d2 _ w14 w14 w14 (HR2.out w14 HH14.out) (Below.refl _ _) hown (Below.refl _ _) HL2.out
          rw [HN2.out] at he hsm
          subst he
          have HSM := Lib.hid hsm
          clear hown hb hsm z21 z22 z23 z24
          go_wp2_with fail
          refine HSM.out.mono ?_
          rintro e w15' ⟨rfl, m2, rfl⟩
          have HB15 := Lib.hid (below_drewN HB14.out m2)
          have HH15 := Lib.hid (below_drewN HH14.out m2)
          have HX15 := Lib.hid (HX14.out.drewN m2)
          clear HSM
          generalize w14.drewN m2 = w15 at HB15 HH15 HX15 ⊢
          go_wp2_with fail
          refine (HC4.out _ HB15.out H0JN.out).mono ?_
          rintro e w16 ⟨g4, o4, d4, he, hown, hb⟩
          have HB16 := Lib.hid (HB15.out.trans (hb.mono HB15.out.size))
          have HH16 := Lib.hid (HH15.out.trans (hb.mono HH15.out.size))
          have HX16 := Lib.hid (HX15.out.below hb HX15.out.lt)
          have hsm := same_lm L4 A4 c4 g4 o4 d4 _ w16 w16 w16 (HR4.out w16 HH16.out) (Below.refl _ _) hown (Below.refl _ _) HL4.out
          rw [HN4.out] at he hsm
          subst he
          have HSM := Lib.hid hsm
          clear hown hb hsm
          go_wp2_with fail
          refine HSM.out.mono ?_
          rintro e w17' ⟨rfl, m4, rfl⟩
          have HB17 := Lib.hid (below_drewN HB16.out m4)
          have HH17 := Lib.hid (below_drewN HH16.out m4)
          have HX17 := Lib.hid (HX16.out.drewN m4)
          clear HSM
          generalize w16.drewN m4 = w17 at HB17 HH17 HX17 ⊢
          go_wp2_with fail
          go_ret
          exact ⟨rfl, HB17.out⟩
        · have b4 : (JN != 0) = true := by simpa using hJ
          have H1JN := Lib.hid hJ
          clear hJ
          have z21 := HX13.out.cell 1
          have z22 := HX13.out.cell 2
          have z23 := HX13.out.cell 3
          have z24 := HX13.out.cell 4
          simp only [List.getElem?_toArray, List.getElem?_cons_zero, List.getElem?_cons_succ] at z21 z22 z23 z24
          go_wp2_with fail
          refine (HC2.out _ HB13.out H0G.out).mono ?_
          rintro e w14 ⟨g2, o2, d2, he, hown, hb⟩
          have HB14 := Lib.hid (HB13.out.trans (hb.mono HB13.out.size))
          have HH14 := Lib.hid (HH13.out.trans (hb.mono HH13.out.size))
          have HX14 := Lib.hid (HX13.out.below hb HX13.out.lt)
          have hsm := same_lm L2 A2 c2 g2 o2 d2 _ w14 w14 w14 (HR2.out w14 HH14.out) (Below.refl _ _) hown (Below.refl _ _) HL2.out
          rw [HN2.out] at he hsm
          subst he
          have HSM := Lib.hid hsm
          clear hown hb hsm z21 z22 z23 z24
          go_wp2_with fail
          refine HSM.out.mono ?_
          rintro e w15' ⟨rfl, m2, rfl⟩
          have HB15 := Lib.hid (below_drewN HB14.out m2)
          have HH15 := Lib.hid (below_drewN HH14.out m2)
          have HX15 := Lib.hid (HX14.out.drewN m2)
          clear HSM
          generalize w14.drewN m2 = w15 at HB15 HH15 HX15 ⊢
          go_wp2_with fail
          go_ret
          exact ⟨rfl, HB15.out⟩
    · have b2 : (G != 0) = true := by simpa using hG
      have H1G := Lib.hid hG
      clear hG
      by_cases hF : FK = 0
      · have b3 : (FK != 0) = false := by simpa using hF
        exact absurd (HK3.out hF).2.1 H1T.out
      · have b3 : (FK != 0) = true := by simpa using hF
        have H1FK := Lib.hid hF
        clear hF
        by_cases hJ : JN = 0
        · have b4 : (JN != 0) = false := by simpa using hJ
          have H0JN := Lib.hid hJ
          clear hJ
          go_wp2_with fail
          refine (HC4.out _ HB13.out H0JN.out).mono ?_
          rintro e w14 ⟨g4, o4, d4, he, hown, hb⟩
          have HB14 := Lib.hid (HB13.out.trans (hb.mono HB13.out.size))
          have HH14 := Lib.hid (HH13.out.trans (hb.mono HH13.out.size))
          have HX14 := Lib.hid (HX13.out.below hb HX13.out.lt)
          have hsm := same_lm L4 A4 c4 g4 o4 d4 _ w14 w14 w14 (HR4.out w14 HH14.out) (Below.refl _ _) hown (Below.refl _ _) HL4.out
          rw [HN4.out] at he hsm
          subst he
          have HSM := Lib.hid hsm
          clear hown hb hsm
          go_wp2_with fail
          refine HSM.out.mono ?_
          rintro e w15' ⟨rfl, m4, rfl⟩
          have HB15 := Lib.hid (below_drewN HB14.out m4)
          have HH15 := Lib.hid (below_drewN HH14.out m4)
          have HX15 := Lib.hid (HX14.out.drewN m4)
          clear HSM
          generalize w14.drewN m4 = w15 at HB15 HH15 HX15 ⊢
          go_wp2_with fail
          go_ret
          exact ⟨rfl, HB15.out⟩
        · have b4 : (JN != 0) = true := by simpa using hJ
          have H1JN := Lib.hid hJ
          clear hJ
          go_wp2_with fail
          go_ret
          exact ⟨rfl, HB13.out⟩
end Go.Proofs.Ytgjimjpbogadjaa
