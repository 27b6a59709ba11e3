
/-
  forked: its walk.
-/
import Derived.Test.YtgjimjpbogadjaaLm7
namespace Go.Proofs.Ytgjimjpbogadjaa
open Go.RowKit

set_option maxRecDepth 100000 in
set_option maxHeartbeats 4000000 in
theorem forked_any (A : Option Addr) (c : Nat) (l : List Lm) (i : Nat) (tt a b : Int) (w : World) (hr : Row w w.heap.size A (flat lmC l)) (hA : A = none → c = 0) (hi : i < l.length) (hok : LmOk l) (hl99 : l.length ≤ 99) (ha : 0 ≤ a ∧ a ≤ 1073741824) (hb : 0 ≤ b ∧ b ≤ 1073741824) (hno : ∀ x ∈ l, x.ref ≠ tt) :
    Calls Try.prog 43 #[.slice A l.length c, .int .i64 i, .int .i64 tt, .int .i64 a, .int .i64 b] w fun e w' => LmOwn (putLm ⟨tt, 0, 0, a, b⟩ (l.set i (fkR (l.getD i lm0) a b))) w e w' := by
  obtain ⟨k1, k2, k3, k4, k5, k6⟩ := hok.rows _ (getD_mem lm0 hi)
  have HFL := Lib.hid (fork_list hok hi hno (r := fkR (l.getD i lm0) a b) rfl)
  have HLM := Lib.hid (fun (w' : World) (hb : Below w.heap.size w w') (r : Lm) => limited_any A c l i r w' ((hr.below hb).more hb.size) hA hi (by omega))
  have hi1 : (i : Int) < (l.length : Int) := by omega
  obtain ⟨a1, a2⟩ := ha
  obtain ⟨b1, b2⟩ := hb
  obtain ⟨g0, o0, rfl, hg0, c0, c1, c2, c3, c4⟩ := hr.lm hi lm0
  generalize l.getD i lm0 = y at *
  obtain ⟨y0, y1, y2, y3, y4⟩ := y
  dsimp only at c0 c1 c2 c3 c4 k1 k2 k3 k4 k5 k6
  have q3 : 0 ≤ y3 := by omega
  have q4 : 0 ≤ y4 := by omega
  have HB2 := Lib.hid ((Below.refl w.heap.size w).alloc (Nat.le_refl _) (.cells #[.int .i64 y0, .int .i64 y1, .int .i64 y2, .int .i64 (y3 - a), .int .i64 (y4 - b)] 89))
  have hlm := HLM.out _ HB2.out ⟨y0, y1, y2, y3 - a, y4 - b⟩
  unfold lmV at hlm
  unfold fkR at HFL ⊢
  dsimp only at hlm HFL ⊢
  have HLL := Lib.hid (show (l.set i (⟨y0, y1, y2, y3 - a, y4 - b⟩ : Lm)).length = l.length from List.length_set ..)
  obtain ⟨L, hL⟩ : ∃ L, L = l.set i (⟨y0, y1, y2, y3 - a, y4 - b⟩ : Lm) := ⟨_, rfl⟩
  rw [← hL] at HLL HFL hlm ⊢
  have HLQ := Lib.hid hlm
  obtain ⟨F, hF⟩ : ∃ F, putLm ⟨tt, 0, 0, a, b⟩ L = F := ⟨_, rfl⟩
  rw [hF]
  have HF := Lib.hid hF
  obtain ⟨i0, z0, hi0, hz0, hz1, hz2, hz3⟩ := lm_parts
  obtain ⟨N, hN⟩ : ∃ N, l.length = N := ⟨_, rfl⟩
  rw [hN] at hi hl99 hi1 HLL ⊢
  rw [hN] at HLQ
  clear hL hlm k1 k2 k4 k5 hok hno hr hF hN HLM
  go_enter Try.func43, Try.ntmps43
  go_wp2_with fail
  refine HLQ.out.mono ?_
  rintro e w3 ⟨g, o, c3', he, hown, hb3⟩
  rw [HLL.out] at he hown
  subst he
  have hs2 := HB2.out.size
  have HB3 := Lib.hid (HB2.out.trans (hb3.mono hs2))
  have hs3 := HB3.out.size
  have HO3 := Lib.hid (fun ob => (hown.lower (base' := w.heap.size) hs2).alloc ob)
  have HNW := Lib.hid (box_news_lm (x := ⟨tt, 0, 0, a, b⟩) (Box.new w3 89 #[.int .i64 tt, .int .i64 0, .int .i64 0, .int .i64 a, .int .i64 b]))
  have HG := Lib.hid (show w.heap.size ≤ g from Nat.le_trans hs2 hown.lt.1)
  clear hown hb3 c0 c1 c2 c3 c4
  go_wp2_with (at_builtin; refine wpList_append_q rfl (.tmp 31) (.tmp 36) 79 rfl w.heap.size 89 i0 z0 5 40 Try.underlying79 hi0 hz0 hz1 hz2 hz3 (by decide) _ _ _ _ rfl (HO3.out _) ⟨w3.heap.size, 0, none⟩ 1 1 (lmC ⟨tt, 0, 0, a, b⟩) rfl rfl HNW.out (lm_one _) (by unfold maxLen; omega) (by omega) (by simp; omega) (by decide) ?_; intro g' o' cap' w4 h1 h2 h3; have H1 := Lib.hid h1; have HB4 := Lib.hid ((HB3.out.alloc hs3 _).grown h2 (by simp; omega) (fun b hb => by injection hb with hb; rw [← hb]; exact HG.out)); have HG4 := Lib.hid (show w.heap.size ≤ g' by rcases h3 with h3 | h3; (injection h3 with h3; rw [← h3]; exact HG.out); (rw [h3]; simp; omega)); clear h1 h2 h3)
  have HM0 := Lib.hid (show OwnAt w4 w.heap.size 89 5 (some ⟨g', o', none⟩) (N + 1) cap' (flat lmC (midL L ⟨tt, 0, 0, a, b⟩ N)) by rw [← HLL.out, midL_end, HLL.out]; exact H1.out)
  have HD0 := Lib.hid (show ∀ y ∈ L.drop N, tt < y.ref by rw [← HLL.out, List.drop_length]; intro y hy; cases hy)
  clear H1 HO3 HNW HG hs2 hs3
  go_loopg [13] N (fun gk v wr => ∃ k : Nat, gk = k ∧ k ≤ N ∧ v = .int .i64 k ∧ Hid (∀ y ∈ L.drop k, tt < y.ref) ∧ OwnAt wr w.heap.size 89 5 (some ⟨g', o', none⟩) (N + 1) cap' (flat lmC (midL L ⟨tt, 0, 0, a, b⟩ k)) ∧ Below w.heap.size w wr)
  case atStart => exact ⟨N, rfl, Nat.le_refl _, rfl, HD0.out, HM0.out, HB4.out⟩
  case round =>
    obtain ⟨k, hgk, hk, rfl, HD, hown, hbl⟩ := hrel
    have HK := Lib.hid hgk
    have HO := Lib.hid hown
    have HB := Lib.hid hbl
    clear hgk hown hbl HM0 HD0
    have hkL : k ≤ L.length := by rw [HLL.out]; exact hk
    have hML := midL_len L ⟨tt, 0, 0, a, b⟩ hkL
    rw [HLL.out] at hML
    by_cases hk0 : 0 < k
    · obtain ⟨gg, oo, hg', _, e0, e1, e2, e3, e4⟩ := HO.out.row.lm (show k - 1 < (midL L ⟨tt, 0, 0, a, b⟩ k).length by omega) lm0
      injection hg' with hg'
      injection hg' with hg1 hg2
      subst hg1 hg2
      obtain ⟨gg, oo, hg', _, x0, x1, x2, x3, x4⟩ := HO.out.row.lm (show k < (midL L ⟨tt, 0, 0, a, b⟩ k).length by omega) lm0
      injection hg' with hg'
      injection hg' with hg1 hg2
      subst hg1 hg2
      rw [midL_pre L _ hkL hk0] at e0 e1 e2 e3 e4
      rw [midL_at L _ hkL] at x0 x1 x2 x3 x4
      have HSW := Lib.hid (midL_swap L ⟨tt, 0, 0, a, b⟩ hk0 hkL)
      have HDP := Lib.hid (drop_pre hk0 hkL HD)
      have HEX := Lib.hid (fork_exit (x := ⟨tt, 0, 0, a, b⟩) HFL.out.1 HFL.out.2 hkL HD)
      generalize L.getD (k - 1) lm0 = z at *
      obtain ⟨z0, z1, z2, z3, z4⟩ := z
      dsimp only at e0 e1 e2 e3 e4 x0 x1 x2 x3 x4
      have dk : decide ((0 : Int) < (k : Int)) = true := by simp; omega
      have dk' : decide (0 < k) = true := by simp; omega
      have hsub : (k : Int) - 1 = ((k - 1 : Nat) : Int) := by omega
      have hkl : ((k - 1 : Nat) : Int) < ((N + 1 : Nat) : Int) := by omega
      have hkl' : ((k - 1 : Nat) : Int) < (N : Int) + 1 := by omega
      have hkl0 : k - 1 < N + 1 := by omega
      have hkn : (k : Int) < (N : Int) + 1 := by omega
      have hkn0 : k < N + 1 := by omega
      have hML2 := Lib.hid hML
      clear hML hkL
      by_cases hz : tt < z0
      · have d1 : decide (tt < z0) = true := decide_eq_true hz
        have HDN := Lib.hid (HDP.out hz)
        clear HDP HEX hz
        go_wp2_with fail
        go_quiet (fail)
        go_wp2_with fail
        have HO5 := Lib.hid (HO.out.drewN nq)
        have HB5 := Lib.hid (below_drewN HB.out nq)
        have e0' : (wr.drewN nq).cell? ⟨g', o' + (k - 1) * 5, none⟩ = some (.int .i64 z0) := e0
        have e1' : (wr.drewN nq).cell? ⟨g', o' + (k - 1) * 5 + 1, none⟩ = some (.int .i64 z1) := e1
        have e2' : (wr.drewN nq).cell? ⟨g', o' + (k - 1) * 5 + 2, none⟩ = some (.int .i64 z2) := e2
        have e3' : (wr.drewN nq).cell? ⟨g', o' + (k - 1) * 5 + 3, none⟩ = some (.int .i64 z3) := e3
        have e4' : (wr.drewN nq).cell? ⟨g', o' + (k - 1) * 5 + 4, none⟩ = some (.int .i64 z4) := e4
        have x0' : (wr.drewN nq).cell? ⟨g', o' + k * 5, none⟩ = some (.int .i64 tt) := x0
        have x1' : (wr.drewN nq).cell? ⟨g', o' + k * 5 + 1, none⟩ = some (.int .i64 0) := x1
        have x2' : (wr.drewN nq).cell? ⟨g', o' + k * 5 + 2, none⟩ = some (.int .i64 0) := x2
        have x3' : (wr.drewN nq).cell? ⟨g', o' + k * 5 + 3, none⟩ = some (.int .i64 a) := x3
        have x4' : (wr.drewN nq).cell? ⟨g', o' + k * 5 + 4, none⟩ = some (.int .i64 b) := x4
        clear e0 e1 e2 e3 e4 x0 x1 x2 x3 x4
        generalize wr.drewN nq = w5 at *
        have hfz := HO5.out.frozen
        have r0 := hfz (o' + (k - 1) * 5)
        have r1 := hfz (o' + (k - 1) * 5 + 1)
        have r2 := hfz (o' + (k - 1) * 5 + 2)
        have r3 := hfz (o' + (k - 1) * 5 + 3)
        have r4 := hfz (o' + (k - 1) * 5 + 4)
        have t0 := hfz (o' + k * 5)
        have t1 := hfz (o' + k * 5 + 1)
        have t2 := hfz (o' + k * 5 + 2)
        have t3 := hfz (o' + k * 5 + 3)
        have t4 := hfz (o' + k * 5 + 4)
        clear hfz
        go_region
        have hs := (HO5.out.put5 (i := k - 1) (by have := hML2.out; omega) tt 0 0 a b).put5 (i := k) (by rw [List.length_set]; have := hML2.out; omega) z0 z1 z2 z3 z4
        rw [HSW.out] at hs
        have HS := Lib.hid hs.drew
        have HB6 := Lib.hid (below_put5 (below_put5 (p := o' + (k - 1) * 5) HB5.out HG4.out (.int .i64 tt) (.int .i64 0) (.int .i64 0) (.int .i64 a) (.int .i64 b)) (p := o' + k * 5) HG4.out (.int .i64 z0) (.int .i64 z1) (.int .i64 z2) (.int .i64 z3) (.int .i64 z4)).drew
        clear hs e0' e1' e2' e3' e4' x0' x1' x2' x3' x4' r0 r1 r2 r3 r4 t0 t1 t2 t3 t4
        go_wp2_with fail
        go_roundg (k - 1)
        case measure => have := HK.out; omega
        case rel => exact ⟨k - 1, rfl, by omega, rfl, HDN, HS.out, HB6.out⟩
      · have d1 : decide (tt < z0) = false := decide_eq_false hz
        have HE := Lib.hid (HEX.out (.inr hz))
        clear HDP HEX hz
        go_wp2_with fail
        go_quiet (fail)
        go_wp2_with fail
        go_ret
        have h2 := hML2.out
        have h3 : F = midL L ⟨tt, 0, 0, a, b⟩ k := by rw [← HF.out]; exact HE.out
        rw [h3]
        exact ⟨g', o', cap', by rw [h2]; rfl, by rw [h2]; exact HO.out.drewN _, below_drewN HB.out _⟩
    · obtain rfl : k = 0 := by omega
      have HE := Lib.hid (fork_exit (x := ⟨tt, 0, 0, a, b⟩) HFL.out.1 HFL.out.2 hkL HD (.inl rfl))
      have hML2 := Lib.hid hML
      have dk : decide ((0 : Int) < ((0 : Nat) : Int)) = false := by decide
      clear hML hkL
      go_wp2_with fail
      go_quiet (fail)
      go_wp2_with fail
      go_ret
      have h2 := hML2.out
      have h3 : F = midL L ⟨tt, 0, 0, a, b⟩ 0 := by rw [← HF.out]; exact HE.out
      rw [h3]
      exact ⟨g', o', cap', by rw [h2]; rfl, by rw [h2]; exact HO.out.drewN _, below_drewN HB.out _⟩
end Go.Proofs.Ytgjimjpbogadjaa
