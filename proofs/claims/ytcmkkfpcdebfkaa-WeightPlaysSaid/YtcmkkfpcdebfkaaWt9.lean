/-
  The reference's drop.
-/
import Derived.Test.YtcmkkfpcdebfkaaWt8
namespace Go.Proofs.Ytcmkkfpcdebfkaa
open Go.RowKit

theorem Only.cell {S : Nat → Prop} {w w' : World} (h : Only S w w') {p : Addr} {v : Value} (hc : w.cell? p = some v) (hS : ¬ S p.block) : w'.cell? p = some v := by
  have := h.block p.block (lt_of_cell hc) hS
  unfold World.cell? at hc ⊢
  rw [this]
  exact hc
theorem mdrop_bad (B : Nat) (f : Nat → Nat) (m : Nat) (n : Int) (s : WS) (r : MR) (node t : Int) (w : World) (h : MS w B f m n s r) (hn8 : n ≤ 8) (he : dropE n s node t ≠ 0) :
    Calls Try.prog 56 #[.pointer (some ⟨m, 0, none⟩), .int .i64 node, .int .i64 t] w fun e w' => e = .returned (.int .i64 (dropE n s node t)) ∧ w = w' := by
  have HH := Lib.hid (merr_any B f m n s r node t w h hn8)
  have c4 := h.d4
  by_cases h1 : hasE n s node t = 0
  case neg =>
    rw [show dropE n s node t = hasE n s node t from if_pos h1]
    have b1 : (hasE n s node t != 0) = true := by simp [h1]
    generalize hasE n s node t = E at *
    clear h h1 he c4
    go_enter Try.func56, Try.ntmps56
    go_wp2_with fail
    refine HH.out.mono ?_
    rintro e w1 ⟨rfl, rfl⟩
    go_wp2_with fail
    go_ret
    exact ⟨rfl, rfl⟩
  rw [h1] at HH
  have hE : dropE n s node t = if s.Y.length = 60 then 6 else 0 := by
    unfold dropE
    rw [if_neg (by simp [h1])]
  rw [hE] at he ⊢
  generalize s.Y.length = L at *
  clear h hE h1
  by_cases h4 : L = 60
  · subst h4
    rw [if_pos rfl]
    clear he
    go_enter Try.func56, Try.ntmps56
    go_wp2_with fail
    refine HH.out.mono ?_
    rintro e w1 ⟨rfl, rfl⟩
    go_wp2_with fail
    go_ret
    exact ⟨rfl, rfl⟩
  · rw [if_neg h4] at he
    exact absurd rfl he

set_option maxRecDepth 100000 in
set_option maxHeartbeats 40000000 in
theorem mdrop_ok (B : Nat) (f : Nat → Nat) (m : Nat) (n : Int) (s : WS) (r : MR) (node t : Int) (w : World) (h : MS w B f m n s r) (hn8 : n ≤ 8) (hy : s.Y.length ≤ 60) (hB : B ≤ w.heap.size) (he : dropE n s node t = 0) :
    Calls Try.prog 56 #[.pointer (some ⟨m, 0, none⟩), .int .i64 node, .int .i64 t] w fun e w' => e = .returned (.int .i64 0) ∧ MSPost w w' B f m n (s.dropped node t) := by
  have HH := Lib.hid (merr_any B f m n s r node t w h hn8)
  have c1 := h.d1
  have c3 := h.d3
  have c4 := h.d4
  unfold dropE at he
  by_cases h1 : hasE n s node t = 0
  case neg => rw [if_pos h1] at he; exact absurd he h1
  rw [if_neg (by simp [h1])] at he
  obtain ⟨k, rfl, hk, hn0, hnn, hV, hz⟩ := has_cases h1
  rw [h1] at HH
  by_cases h4 : s.Y.length = 60
  · rw [if_pos h4] at he; cases he
  obtain ⟨j, rfl⟩ := Int.eq_ofNat_of_zero_le hn0
  have hj : j < 8 := by omega
  have hj1 : (j : Int) < 8 := by omega
  have hk1 : (k : Int) < (s.T.length : Int) := by omega
  have b4 : (s.Y.length == 60) = false := by simp [h4]
  have b4' : ((s.Y.length : Int) == 60) = false := by simp; omega
  obtain ⟨g, o, hA, _, p0⟩ := h.hasC hk hj
  obtain ⟨g1, o1, hA1, p1⟩ := h.homeC (show k < (s.T.map (·.home)).length by simpa using hk)
  rw [map_home_get] at p1
  rw [hA] at c3
  rw [hA1, List.length_map] at c1
  have hss : WS.dropped s j k = ⟨s.T.set k ((s.T.getD k th0).put j 0), s.Y ++ [((s.T.getD k th0).home, (k : Int), (s.T.getD k th0).has j, true)]⟩ := by
    unfold WS.dropped WS.at
    rw [Int.toNat_natCast]
  rw [hss]
  show Calls _ _ _ _ fun e w' => e = .returned (.int .i64 0) ∧ MPost w w' B f m n ((s.T.set k ((s.T.getD k th0).put j _)).map (·.home)) ((s.T.set k ((s.T.getD k th0).put j _)).map (·.back)) _ _
  rw [map_home_put, map_back_put]
  have HTH : ∃ T', Hid (s.T.set k ((s.T.getD k th0).put j 0) = T') := ⟨_, rfl⟩
  obtain ⟨T', hT'⟩ := HTH
  rw [hT'.out]
  generalize hzz : (s.T.getD k th0).has j = z at *
  generalize hhm : (s.T.getD k th0).home = hm at *
  obtain ⟨i0, z0, hi0, hz0, hz1, hz2, hz3⟩ := wy_parts
  have hoA : Only (fun b => mlab (f b)) w (w.drew.alloc (.cells #[.int .i64 hm, .int .i64 k, .int .i64 z, .bool true] 95)) := ((Only.refl _ w).drew).alloc _
  have hoF : Only (fun _ => False) w (w.drew.alloc (.cells #[.int .i64 hm, .int .i64 k, .int .i64 z, .bool true] 95)) := ((Only.refl _ w).drew).alloc _
  have hnb := Box.new w.drew 95 #[.int .i64 hm, .int .i64 k, .int .i64 z, .bool true]
  have HXX := Lib.hid (MAt.keep h hoF (fun _ h => h.elim) fun _ _ => rfl)
  have HNW : Hid (∀ j v, (wyC (hm, (k : Int), z, true))[j]? = some v → (w.drew.alloc (.cells #[.int .i64 hm, .int .i64 k, .int .i64 z, .bool true] 95)).cell? ((⟨w.heap.size, 0, none⟩ : Addr).add j) = some v) := fun j v hu => by
    rw [addr_add, Nat.zero_add]
    refine (hnb.cell j).trans ?_
    rw [← hu]
    simp [wyC]
  have HBS : Hid (B ≤ (w.drew.alloc (.cells #[.int .i64 hm, .int .i64 k, .int .i64 z, .bool true] 95)).heap.size) := Nat.le_trans hB hoA.size
  have c4A : (w.alloc (.cells #[.int .i64 hm, .int .i64 k, .int .i64 z, .bool true] 95)).cell? ⟨m, 4, none⟩ = some (.slice r.A4 s.Y.length r.c4) := MAt.d4 (MAt.below h ((Below.refl _ _).alloc (Nat.le_refl _) _))
  have HOO := Lib.hid hoA
  clear h h1 h4 he hV hz hB hss hoA hoF hnb hzz hhm hA hA1
  go_enter Try.func56, Try.ntmps56
  go_wp2_with fail
  refine HH.out.mono ?_
  rintro e w2 ⟨rfl, rfl⟩
  go_wp2_with fail
  go_region_law (refine step_append_q rfl (.tmp 27) (.tmp 46) 93 rfl B 95 i0 z0 4 32 Try.underlying93 hi0 hz0 hz1 hz2 hz3 (by decide) r.A4 s.Y.length r.c4 (flat wyC s.Y) rfl (MAt.o4 HXX.out) ⟨w.heap.size, 0, none⟩ 1 1 (wyC (hm, (k : Int), z, true)) rfl rfl HNW.out (wy_one _) (by unfold maxLen; omega) (by omega) HBS.out (by decide) ?_; intro g' o' c' w4 k1 k2 k3; have e1 : w4.cell? ⟨m, 4, none⟩ = some (.slice r.A4 s.Y.length r.c4) := MAt.st4 HXX.out k2; have e2 := (MAt.grown4 HXX.out k2).frozen 4; have H4 := Lib.hid (And.intro k1 (And.intro k2 k3)); clear k1 k2 k3)
  all_goals
    go_upto_region 7 with fail
    obtain ⟨k1, k2, k3⟩ := H4.out
    have hP := (MAt.push4 HXX.out k1 k2 k3).chain HOO.out (fun _ _ => rfl)
    clear k1 k2 k3 H4 e1 e2
    obtain ⟨w5, hw5⟩ : ∃ w5, w5 = w4.setCell ⟨m, 4, none⟩ (.slice (some ⟨g', o', none⟩) (s.Y.length + 1) c') := ⟨_, rfl⟩
    rw [← hw5] at hP ⊢
    clear hw5
    obtain ⟨f5, r5, h5, hO5, hf5⟩ := hP
    obtain ⟨g7, o7, hA7, _, p7⟩ := h5.hasC hk hj
    have t3 := h5.d3
    have t4 := h5.o3
    rw [hA7] at t3 t4
    have e7 := t4.frozen (o7 + k * 8 + j)
    have hq := (MAt.setHas h5 hk hj hA7 0).chain hO5 hf5
    rw [hT'.out] at hq
    have HQ := Lib.hid hq
    clear h5 hO5 hf5 hA7 t4 hq
    go_wp2_with fail
    go_ret
    exact ⟨rfl, HQ.out⟩
end Go.Proofs.Ytcmkkfpcdebfkaa
