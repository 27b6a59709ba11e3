/-
  The reference's send and drop.
-/
import Derived.Test.YtcmkkfpcdebfkaaWt7
namespace Go.Proofs.Ytcmkkfpcdebfkaa
open Go.RowKit

section
variable {w : World} {B : Nat} {f : Nat → Nat} {m : Nat} {n : Int} {H K : List Int} {X : List Th} {Y : List Wy} {r : MR}
theorem MAt.homeC (h : MAt w B f m n H K X Y r) {k : Nat} (hk : k < H.length) : ∃ g o, r.A1 = some ⟨g, o, none⟩ ∧ w.cell? ⟨g, o + k, none⟩ = some (.int .i64 (H.getD k 0)) := by
  have ho := h.o1
  obtain ⟨g, o, hA, _⟩ := ho.some_of (show 0 < H.length by omega)
  refine ⟨g, o, hA, ?_⟩
  rw [hA] at ho
  exact ho.cells k _ (by simp [ints, List.getD_eq_getElem?_getD, List.getElem?_eq_getElem hk])
theorem MAt.backC (h : MAt w B f m n H K X Y r) {k : Nat} (hk : k < K.length) : ∃ g o, r.A2 = some ⟨g, o, none⟩ ∧ w.cell? ⟨g, o + k, none⟩ = some (.int .i64 (K.getD k 0)) := by
  have ho := h.o2
  obtain ⟨g, o, hA, _⟩ := ho.some_of (show 0 < K.length by omega)
  refine ⟨g, o, hA, ?_⟩
  rw [hA] at ho
  exact ho.cells k _ (by simp [ints, List.getD_eq_getElem?_getD, List.getElem?_eq_getElem hk])
theorem MAt.st4 {w' : World} (h : MAt w B f m n H K X Y r) (hg : w.grownBy w' (r.A4.map (·.block))) : w'.cell? ⟨m, 4, none⟩ = some (.slice r.A4 Y.length r.c4) := by
  rw [(h.grown4 hg).cell]; rfl
end
theorem map_home_get (T : List Th) (k : Nat) : (T.map (·.home)).getD k 0 = (T.getD k th0).home := by
  simp only [List.getD_eq_getElem?_getD, List.getElem?_map]
  cases T[k]? <;> rfl
theorem map_back_get (T : List Th) (k : Nat) : (T.map (·.back)).getD k 0 = (T.getD k th0).back := by
  simp only [List.getD_eq_getElem?_getD, List.getElem?_map]
  cases T[k]? <;> rfl

set_option maxRecDepth 100000 in
set_option maxHeartbeats 1000000 in
theorem msend_bad (B : Nat) (f : Nat → Nat) (m : Nat) (n : Int) (s : WS) (r : MR) (node t u : Int) (w : World) (h : MS w B f m n s r) (hn8 : n ≤ 8) (he : sendE n s node t u ≠ 0) :
    Calls Try.prog 54 #[.pointer (some ⟨m, 0, none⟩), .int .i64 node, .int .i64 t, .int .i64 u] w fun e w' => e = .returned (.int .i64 (sendE n s node t u)) ∧ w = w' := by
  have HH := Lib.hid (merr_any B f m n s r node t w h hn8)
  have c0 := h.d0
  have c3 := h.d3
  have c4 := h.d4
  by_cases h1 : hasE n s node t = 0
  case neg =>
    rw [show sendE n s node t u = hasE n s node t from if_pos h1]
    have b1 : (hasE n s node t != 0) = true := by simp [h1]
    generalize hasE n s node t = E at *
    clear h h1 he c3 c4
    go_enter Try.func54, Try.ntmps54
    go_wp2_with fail
    refine HH.out.mono ?_
    rintro e w1 ⟨rfl, rfl⟩
    go_wp2_with fail
    go_ret
    exact ⟨rfl, rfl⟩
  obtain ⟨k, rfl, hk, hn0, hnn, hV, hz⟩ := has_cases h1
  rw [h1] at HH
  have hE : sendE n s node k u = if (u < 0 ∨ n ≤ u) ∨ u = node then 1 else if s.Y.length = 60 then 6 else if (s.T.getD k th0).has node = 1 then 8 else 0 := by
    unfold sendE
    rw [if_neg (by simp [h1])]
    rfl
  rw [hE] at he ⊢
  obtain ⟨j, rfl⟩ := Int.eq_ofNat_of_zero_le hn0
  have hj : j < 8 := by omega
  have hj1 : (j : Int) < 8 := by omega
  have hk1 : (k : Int) < (s.T.length : Int) := by omega
  obtain ⟨g, o, hA, _, p0⟩ := h.hasC hk hj
  rw [hA] at c3
  generalize (s.T.getD k th0).has j = z at *
  generalize s.Y.length = L at *
  generalize s.T.length = M at *
  clear h hE hV h1 hz hn0 hnn hA
  by_cases h2 : u < 0
  · rw [if_pos (.inl (.inl h2))]
    have d2 : decide (u < 0) = true := by simp; omega
    clear h2 he
    go_enter Try.func54, Try.ntmps54
    go_wp2_with fail
    refine HH.out.mono ?_
    rintro e w1 ⟨rfl, rfl⟩
    go_wp2_with fail
    go_ret
    exact ⟨rfl, rfl⟩
  have d2 : decide (u < 0) = false := by simp; omega
  by_cases h2' : n ≤ u
  · rw [if_pos (.inl (.inr h2'))]
    have d2' : decide (n ≤ u) = true := by simp; omega
    clear h2 h2' he
    go_enter Try.func54, Try.ntmps54
    go_wp2_with fail
    refine HH.out.mono ?_
    rintro e w1 ⟨rfl, rfl⟩
    go_wp2_with fail
    go_ret
    exact ⟨rfl, rfl⟩
  have d2' : decide (n ≤ u) = false := by simp; omega
  by_cases h3 : u = j
  · subst h3
    rw [if_pos (.inr rfl)]
    clear h2 he h2'
    go_enter Try.func54, Try.ntmps54
    go_wp2_with fail
    refine HH.out.mono ?_
    rintro e w1 ⟨rfl, rfl⟩
    go_wp2_with fail
    go_ret
    exact ⟨rfl, rfl⟩
  have b3 : (u == (j : Int)) = false := by simp [h3]
  rw [if_neg (by rintro ((h | h) | h); exact h2 h; exact h2' h; exact h3 h)] at he ⊢
  clear h2 h3 h2'
  by_cases h4 : L = 60
  · subst h4
    rw [if_pos rfl]
    clear he
    go_enter Try.func54, Try.ntmps54
    go_wp2_with fail
    refine HH.out.mono ?_
    rintro e w1 ⟨rfl, rfl⟩
    go_wp2_with fail
    go_ret
    exact ⟨rfl, rfl⟩
  rw [if_neg h4] at he ⊢
  have b4 : (L == 60) = false := by simp [h4]
  have b4' : ((L : Int) == 60) = false := by simp; omega
  by_cases h5 : z = 1
  · subst h5
    rw [if_pos rfl]
    clear he h4
    go_enter Try.func54, Try.ntmps54
    go_wp2_with fail
    refine HH.out.mono ?_
    rintro e w1 ⟨rfl, rfl⟩
    go_wp2_with fail
    go_ret
    exact ⟨rfl, rfl⟩
  · rw [if_neg h5] at he
    exact absurd rfl he

set_option maxRecDepth 100000 in
set_option maxHeartbeats 1000000 in
theorem msend_ok (B : Nat) (f : Nat → Nat) (m : Nat) (n : Int) (s : WS) (r : MR) (node t u : Int) (w : World) (h : MS w B f m n s r) (hn8 : n ≤ 8) (hy : s.Y.length ≤ 60) (hB : B ≤ w.heap.size) (he : sendE n s node t u = 0) :
    Calls Try.prog 54 #[.pointer (some ⟨m, 0, none⟩), .int .i64 node, .int .i64 t, .int .i64 u] w fun e w' => e = .returned (.int .i64 0) ∧ MSPost w w' B f m n (s.sent node t u) := by
  have HH := Lib.hid (merr_any B f m n s r node t w h hn8)
  have c0 := h.d0
  have c3 := h.d3
  have c4 := h.d4
  unfold sendE at he
  by_cases h1 : hasE n s node t = 0
  case neg => rw [if_pos h1] at he; exact absurd he h1
  rw [if_neg (by simp [h1])] at he
  obtain ⟨k, rfl, hk, hn0, hnn, hV, hz⟩ := has_cases h1
  rw [h1] at HH
  change (if (u < 0 ∨ n ≤ u) ∨ u = node then 1 else if s.Y.length = 60 then 6 else if (s.T.getD k th0).has node = 1 then 8 else 0) = (0 : Int) at he
  by_cases h2 : (u < 0 ∨ n ≤ u) ∨ u = node
  · rw [if_pos h2] at he; cases he
  rw [if_neg h2] at he
  by_cases h4 : s.Y.length = 60
  · rw [if_pos h4] at he; cases he
  rw [if_neg h4] at he
  by_cases h5 : (s.T.getD k th0).has node = 1
  · rw [if_pos h5] at he; cases he
  obtain ⟨j, rfl⟩ := Int.eq_ofNat_of_zero_le hn0
  have hj : j < 8 := by omega
  have hj1 : (j : Int) < 8 := by omega
  have hk1 : (k : Int) < (s.T.length : Int) := by omega
  have d2 : decide (u < 0) = false := by simp; omega
  have d2' : decide (n ≤ u) = false := by simp; omega
  have b3 : (u == (j : Int)) = false := by simp; exact fun e => h2 (.inr e)
  have b4 : (s.Y.length == 60) = false := by simp [h4]
  have b4' : ((s.Y.length : Int) == 60) = false := by simp; omega
  have b5 : ((s.T.getD k th0).has j == 1) = false := beq_eq_false_iff_ne.2 h5
  obtain ⟨g, o, hA, _, p0⟩ := h.hasC hk hj
  have ho3 := h.o3
  rw [hA] at c3 ho3
  have hfr := ho3.frozen (o + k * 8 + j)
  have hss : WS.sent s j k u = ⟨s.T.set k ((s.T.getD k th0).put j (wrap64 ((s.T.getD k th0).has j - wrap64 (((s.T.getD k th0).has j).tdiv 2)))), s.Y ++ [(u, (k : Int), wrap64 (((s.T.getD k th0).has j).tdiv 2), false)]⟩ := by
    unfold WS.sent WS.at half
    rw [Int.toNat_natCast]
  rw [hss]
  show Calls _ _ _ _ fun e w' => e = .returned (.int .i64 0) ∧ MPost w w' B f m n ((s.T.set k ((s.T.getD k th0).put j _)).map (·.home)) ((s.T.set k ((s.T.getD k th0).put j _)).map (·.back)) _ _
  rw [map_home_put, map_back_put]
  have hset := (MAt.setHas h hk hj hA (wrap64 ((s.T.getD k th0).has j - wrap64 (((s.T.getD k th0).has j).tdiv 2)))).below ((Below.refl _ _).drew)
  have HST := Lib.hid hset
  have HBB := Lib.hid hB
  generalize s.T.set k ((s.T.getD k th0).put j (wrap64 ((s.T.getD k th0).has j - wrap64 (((s.T.getD k th0).has j).tdiv 2)))) = T' at *
  generalize (s.T.getD k th0).has j = z at *
  obtain ⟨i0, z0, hi0, hz0, hz1, hz2, hz3⟩ := wy_parts
  clear h h1 h2 h4 h5 he hV hA hz hB ho3 hss hset
  go_enter Try.func54, Try.ntmps54
  go_wp2_with fail
  refine HH.out.mono ?_
  rintro e w2 ⟨rfl, rfl⟩
  go_wp2_with fail
  go_region
  go_upto_region 12 with fail
  have hset := HST.out
  generalize (w.setCell ⟨g, o + k * 8 + j, none⟩ (.int .i64 (wrap64 (z - wrap64 (z.tdiv 2))))).drew = w5 at *
  obtain ⟨f5, r5, h5, hO5, hf5⟩ := hset
  have e4 := h5.d4
  have hbA : Below w5.heap.size w5 (w5.alloc (.cells #[.int .i64 u, .int .i64 k, .int .i64 (wrap64 (z.tdiv 2)), .bool false] 95)) := (Below.refl _ _).alloc (Nat.le_refl _) _
  have hnb := Box.new w5 95 #[.int .i64 u, .int .i64 k, .int .i64 (wrap64 (z.tdiv 2)), .bool false]
  have HXX := Lib.hid (MAt.below h5 hbA)
  have HOO := Lib.hid (hO5.below hbA)
  have HFF := Lib.hid hf5
  have HNW : Hid (∀ j v, (wyC (u, (k : Int), wrap64 (z.tdiv 2), false))[j]? = some v → (w5.alloc (.cells #[.int .i64 u, .int .i64 k, .int .i64 (wrap64 (z.tdiv 2)), .bool false] 95)).cell? ((⟨w5.heap.size, 0, none⟩ : Addr).add j) = some v) := fun j v hu => by
    rw [addr_add, Nat.zero_add, hnb.cell j, ← hu]
    simp [wyC]
  have HBS : Hid (B ≤ (w5.alloc (.cells #[.int .i64 u, .int .i64 k, .int .i64 (wrap64 (z.tdiv 2)), .bool false] 95)).heap.size) := Nat.le_trans HBB.out (Nat.le_trans hO5.size hbA.size)
  clear h5 hO5 hf5 hbA hnb HST
  go_wp2_with (at_builtin; refine wpList_append_q rfl (.tmp 80) (.tmp 85) 93 rfl B 95 i0 z0 4 32 Try.underlying93 hi0 hz0 hz1 hz2 hz3 (by decide) r5.A4 s.Y.length r5.c4 (flat wyC s.Y) rfl (MAt.o4 HXX.out) ⟨w5.heap.size, 0, none⟩ 1 1 (wyC (u, (k : Int), wrap64 (z.tdiv 2), false)) rfl rfl HNW.out (wy_one _) (by unfold maxLen; omega) (by omega) HBS.out (by decide) ?_; intro g' o' c' w4 k1 k2 k3; have e1 : w4.cell? ⟨m, 4, none⟩ = some (.slice r5.A4 s.Y.length r5.c4) := MAt.st4 HXX.out k2; have e2 := (MAt.grown4 HXX.out k2).frozen 4; have H4 := Lib.hid (And.intro k1 (And.intro k2 k3)); clear k1 k2 k3)
  go_ret
  obtain ⟨k1, k2, k3⟩ := H4.out
  exact ⟨rfl, (MAt.push4 HXX.out k1 k2 k3).chain HOO.out HFF.out⟩

end Go.Proofs.Ytcmkkfpcdebfkaa
