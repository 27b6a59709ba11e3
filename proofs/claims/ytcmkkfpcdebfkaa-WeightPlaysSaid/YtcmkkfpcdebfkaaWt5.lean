/-
  Make, Send and Drop of package weight.
-/
import Derived.Test.YtcmkkfpcdebfkaaWt4
namespace Go.Proofs.Ytcmkkfpcdebfkaa
open Go.RowKit

theorem pt_info : (Try.prog.info? 270).map (fun i => (i.size, i.bytes)) = some (1, 8) := by kernel_rfl
theorem pt_zero : ((Try.prog.info? 270).bind (·.zero)).map (fun z => z.cells.size) = some 1 := by kernel_rfl
theorem pt_parts : ∃ i z, Try.prog.info? 270 = some i ∧ i.zero = some z ∧ i.size = 1 ∧ i.bytes = 8 ∧ z.cells.size = 1 := by
  have h1 := pt_info
  have h2 := pt_zero
  cases hi : Try.prog.info? 270 with
  | none => rw [hi] at h1; cases h1
  | some i =>
    rw [hi] at h1 h2
    simp only [Option.map_some, Option.some.injEq, Prod.mk.injEq, Option.bind_some] at h1 h2
    cases hz : i.zero with
    | none => rw [hz] at h2; cases h2
    | some z =>
      rw [hz] at h2
      simp only [Option.map_some, Option.some.injEq] at h2
      exact ⟨i, z, rfl, hz, h1.1, h1.2, h2⟩
theorem pt_one (p : Nat × Nat) : ∀ u ∈ ptC p, u.oneCell' = true := by
  intro u hu
  simp only [ptC, List.mem_cons, List.not_mem_nil, or_false] at hu
  subst hu; rfl
theorem MapH.made (w : World) : MapH (w.alloc (.map #[] 0)) w.heap.size 0 (fun _ => 0) := ⟨fun _ => none, MapV.made w, fun _ => rfl⟩

theorem make_bad (B : Nat) (f : Nat → Nat) (x : Nat) (n : Int) (q : Nat) (s : WS) (r : XR) (node : Int) (w : World) (h : XAt w B f x n q s r) (he : makeE n s node ≠ 0) :
    Calls Try.prog 49 #[.pointer (some ⟨x, 0, none⟩), .int .i64 node] w fun e w' => e = .returned (.tuple #[.int .i64 0, .int .i64 (makeE n s node)]) ∧ w = w' := by
  have HN := Lib.hid (isNode_w x n node w h.rb.c0)
  have c1 := h.c1
  by_cases h1 : node < 0 ∨ n ≤ node
  · rw [show makeE n s node = 1 from if_pos h1]
    rw [show isW n node = false by unfold isW; simp; omega] at HN
    clear h h1 he c1
    go_enter Try.func49, Try.ntmps49
    go_wp2_with fail
    refine HN.out.mono ?_
    rintro e w1 ⟨rfl, rfl⟩
    go_wp2_with fail
    go_ret2
    exact ⟨rfl, rfl⟩
  rw [show isW n node = true by unfold isW; simp; omega] at HN
  unfold makeE at he ⊢
  rw [if_neg h1] at he ⊢
  by_cases h2 : s.T.length = 20
  · rw [if_pos h2]
    rw [h2] at c1
    clear h h1 he h2
    go_enter Try.func49, Try.ntmps49
    go_wp2_with fail
    refine HN.out.mono ?_
    rintro e w1 ⟨rfl, rfl⟩
    go_wp2_with fail
    go_ret2
    exact ⟨rfl, rfl⟩
  · rw [if_neg h2] at he
    exact absurd rfl he

set_option maxRecDepth 100000 in
set_option maxHeartbeats 1000000 in
theorem make_ok (B : Nat) (f : Nat → Nat) (x : Nat) (n : Int) (q : Nat) (s : WS) (r : XR) (node : Int) (w : World) (h : XAt w B f x n q s r) (he : makeE n s node = 0) (hI : I64 node) (ht : s.T.length ≤ 20) (hB : B ≤ w.heap.size) :
    Calls Try.prog 49 #[.pointer (some ⟨x, 0, none⟩), .int .i64 node] w fun e w' => e = .returned (.tuple #[.int .i64 s.T.length, .int .i64 0]) ∧ XPost w w' B f x n (q + 1) (s.new node) := by
  have HN := Lib.hid (isNode_w x n node w h.rb.c0)
  have c1 := h.c1
  unfold makeE at he
  by_cases h1 : node < 0 ∨ n ≤ node
  · rw [if_pos h1] at he; cases he
  rw [show isW n node = true by unfold isW; simp; omega] at HN
  rw [if_neg h1] at he
  by_cases h2 : s.T.length = 20
  · rw [if_pos h2] at he; cases he
  have b2 : (s.T.length == 20) = false := by simp [h2]
  have b2' : ((s.T.length : Int) == 20) = false := by simp; omega
  clear he h1
  obtain ⟨w1, hup, hm1, ho1⟩ := (MapH.made w).put hI (show 0 < maxLen by decide) 65536
  obtain ⟨i0, z0, hi0, hz0, hz1, hz2, hz3⟩ := pt_parts
  have hb1 : Below w.heap.size w w1 := ho1.to_below ((Below.refl _ _).alloc (Nat.le_refl _) _) (by simp) fun i hi => by omega
  have hs1 : w.heap.size + 1 ≤ w1.heap.size := by have := ho1.size; simpa using this
  have hbx := (Box.new w1 273 (thCells ⟨node, 0, fun _ => 0⟩ w.heap.size))
  have hbA : Below w1.heap.size w1 ((w1.alloc (.cells (thCells ⟨node, 0, fun _ => 0⟩ w.heap.size) 273)).alloc (.cells #[.pointer (some ⟨w1.heap.size, 0, none⟩)] 270)) :=
    ((Below.refl _ _).alloc (Nat.le_refl _) _).alloc (by simp) _
  have hbx2 := hbx.alloc (.cells #[.pointer (some ⟨w1.heap.size, 0, none⟩)] 270)
  have hpb := Box.new (w1.alloc (.cells (thCells ⟨node, 0, fun _ => 0⟩ w.heap.size) 273)) 270 #[.pointer (some ⟨w1.heap.size, 0, none⟩)]
  have hbw := hb1.trans (hbA.mono (by omega))
  have hm2 := hm1.only (Only.of_below hbA) (S := fun _ => False) (fun h => h)
  obtain ⟨hx2, hf2⟩ := h.label hbw (tb := w1.heap.size) (mb := w.heap.size) (by omega) (Nat.le_refl _) (20 + 2 * s.T.length) (21 + 2 * s.T.length)
  unfold thCells at hbx2 hpb hbA hbw hm2 hx2
  simp only at hbx2 hpb hbA hbw hm2 hx2
  have hW3 : (w1.alloc (.cells #[.int .i64 node, .int .i64 0, .map (some w.heap.size)] 273)).heap.size = w1.heap.size + 1 := by simp
  rw [hW3] at hpb
  have HXX := Lib.hid (hx2.mono (Nat.le_succ q))
  have HFF := Lib.hid hf2
  have HBX := Lib.hid hbx2
  have HBW := Lib.hid hbw
  have HM2 := Lib.hid hm2
  have HNW : Hid (∀ j v, (ptC (w1.heap.size, w.heap.size))[j]? = some v → ((w1.alloc (.cells #[.int .i64 node, .int .i64 0, .map (some w.heap.size)] 273)).alloc (.cells #[.pointer (some ⟨w1.heap.size, 0, none⟩)] 270)).cell? ((⟨w1.heap.size + 1, 0, none⟩ : Addr).add j) = some v) := fun j v hu => by
    rw [addr_add, Nat.zero_add, hpb.cell j, ← hu]
    simp [ptC]
  have HBS : Hid (B ≤ ((w1.alloc (.cells #[.int .i64 node, .int .i64 0, .map (some w.heap.size)] 273)).alloc (.cells #[.pointer (some ⟨w1.heap.size, 0, none⟩)] 270)).heap.size) := Nat.le_trans hB hbw.size
  have HB := Lib.hid hB
  have HS1 := Lib.hid hs1
  have hmk := @run_makeMap Try.prog
  clear h hx2 hf2 hbx hbx2 hpb hbA hbw hm2 hm1 ho1 hb1 h2 hs1 hB
  go_enter Try.func49, Try.ntmps49
  go_wp2_with fail
  refine HN.out.mono ?_
  rintro e w2 ⟨rfl, rfl⟩
  go_wp2_with (at_builtin; refine wpList_append_q rfl (.tmp 22) (.tmp 29) 266 rfl B 270 i0 z0 1 8 Try.underlying266 hi0 hz0 hz1 hz2 hz3 (by decide) r.A s.T.length r.c (flat ptC r.L) rfl HXX.out.o1 ⟨w1.heap.size + 1, 0, none⟩ 1 1 (ptC (w1.heap.size, w.heap.size)) rfl rfl HNW.out (pt_one _) (by unfold maxLen; omega) (by omega) HBS.out (by decide) ?_; intro g' o' c' w4 k1 k2 k3; have e1 := (HXX.out.grown3 k2).cell 1; have e2 := (HXX.out.grown3 k2).frozen 1; have H4 := Lib.hid (And.intro k1 (And.intro k2 k3)); clear k1 k2 k3)
  go_ret2
  obtain ⟨k1, k2, k3⟩ := H4.out
  have hs1 := HS1.out
  have hp := HXX.out.pushThing (z := ⟨node, 0, fun z => if z = node then 65536 else 0⟩) HBX.out (HM2.out.mono (show 0 + 1 ≤ q + 1 by omega)) ⟨if_pos rfl, Nat.le_trans HB.out (by omega)⟩ ⟨(if_neg (by omega)).trans (if_pos rfl), HB.out⟩ k1 k2 k3
  exact ⟨rfl, hp.chain (Only.of_below HBW.out) HFF.out⟩

theorem has_cases {n : Int} {s : WS} {node t : Int} (h : hasE n s node t = 0) : ∃ k : Nat, t = k ∧ k < s.T.length ∧ 0 ≤ node ∧ node < n ∧ hasV n s node t = (s.T.getD k th0).has node ∧ (s.T.getD k th0).has node ≠ 0 := by
  have hv : hasV n s node t = (s.at t).has node := if_pos h
  unfold hasE at h
  split at h
  · cases h
  · rename_i h1
    split at h
    · cases h
    · rename_i h2
      refine ⟨t.toNat, by omega, by omega, by omega, by omega, ?_, h2⟩
      rw [hv]; rfl
theorem send_bad (B : Nat) (f : Nat → Nat) (x : Nat) (n : Int) (q : Nat) (s : WS) (r : XR) (node t u : Int) (w : World) (h : XAt w B f x n q s r) (hI : I64 node) (he : sendE n s node t u ≠ 0) :
    Calls Try.prog 50 #[.pointer (some ⟨x, 0, none⟩), .int .i64 node, .int .i64 t, .int .i64 u] w fun e w' => e = .returned (.int .i64 (sendE n s node t u)) ∧ w = w' := by
  have HH := Lib.hid (has_any B f x n q s r node t w h hI)
  have HN := Lib.hid (isNode_w x n u w h.rb.c0)
  have c2 := h.c2
  by_cases h1 : hasE n s node t = 0
  case neg =>
    rw [show sendE n s node t u = hasE n s node t from if_pos h1]
    have b1 : (hasE n s node t != 0) = true := by simp [h1]
    generalize hasE n s node t = E at *
    clear h h1 he c2
    go_enter Try.func50, Try.ntmps50
    go_wp2_with fail
    refine HH.out.mono ?_
    rintro e w1 ⟨rfl, rfl⟩
    go_wp2_with fail
    go_ret
    exact ⟨rfl, rfl⟩
  obtain ⟨k, rfl, hk, hn0, hnn, hV, hz⟩ := has_cases h1
  rw [h1, hV] at HH
  have hE : sendE n s node k u = if (u < 0 ∨ n ≤ u) ∨ u = node then 1 else if s.Y.length = 60 then 6 else if (s.T.getD k th0).has node = 1 then 8 else 0 := by
    unfold sendE
    rw [if_neg (by simp [h1])]
    rfl
  rw [hE] at he ⊢
  generalize (s.T.getD k th0).has node = z at *
  generalize s.Y.length = L at *
  clear h hE hV h1 hk hz hn0 hnn
  by_cases h2 : u < 0 ∨ n ≤ u
  · rw [if_pos (.inl h2)]
    rw [show isW n u = false by unfold isW; simp; omega] at HN
    clear h2 he
    go_enter Try.func50, Try.ntmps50
    go_wp2_with fail
    refine HH.out.mono ?_
    rintro e w1 ⟨rfl, rfl⟩
    go_wp2_with fail
    refine HN.out.mono ?_
    rintro e w1 ⟨rfl, rfl⟩
    go_wp2_with fail
    go_ret
    exact ⟨rfl, rfl⟩
  rw [show isW n u = true by unfold isW; simp; omega] at HN
  by_cases h3 : u = node
  · subst h3
    rw [if_pos (.inr rfl)]
    clear h2 he
    go_enter Try.func50, Try.ntmps50
    go_wp2_with fail
    refine HH.out.mono ?_
    rintro e w1 ⟨rfl, rfl⟩
    go_wp2_with fail
    refine HN.out.mono ?_
    rintro e w1 ⟨rfl, rfl⟩
    go_wp2_with fail
    go_ret
    exact ⟨rfl, rfl⟩
  have b3 : (u == node) = false := by simp [h3]
  rw [if_neg (by rintro (h | h); exact h2 h; exact h3 h)] at he ⊢
  clear h2 h3
  by_cases h4 : L = 60
  · subst h4
    rw [if_pos rfl]
    clear he
    go_enter Try.func50, Try.ntmps50
    go_wp2_with fail
    refine HH.out.mono ?_
    rintro e w1 ⟨rfl, rfl⟩
    go_wp2_with fail
    refine HN.out.mono ?_
    rintro e w1 ⟨rfl, rfl⟩
    go_wp2_with fail
    go_ret
    exact ⟨rfl, rfl⟩
  rw [if_neg h4] at he ⊢
  have b4 : (L == 60) = false := by simp [h4]
  have b4' : ((L : Int) == 60) = false := by simp; omega
  by_cases h5 : z = 1
  · subst h5
    rw [if_pos rfl]
    clear he h4
    go_enter Try.func50, Try.ntmps50
    go_wp2_with fail
    refine HH.out.mono ?_
    rintro e w1 ⟨rfl, rfl⟩
    go_wp2_with fail
    refine HN.out.mono ?_
    rintro e w1 ⟨rfl, rfl⟩
    go_wp2_with fail
    go_ret
    exact ⟨rfl, rfl⟩
  · rw [if_neg h5] at he
    exact absurd rfl he

set_option maxRecDepth 100000 in
set_option maxHeartbeats 1000000 in
theorem send_ok (B : Nat) (f : Nat → Nat) (x : Nat) (n : Int) (q : Nat) (s : WS) (r : XR) (node t u : Int) (w : World) (h : XAt w B f x n q s r) (hI : I64 node) (hq : q < maxLen) (hy : s.Y.length ≤ 60) (hB : B ≤ w.heap.size) (he : sendE n s node t u = 0) :
    Calls Try.prog 50 #[.pointer (some ⟨x, 0, none⟩), .int .i64 node, .int .i64 t, .int .i64 u] w fun e w' => e = .returned (.int .i64 0) ∧ XPost w w' B f x n (q + 1) (s.sent node t u) := by
  have HH := Lib.hid (has_any B f x n q s r node t w h hI)
  have HN := Lib.hid (isNode_w x n u w h.rb.c0)
  have c1 := h.c1
  have c2 := h.c2
  unfold sendE at he
  by_cases h1 : hasE n s node t = 0
  case neg => rw [if_pos h1] at he; exact absurd he h1
  rw [if_neg (by simp [h1])] at he
  obtain ⟨k, rfl, hk, hn0, hnn, hV, hz⟩ := has_cases h1
  rw [h1, hV] at HH
  change (if (u < 0 ∨ n ≤ u) ∨ u = node then 1 else if s.Y.length = 60 then 6 else if (s.T.getD k th0).has node = 1 then 8 else 0) = (0 : Int) at he
  by_cases h2 : (u < 0 ∨ n ≤ u) ∨ u = node
  · rw [if_pos h2] at he; cases he
  rw [if_neg h2] at he
  by_cases h4 : s.Y.length = 60
  · rw [if_pos h4] at he; cases he
  rw [if_neg h4] at he
  by_cases h5 : (s.T.getD k th0).has node = 1
  · rw [if_pos h5] at he; cases he
  rw [show isW n u = true by unfold isW; simp; omega] at HN
  have b3 : (u == node) = false := by simp; exact fun e => h2 (.inr e)
  have b4 : (s.Y.length == 60) = false := by simp [h4]
  have b4' : ((s.Y.length : Int) == 60) = false := by simp; omega
  have b5 : ((s.T.getD k th0).has node == 1) = false := beq_eq_false_iff_ne.2 h5
  obtain ⟨g0, o0, hA, p0, _, _, p2⟩ := h.cells hk
  obtain ⟨w1, hup, hm1, ho1⟩ := (h.mp k hk).put hI hq (wrap64 ((s.T.getD k th0).has node - wrap64 (((s.T.getD k th0).has node).tdiv 2)))
  have h2 := h.putMap hk ho1 node (wrap64 ((s.T.getD k th0).has node - wrap64 (((s.T.getD k th0).has node).tdiv 2))) (Nat.le_succ q) hm1
  have hp := h.onlyMap hk ho1
  have hk1 : (k : Int) < (s.T.length : Int) := by omega
  have d2 := h2.c2
  rw [hA] at c1
  generalize hzz : (s.T.getD k th0).has node = z at *
  have hss : WS.sent s node k u = ⟨s.T.set k ((s.T.getD k th0).put node (wrap64 (z - wrap64 (z.tdiv 2)))), s.Y ++ [(u, (k : Int), wrap64 (z.tdiv 2), false)]⟩ := by
    unfold WS.sent WS.at half
    rw [Int.toNat_natCast, hzz]
  rw [hss]
  have HSZ := Lib.hid (Nat.le_trans hB ho1.size)
  generalize s.T.set k ((s.T.getD k th0).put node (wrap64 (z - wrap64 (z.tdiv 2)))) = T' at *
  obtain ⟨i0, z0, hi0, hz0, hz1, hz2, hz3⟩ := wy_parts
  have hbA : Below w1.heap.size w1 (w1.alloc (.cells #[.int .i64 u, .int .i64 k, .int .i64 (wrap64 (z.tdiv 2)), .bool false] 95)) := (Below.refl _ _).alloc (Nat.le_refl _) _
  have hnb := Box.new w1 95 #[.int .i64 u, .int .i64 k, .int .i64 (wrap64 (z.tdiv 2)), .bool false]
  have HXX := Lib.hid (h2.below hbA)
  have HPP := Lib.hid (hp.below hbA)
  have HNW : Hid (∀ j v, (wyC (u, (k : Int), wrap64 (z.tdiv 2), false))[j]? = some v → (w1.alloc (.cells #[.int .i64 u, .int .i64 k, .int .i64 (wrap64 (z.tdiv 2)), .bool false] 95)).cell? ((⟨w1.heap.size, 0, none⟩ : Addr).add j) = some v) := fun j v hu => by
    rw [addr_add, Nat.zero_add, hnb.cell j, ← hu]
    simp [wyC]
  have HBS : Hid (B ≤ (w1.alloc (.cells #[.int .i64 u, .int .i64 k, .int .i64 (wrap64 (z.tdiv 2)), .bool false] 95)).heap.size) := Nat.le_trans HSZ.out hbA.size
  generalize thp r k = pp at *
  clear h h1 h2 hp h4 h5 hbA hnb hss hzz he ho1 hm1 hV hA hz hB HSZ
  go_enter Try.func50, Try.ntmps50
  go_wp2_with fail
  refine HH.out.mono ?_
  rintro e w2 ⟨rfl, rfl⟩
  go_wp2_with fail
  refine HN.out.mono ?_
  rintro e w2 ⟨rfl, rfl⟩
  go_wp2_with (at_builtin; refine wpList_append_q rfl (.tmp 61) (.tmp 67) 93 rfl B 95 i0 z0 4 32 Try.underlying93 hi0 hz0 hz1 hz2 hz3 (by decide) r.A2 s.Y.length r.c2 (flat wyC s.Y) rfl HXX.out.o2 ⟨w1.heap.size, 0, none⟩ 1 1 (wyC (u, (k : Int), wrap64 (z.tdiv 2), false)) rfl rfl HNW.out (wy_one _) (by unfold maxLen; omega) (by omega) HBS.out (by decide) ?_; intro g' o' c' w4 k1 k2 k3; have e1 := (HXX.out.grown4 k2).cell 2; have e2 := (HXX.out.grown4 k2).frozen 2; have H4 := Lib.hid (And.intro k1 (And.intro k2 k3)); clear k1 k2 k3)
  go_ret
  obtain ⟨k1, k2, k3⟩ := H4.out
  refine ⟨rfl, ?_⟩
  exact (HXX.out.pushWay k1 k2 k3).chain HPP.out fun _ _ => rfl
end Go.Proofs.Ytcmkkfpcdebfkaa
