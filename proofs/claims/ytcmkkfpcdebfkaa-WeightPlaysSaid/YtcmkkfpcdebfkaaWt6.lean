/-
  Drop of package weight.
-/
import Derived.Test.YtcmkkfpcdebfkaaWt5
namespace Go.Proofs.Ytcmkkfpcdebfkaa
open Go.RowKit

theorem XAt.st4 {w w' : World} {B : Nat} {f : Nat → Nat} {x : Nat} {n : Int} {q : Nat} {s : WS} {r : XR} (h : XAt w B f x n q s r) (hg : w.grownBy w' (r.A2.map (·.block))) : w'.cell? ⟨x, 2, none⟩ = some (.slice r.A2 s.Y.length r.c2) := by
  rw [(h.grown4 hg).cell]; rfl
theorem drop_bad (B : Nat) (f : Nat → Nat) (x : Nat) (n : Int) (q : Nat) (s : WS) (r : XR) (node t : Int) (w : World) (h : XAt w B f x n q s r) (hI : I64 node) (he : dropE n s node t ≠ 0) :
    Calls Try.prog 55 #[.pointer (some ⟨x, 0, none⟩), .int .i64 node, .int .i64 t] w fun e w' => e = .returned (.int .i64 (dropE n s node t)) ∧ w = w' := by
  have HH := Lib.hid (has_any B f x n q s r node t w h hI)
  have c2 := h.c2
  by_cases h1 : hasE n s node t = 0
  case neg =>
    rw [show dropE n s node t = hasE n s node t from if_pos h1]
    have b1 : (hasE n s node t != 0) = true := by simp [h1]
    generalize hasE n s node t = E at *
    clear h h1 he c2
    go_enter Try.func55, Try.ntmps55
    go_wp2_with fail
    refine HH.out.mono ?_
    rintro e w1 ⟨rfl, rfl⟩
    go_wp2_with fail
    go_ret
    exact ⟨rfl, rfl⟩
  rw [h1] at HH
  have hE : dropE n s node t = if s.Y.length = 60 then 6 else 0 := by
    unfold dropE
    rw [if_neg (by simp [h1])]
  rw [hE] at he ⊢
  generalize hasV n s node t = z at *
  generalize s.Y.length = L at *
  clear h hE h1
  by_cases h4 : L = 60
  · subst h4
    rw [if_pos rfl]
    clear he
    go_enter Try.func55, Try.ntmps55
    go_wp2_with fail
    refine HH.out.mono ?_
    rintro e w1 ⟨rfl, rfl⟩
    go_wp2_with fail
    go_ret
    exact ⟨rfl, rfl⟩
  · rw [if_neg h4] at he
    exact absurd rfl he

set_option maxRecDepth 100000 in
set_option maxHeartbeats 1000000 in
theorem drop_ok (B : Nat) (f : Nat → Nat) (x : Nat) (n : Int) (q : Nat) (s : WS) (r : XR) (node t : Int) (w : World) (h : XAt w B f x n q s r) (hI : I64 node) (hy : s.Y.length ≤ 60) (hB : B ≤ w.heap.size) (he : dropE n s node t = 0) :
    Calls Try.prog 55 #[.pointer (some ⟨x, 0, none⟩), .int .i64 node, .int .i64 t] w fun e w' => e = .returned (.int .i64 0) ∧ XPost w w' B f x n (q + 1) (s.dropped node t) := by
  have HH := Lib.hid (has_any B f x n q s r node t w h hI)
  have c1 := h.c1
  have c2 := h.c2
  unfold dropE at he
  by_cases h1 : hasE n s node t = 0
  case neg => rw [if_pos h1] at he; exact absurd he h1
  rw [if_neg (by simp [h1])] at he
  obtain ⟨k, rfl, hk, hn0, hnn, hV, hz⟩ := has_cases h1
  rw [h1, hV] at HH
  by_cases h4 : s.Y.length = 60
  · rw [if_pos h4] at he; cases he
  have b4 : (s.Y.length == 60) = false := by simp [h4]
  have b4' : ((s.Y.length : Int) == 60) = false := by simp; omega
  obtain ⟨g0, o0, hA, p0, _, _, p2⟩ := h.cells hk
  obtain ⟨w1, hdel, hm1, ho1⟩ := (h.mp k hk).drop hI
  have h2 := h.putMap hk ho1 node 0 (Nat.le_succ q) (hm1.mono (Nat.le_succ q))
  have hp := h.onlyMap hk ho1
  have hk1 : (k : Int) < (s.T.length : Int) := by omega
  have hk2 : k < (s.T.set k ((s.T.getD k th0).put node 0)).length := by simpa using hk
  have d1 := h2.c1
  have d2 := h2.c2
  obtain ⟨g1, o1, hA', q0, q1, _, _⟩ := h2.cells hk2
  obtain ⟨rfl, rfl⟩ : g1 = g0 ∧ o1 = o0 := by rw [hA] at hA'; simp at hA'; exact ⟨hA'.1.symm, hA'.2.symm⟩
  simp only at d1 d2 q0 q1
  rw [set_getD _ _ _ _ _ hk, if_pos rfl] at q1
  change w1.cell? _ = some (.int .i64 (s.T.getD k th0).home) at q1
  rw [hA] at c1 d1
  rw [List.length_set] at d1
  have hss : WS.dropped s node k = ⟨s.T.set k ((s.T.getD k th0).put node 0), s.Y ++ [((s.T.getD k th0).home, (k : Int), (s.T.getD k th0).has node, true)]⟩ := by
    unfold WS.dropped WS.at
    rw [Int.toNat_natCast]
  rw [hss]
  have HSZ := Lib.hid (Nat.le_trans hB ho1.size)
  have HKL : Hid ((s.T.set k ((s.T.getD k th0).put node 0)).length = s.T.length) := List.length_set
  generalize s.T.set k ((s.T.getD k th0).put node 0) = T' at *
  generalize (s.T.getD k th0).has node = z at *
  generalize (s.T.getD k th0).home = hm at *
  obtain ⟨i0, z0, hi0, hz0, hz1, hz2, hz3⟩ := wy_parts
  have hoA : Only (fun _ => False) w1 (w1.drew.alloc (.cells #[.int .i64 hm, .int .i64 k, .int .i64 z, .bool true] 95)) := ((Only.refl _ w1).drew).alloc _
  have hnb := Box.new w1.drew 95 #[.int .i64 hm, .int .i64 k, .int .i64 z, .bool true]
  have HXX := Lib.hid (h2.keep hoA (fun _ h => h.elim) fun _ _ => rfl)
  have HPP := Lib.hid (hp.andThen hoA (fun _ _ h => h.elim))
  have HNW : Hid (∀ j v, (wyC (hm, (k : Int), z, true))[j]? = some v → (w1.drew.alloc (.cells #[.int .i64 hm, .int .i64 k, .int .i64 z, .bool true] 95)).cell? ((⟨w1.heap.size, 0, none⟩ : Addr).add j) = some v) := fun j v hu => by
    rw [addr_add, Nat.zero_add]
    refine (hnb.cell j).trans ?_
    rw [← hu]
    simp [wyC]
  have HBS : Hid (B ≤ (w1.drew.alloc (.cells #[.int .i64 hm, .int .i64 k, .int .i64 z, .bool true] 95)).heap.size) := Nat.le_trans HSZ.out hoA.size
  have d2A : (w1.alloc (.cells #[.int .i64 hm, .int .i64 k, .int .i64 z, .bool true] 95)).cell? ⟨x, 2, none⟩ = some (.slice r.A2 s.Y.length r.c2) := HXX.out.c2
  generalize thp r k = pp at *
  clear h h1 h2 hp h4 hoA hnb hss he ho1 hm1 hV hA hA' hz hB HSZ
  go_enter Try.func55, Try.ntmps55
  go_wp2_with fail
  refine HH.out.mono ?_
  rintro e w2 ⟨rfl, rfl⟩
  go_wp2_with fail
  go_region_law (refine step_append_q rfl (.tmp 42) (.tmp 56) 93 rfl B 95 i0 z0 4 32 Try.underlying93 hi0 hz0 hz1 hz2 hz3 (by decide) r.A2 s.Y.length r.c2 (flat wyC s.Y) rfl HXX.out.o2 ⟨w1.heap.size, 0, none⟩ 1 1 (wyC (hm, (k : Int), z, true)) rfl rfl HNW.out (wy_one _) (by unfold maxLen; omega) (by omega) HBS.out (by decide) ?_; intro g' o' c' w4 k1 k2 k3; have e1 : w4.cell? ⟨x, 2, none⟩ = some (.slice r.A2 s.Y.length r.c2) := HXX.out.st4 k2; have e2 := (HXX.out.grown4 k2).frozen 2; have H4 := Lib.hid (And.intro k1 (And.intro k2 k3)); clear k1 k2 k3)
  all_goals
    go_wp2_with fail
    go_ret
    obtain ⟨k1, k2, k3⟩ := H4.out
    exact ⟨rfl, (HXX.out.pushWay k1 k2 k3).chain HPP.out fun _ _ => rfl⟩
end Go.Proofs.Ytcmkkfpcdebfkaa
