/-
  Come of package weight.
-/
import Derived.Test.YtcmkkfpcdebfkaaWt6
import Derived.Test.YtcmkkfpcdebfkaaWyDel
namespace Go.Proofs.Ytcmkkfpcdebfkaa
open Go.RowKit

theorem come_bad (B : Nat) (f : Nat → Nat) (x : Nat) (n : Int) (q : Nat) (s : WS) (r : XR) (i : Int) (w : World) (h : XAt w B f x n q s r) (he : comeE s i ≠ 0) :
    Calls Try.prog 48 #[.pointer (some ⟨x, 0, none⟩), .int .i64 i] w fun e w' => e = .returned (.int .i64 (comeE s i)) ∧ w = w' := by
  have c2 := h.c2
  unfold comeE at he ⊢
  by_cases h1 : i < 0
  · rw [if_pos (.inl h1)]
    have d1 : decide (i < 0) = true := by simp; omega
    clear h he c2
    go_enter Try.func48, Try.ntmps48
    go_wp2_with fail
    go_ret
    exact ⟨rfl, rfl⟩
  have d1 : decide (i < 0) = false := by simp; omega
  by_cases h2 : (s.Y.length : Int) ≤ i
  · rw [if_pos (.inr h2)]
    obtain ⟨k, rfl⟩ := Int.eq_ofNat_of_zero_le (show 0 ≤ i by omega)
    have d2 : decide ((s.Y.length : Int) ≤ (k : Int)) = true := by simp; omega
    have d2' : decide (s.Y.length ≤ k) = true := by simp; omega
    clear h he
    generalize s.Y.length = L at *
    go_enter Try.func48, Try.ntmps48
    go_wp2_with fail
    go_ret
    exact ⟨rfl, rfl⟩
  · rw [if_neg (by omega)] at he
    exact absurd rfl he

set_option maxRecDepth 100000 in
set_option maxHeartbeats 1000000 in
theorem come_ok (B : Nat) (f : Nat → Nat) (x : Nat) (n : Int) (q : Nat) (s : WS) (r : XR) (k : Nat) (w : World) (h : XAt w B f x n q s r) (hok : WOk n s) (hq : q < maxLen) (hk : k < s.Y.length) :
    Calls Try.prog 48 #[.pointer (some ⟨x, 0, none⟩), .int .i64 k] w fun e w' => e = .returned (.int .i64 0) ∧ XPost w w' B f x n (q + 1) (s.came k) := by
  have c2 := h.c2
  have ho2 := h.o2
  obtain ⟨g, o, hA, _⟩ := ho2.some_of (show 0 < s.Y.length by omega)
  rw [hA] at c2 ho2
  have hfg : f g = 4 := h.l4 g (by rw [hA]; rfl)
  obtain ⟨b', o', e, _, y0, y1, y2, y3⟩ := ho2.row.wy hk wyd
  obtain ⟨rfl, rfl⟩ : g = b' ∧ o = o' := by simpa using e
  obtain ⟨hn0, hnn, ht0, htn⟩ := hok.way k hk
  have hn8 := hok.n8
  have d1 : decide ((k : Int) < 0) = false := by simp
  have d2 : decide ((s.Y.length : Int) ≤ (k : Int)) = false := by simp; omega
  have d2' : decide (s.Y.length ≤ k) = false := by simp; omega
  have hk1 : (k : Int) < (s.Y.length : Int) := by omega
  have hwr : wrap64 ((k : Int) + 1) = (k : Int) + 1 := by have := hok.y60; unfold wrap64; omega
  have hcame : s.came k = ⟨cameT s.T (s.Y.getD k wyd), s.Y.take k ++ s.Y.drop (k + 1)⟩ := rfl
  rw [hcame]
  obtain ⟨j, hj⟩ : ∃ j : Nat, (s.Y.getD k wyd).2.1 = j := ⟨(s.Y.getD k wyd).2.1.toNat, by omega⟩
  have hj2 : j < s.T.length := by omega
  have hj3 : (j : Int) < (s.T.length : Int) := by omega
  generalize s.Y.getD k wyd = y at *
  rw [hj] at y1
  have hct : cameT s.T y = if y.2.2.2 = true then s.T.set j ((s.T.getD j th0).turn (wrap64 ((s.T.getD j th0).back + y.2.2.1))) else s.T.set j ((s.T.getD j th0).put y.1 (wrap64 ((s.T.getD j th0).has y.1 + y.2.2.1))) := by
    unfold cameT
    rw [hj, Int.toNat_natCast]
  rw [hct]
  -- the message's copy
  have hbA : Below w.heap.size w (w.alloc (.cells #[.int .i64 y.1, .int .i64 j, .int .i64 y.2.2.1, .bool y.2.2.2] 95)) := (Below.refl _ _).alloc (Nat.le_refl _) _
  have hxb := Box.new w 95 #[.int .i64 y.1, .int .i64 j, .int .i64 y.2.2.1, .bool y.2.2.2]
  obtain ⟨hx1, hf1⟩ := h.label hbA (tb := w.heap.size) (mb := w.heap.size) (Nat.le_refl _) (Nat.le_refl _) 0 0
  generalize hf1e : (fun z => if z = w.heap.size then 0 else if z = w.heap.size then 0 else f z) = f1 at *
  have hf1x : f1 w.heap.size = 0 := by rw [← hf1e]; exact if_pos rfl
  have hgl : g < w.heap.size := ho2.lt.2
  have hf1g : f1 g = 4 := (hf1 g hgl).trans hfg
  have ho1 : OwnAt (w.alloc (.cells #[.int .i64 y.1, .int .i64 j, .int .i64 y.2.2.1, .bool y.2.2.2] 95)) B 95 4 (some ⟨g, o, none⟩) s.Y.length r.c2 (flat wyC s.Y) := ho2.below hbA
  have HD := delete_wy B g o r.c2 k s.Y _ ho1 hk
  rw [show ((k + 1 : Nat) : Int) = (k : Int) + 1 from rfl] at HD
  have HDD := Lib.hid HD
  have HOA := Lib.hid (Only.of_below (S := fun b => xlab (f b)) hbA)
  have cx2 : (w.alloc (.cells #[.int .i64 y.1, .int .i64 j, .int .i64 y.2.2.1, .bool y.2.2.2] 95)).cell? ⟨x, 2, none⟩ = some (.slice (some ⟨g, o, none⟩) s.Y.length r.c2) := by
    have := hx1.c2
    rw [hA] at this
    exact this
  have HW1 := Lib.hid (And.intro hx1 (And.intro hxb (And.intro hf1 (And.intro hf1x hf1g))))
  have HI := Lib.hid (show I64 y.1 by unfold I64; omega)
  clear h hok hx1 hxb hf1 hf1x hf1g ho1 ho2 HD hbA hA hfg hgl e hn0 hnn ht0 htn hn8 hcame hf1e hct
  generalize hZ : (⟨if y.2.2.2 = true then s.T.set j ((s.T.getD j th0).turn (wrap64 ((s.T.getD j th0).back + y.2.2.1))) else s.T.set j ((s.T.getD j th0).put y.1 (wrap64 ((s.T.getD j th0).has y.1 + y.2.2.1))), s.Y.take k ++ s.Y.drop (k + 1)⟩ : WS) = Z
  have HZ := Lib.hid hZ
  clear hZ
  generalize hwe : w.alloc (.cells #[.int .i64 y.1, .int .i64 j, .int .i64 y.2.2.1, .bool y.2.2.2] 95) = w1 at *
  go_enter Try.func48, Try.ntmps48
  go_wp2_with fail
  refine HDD.out.mono ?_
  rintro e w2 ⟨rfl, hown2, hoD⟩
  obtain ⟨hx1, hxb, hf1, hf1x, hf1g⟩ := HW1.out
  have hX := hx1.waysPost (hoD.more fun b hb => by show f1 b = 4; rw [hb]; exact hf1g) (A := some ⟨g, o, none⟩) (c := r.c2) (Y := s.Y.take k ++ s.Y.drop (k + 1)) hown2 (fun b hb => .inl (by simp [rblk] at hb; subst hb; exact hf1g))
  have hbx := hoD.box hx1.rb.box (fun e => by have h1 := hx1.rb.fg; rw [e] at h1; omega)
  have e1 : w2.cell? ⟨x, 2, none⟩ = some (.slice r.A2 s.Y.length r.c2) := by rw [hbx.cell]; rfl
  have e2 := hbx.frozen 2
  have hxb2 := hoD.box hxb (fun e => by rw [e] at hf1x; omega)
  replace HZ := HZ.out
  generalize s.Y.take k ++ s.Y.drop (k + 1) = Y' at *
  have HZZ := Lib.hid HZ
  clear HZ
  have HF1 := Lib.hid hf1
  have HF1X := Lib.hid hf1x
  have HXB := Lib.hid hxb
  clear hown2 hoD hx1 hxb hbx hf1 HW1 HDD hf1g
  go_upto_region 5 with fail
  generalize hw3 : w2.setCell ⟨x, 2, none⟩ (.slice (some ⟨g, o, none⟩) Y'.length r.c2) = w3 at *
  obtain ⟨f2, r2, hx2, hO2, hf2⟩ := hX
  have hxb3 := hO2.box HXB.out (fun e => by rw [HF1X.out] at e; unfold xlab at e; omega)
  obtain ⟨g3, o3, hA3, p0, p1, p2, p3⟩ := hx2.cells hj2
  have t1 := hx2.c1
  rw [hA3] at t1
  have z0 : w3.cell? ⟨w.heap.size, 0, none⟩ = some (.int .i64 y.1) := by rw [hxb3.cell]; rfl
  have z1 : w3.cell? ⟨w.heap.size, 1, none⟩ = some (.int .i64 j) := by rw [hxb3.cell]; rfl
  have z2 : w3.cell? ⟨w.heap.size, 2, none⟩ = some (.int .i64 y.2.2.1) := by rw [hxb3.cell]; rfl
  have z3 : w3.cell? ⟨w.heap.size, 3, none⟩ = some (.bool y.2.2.2) := by rw [hxb3.cell]; rfl
  have hOX : Only (fun b => xlab (f b)) w w3 := HOA.out.andThen hO2 fun b hb hs => by rw [HF1.out b hb] at hs; exact hs
  have hfX : ∀ b, b < w.heap.size → f2 b = f b := fun b hb => (hf2 b (Nat.lt_of_lt_of_le hb HOA.out.size)).trans (HF1.out b hb)
  have HX := Lib.hid (And.intro hx2 (And.intro hOX hfX))
  have q1 := (hx2.tb j hj2).frozen 1
  have hlk := (hx2.mp j hj2).look HI.out
  have hmem : ∃ p, Hid (thp r2 j = p) := ⟨_, rfl⟩
  have HTH : ∃ th, Hid (s.T.getD j th0 = th) := ⟨_, rfl⟩
  obtain ⟨pp, hpp⟩ := hmem
  obtain ⟨th, hth⟩ := HTH
  rw [hpp.out] at p0 p1 p2 p3 q1 hlk
  simp only [hth.out] at p0 p1 p2 p3 q1 hlk t1
  clear hx2 hO2 hf2 hOX hfX hxb3 hxb2 hA3 hw3
  cases hb : y.2.2.2 with
  | true =>
    rw [hb] at z3
    have HB := Lib.hid hb
    clear hb
    go_quiet (fail)
    go_wp2_with fail
    go_region
    go_wp2_with fail
    go_ret
    obtain ⟨hx2, hOX, hfX⟩ := HX.out
    have hx4 := hx2.keep (w' := w3.drewN (nq + 1)) (S := fun _ => False) ((Only.refl _ w3).drewN (nq + 1)) (fun _ h => h.elim) (fun _ _ => rfl)
    have hp := (hx4.backPost hj2 (wrap64 (th.back + y.2.2.1))).mono (Nat.le_succ q)
    rw [hpp.out] at hp
    rw [← HZZ.out, HB.out, if_pos rfl, hth.out]
    simp only [hth.out] at hp
    exact ⟨rfl, hp.chain (hOX.drewN _) hfX⟩
  | false =>
    rw [hb] at z3
    have HB := Lib.hid hb
    clear hb hlk
    go_quiet (fail)
    have hx4 := HX.out.1.keep (w' := w3.drewN (nq + 1)) (S := fun _ => False) ((Only.refl _ w3).drewN (nq + 1)) (fun _ h => h.elim) (fun _ _ => rfl)
    have hlk := (hx4.mp j hj2).look HI.out
    obtain ⟨w5, hup, hm5, ho5⟩ := (hx4.mp j hj2).put HI.out hq (wrap64 ((s.T.getD j th0).has y.1 + y.2.2.1))
    have hp := hx4.mapPost hj2 ho5 y.1 (wrap64 ((s.T.getD j th0).has y.1 + y.2.2.1)) hm5
    simp only [hth.out] at hlk hup hp
    rw [hpp.out] at hlk hup
    have HP := Lib.hid hp
    clear hp hm5 ho5 hx4
    go_wp2_with fail
    go_region
    go_wp2_with fail
    go_ret
    obtain ⟨hx2, hOX, hfX⟩ := HX.out
    rw [← HZZ.out, HB.out, if_neg (by decide), hth.out]
    exact ⟨rfl, HP.out.chain (hOX.drewN _) hfX⟩
end Go.Proofs.Ytcmkkfpcdebfkaa
