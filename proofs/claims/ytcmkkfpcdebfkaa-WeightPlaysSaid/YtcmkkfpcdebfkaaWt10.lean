/-
  The reference's come.
-/
import Derived.Test.YtcmkkfpcdebfkaaWt8
namespace Go.Proofs.Ytcmkkfpcdebfkaa
open Go.RowKit

theorem MPost.congrX {w w' : World} {B : Nat} {f : Nat → Nat} {m : Nat} {n : Int} {H K : List Int} {X X' : List Th} {Y : List Wy} (h : MPost w w' B f m n H K X Y) (hf : flat h8C X = flat h8C X') (hl : X.length = X'.length) : MPost w w' B f m n H K X' Y := by
  obtain ⟨f', r', h1, h2⟩ := h
  refine ⟨f', r', ?_, h2⟩
  have hx : mrow H K X' Y r' = mrow H K X Y r' := by
    funext i
    match i with
    | 0 => rfl
    | 1 => rfl
    | 2 => simp only [mrow, hf, hl]
    | 3 => rfl
    | i + 4 => rfl
  unfold MAt at h1 ⊢
  rw [hx]
  exact h1
theorem MAt.label {w w' : World} {B : Nat} {f : Nat → Nat} {m : Nat} {n : Int} {H K : List Int} {X : List Th} {Y : List Wy} {r : MR} (h : MAt w B f m n H K X Y r) (hb : Below w.heap.size w w') {tb : Nat} (ht : w.heap.size ≤ tb) (a : Nat) :
    MAt w' B (fun z => if z = tb then a else f z) m n H K X Y r ∧ ∀ z, z < w.heap.size → (fun z => if z = tb then a else f z) z = f z := by
  have hf : ∀ z, z < w.heap.size → (fun z => if z = tb then a else f z) z = f z := fun z hz => if_neg (by omega)
  exact ⟨MAt.keep h (S := fun _ => False) (Only.of_below hb) (fun _ h => h.elim) hf, hf⟩

theorem mcome_bad (B : Nat) (f : Nat → Nat) (m : Nat) (n : Int) (s : WS) (r : MR) (i : Int) (w : World) (h : MS w B f m n s r) (he : comeE s i ≠ 0) :
    Calls Try.prog 57 #[.pointer (some ⟨m, 0, none⟩), .int .i64 i] w fun e w' => e = .returned (.int .i64 (comeE s i)) ∧ w = w' := by
  have c4 := h.d4
  unfold comeE at he ⊢
  by_cases h1 : i < 0
  · rw [if_pos (.inl h1)]
    have d1 : decide (i < 0) = true := by simp; omega
    clear h he c4
    go_enter Try.func57, Try.ntmps57
    go_wp2_with fail
    go_ret
    exact ⟨rfl, rfl⟩
  have d1 : decide (i < 0) = false := by simp; omega
  by_cases h2 : (s.Y.length : Int) ≤ i
  · rw [if_pos (.inr h2)]
    obtain ⟨k, rfl⟩ := Int.eq_ofNat_of_zero_le (show 0 ≤ i by omega)
    have d2 : decide ((s.Y.length : Int) ≤ (k : Int)) = true := by simp; omega
    have d2' : decide (s.Y.length ≤ k) = true := by simp; omega
    clear h he
    generalize s.Y.length = L at *
    go_enter Try.func57, Try.ntmps57
    go_wp2_with fail
    go_ret
    exact ⟨rfl, rfl⟩
  · rw [if_neg (by omega)] at he
    exact absurd rfl he

set_option maxRecDepth 100000 in
set_option maxHeartbeats 2000000 in
theorem mcome_ok (B : Nat) (f : Nat → Nat) (m : Nat) (n : Int) (s : WS) (r : MR) (k : Nat) (w : World) (h : MS w B f m n s r) (hok : WOk n s) (hB : B ≤ w.heap.size) (hk : k < s.Y.length) :
    Calls Try.prog 57 #[.pointer (some ⟨m, 0, none⟩), .int .i64 k] w fun e w' => e = .returned (.int .i64 0) ∧ MSPost w w' B f m n (s.came k) := by
  have c4 := h.d4
  have ho2 := h.o4
  obtain ⟨g, o, hA, _⟩ := ho2.some_of (show 0 < s.Y.length by omega)
  rw [hA] at c4 ho2
  obtain ⟨b', o', e, _, y0, y1, y2, y3⟩ := ho2.row.wy hk wyd
  obtain ⟨rfl, rfl⟩ : g = b' ∧ o = o' := by simpa using e
  obtain ⟨hn0, hnn, ht0, htn⟩ := hok.way k hk
  have hn8 := hok.n8
  have hy60 := hok.y60
  have d1 : decide ((k : Int) < 0) = false := by simp
  have d2 : decide ((s.Y.length : Int) ≤ (k : Int)) = false := by simp; omega
  have d2' : decide (s.Y.length ≤ k) = false := by simp; omega
  have hk1 : (k : Int) < (s.Y.length : Int) := by omega
  have hw1 : IntKind.i64.wrap ((k : Int) + 1) = (k : Int) + 1 := IntWalk.i64_in _ (by omega)
  have hcame : s.came k = ⟨cameT s.T (s.Y.getD k wyd), s.Y.take k ++ s.Y.drop (k + 1)⟩ := rfl
  rw [hcame]
  obtain ⟨j, hj⟩ : ∃ j : Nat, (s.Y.getD k wyd).2.1 = j := ⟨(s.Y.getD k wyd).2.1.toNat, by omega⟩
  obtain ⟨p, hp⟩ : ∃ p : Nat, (s.Y.getD k wyd).1 = p := ⟨(s.Y.getD k wyd).1.toNat, by omega⟩
  have hj2 : j < s.T.length := by omega
  have hj3 : (j : Int) < (s.T.length : Int) := by omega
  have hp2 : p < 8 := by omega
  have hp3 : (p : Int) < 8 := by omega
  generalize s.Y.getD k wyd = y at *
  rw [hj] at y1
  rw [hp] at y0
  have hct : cameT s.T y = if y.2.2.2 = true then s.T.set j ((s.T.getD j th0).turn (wrap64 ((s.T.getD j th0).back + y.2.2.1))) else s.T.set j ((s.T.getD j th0).put p (wrap64 ((s.T.getD j th0).has p + y.2.2.1))) := by
    unfold cameT
    rw [hj, Int.toNat_natCast, hp]
  rw [hct]
  obtain ⟨Z, HZ⟩ : ∃ Z : WS, Hid ((⟨if y.2.2.2 = true then s.T.set j ((s.T.getD j th0).turn (wrap64 ((s.T.getD j th0).back + y.2.2.1))) else s.T.set j ((s.T.getD j th0).put p (wrap64 ((s.T.getD j th0).has p + y.2.2.1))), s.Y.take k ++ s.Y.drop (k + 1)⟩ : WS) = Z) := ⟨_, rfl⟩
  rw [HZ.out]
  have hcap := ho2.cap_le
  obtain ⟨o2, hO2, hrow2⟩ := ho2.tailsD (k := k + 1) (by omega)
  have hfd : (flat wyC s.Y).drop ((k + 1) * 4) = flat wyC (s.Y.drop (k + 1)) := (flat_drop wyC_len s.Y (k + 1)).symm
  have hft : (flat wyC s.Y).take (k * 4) = flat wyC (s.Y.take k) := (flat_take wyC_len s.Y k).symm
  rw [hfd] at hrow2
  have hrow1 := (ho2.shrinkD (k := k) (by omega)).row
  rw [hft] at hrow1
  -- the message's copy
  have hbA : Below w.heap.size w (w.alloc (.cells #[.int .i64 p, .int .i64 j, .int .i64 y.2.2.1, .bool y.2.2.2] 95)) := (Below.refl _ _).alloc (Nat.le_refl _) _
  have hxb := Box.new w 95 #[.int .i64 p, .int .i64 j, .int .i64 y.2.2.1, .bool y.2.2.2]
  obtain ⟨hx1, hf1⟩ := MAt.label h hbA (tb := w.heap.size) (Nat.le_refl _) 0
  generalize hf1e : (fun z => if z = w.heap.size then 0 else f z) = f1 at *
  have hf1x : f1 w.heap.size = 0 := by rw [← hf1e]; exact if_pos rfl
  have cx4 : (w.alloc (.cells #[.int .i64 p, .int .i64 j, .int .i64 y.2.2.1, .bool y.2.2.2] 95)).cell? ⟨m, 4, none⟩ = some (.slice (some ⟨g, o, none⟩) s.Y.length r.c4) := by
    have := MAt.d4 hx1
    rw [hA] at this
    exact this
  have hr1 := hrow1.below hbA
  have hr2 := hrow2.below hbA
  have HOA := Lib.hid (Only.of_below (S := fun b => mlab (f b)) hbA)
  have HBB := Lib.hid (Nat.le_trans hB hbA.size)
  have HWS := Lib.hid hbA.size
  generalize hwe : w.alloc (.cells #[.int .i64 p, .int .i64 j, .int .i64 y.2.2.1, .bool y.2.2.2] 95) = w1 at *
  have hla : (s.Y.take k).length = k := by rw [List.length_take]; omega
  have hlb : (s.Y.drop (k + 1)).length = s.Y.length - (k + 1) := by rw [List.length_drop]
  have hbP : Below w1.heap.size w1 (w1.alloc (.cells #[.slice (some ⟨g, o, none⟩) k r.c4, .slice (some ⟨g, o2, none⟩) (s.Y.length - (k + 1)) (r.c4 - (k + 1))] 93)).drew := ((Below.refl _ _).alloc (Nat.le_refl _) _).drew
  have HCT := Lib.hid (show Calls Try.prog 148 #[.slice (some ⟨w1.heap.size, 0, none⟩) 2 2] (w1.alloc (.cells #[.slice (some ⟨g, o, none⟩) k r.c4, .slice (some ⟨g, o2, none⟩) (s.Y.length - (k + 1)) (r.c4 - (k + 1))] 93)).drew (wyPost (s.Y.take k ++ s.Y.drop (k + 1)) (w1.alloc (.cells #[.slice (some ⟨g, o, none⟩) k r.c4, .slice (some ⟨g, o2, none⟩) (s.Y.length - (k + 1)) (r.c4 - (k + 1))] 93)).drew) by
    have hbx : Box (w1.alloc (.cells #[.slice (some ⟨g, o, none⟩) k r.c4, .slice (some ⟨g, o2, none⟩) (s.Y.length - (k + 1)) (r.c4 - (k + 1))] 93)).drew w1.heap.size 93 #[.slice (some ⟨g, o, none⟩) k r.c4, .slice (some ⟨g, o2, none⟩) (s.Y.length - (k + 1)) (r.c4 - (k + 1))] := (Box.new _ _ _).drew
    refine concat_wy w1.heap.size (some ⟨g, o, none⟩) (some ⟨g, o2, none⟩) r.c4 (r.c4 - (k + 1)) (s.Y.take k) (s.Y.drop (k + 1)) _ ⟨?_, ?_, ?_, ?_, (fun h => by cases h), (fun h => by cases h), hbx.lt⟩ (by omega) (by omega)
    · rw [hla]; exact (hbx.cell 0).trans rfl
    · rw [hlb]; exact (hbx.cell 1).trans rfl
    · exact (hr1.more HWS.out |>.below hbP).more hbP.size
    · exact (hr2.more HWS.out |>.below hbP).more hbP.size)
  generalize s.Y.take k ++ s.Y.drop (k + 1) = Y' at *
  have HX2 := Lib.hid (MAt.below hx1 hbP)
  have HF1 := Lib.hid (And.intro hf1 hf1x)
  have HB2 := Lib.hid (Below.size hbP)
  have HPB := Lib.hid hbP
  have HXB2 := Lib.hid (hxb.below (B := w1.heap.size) hbP hxb.lt)
  have cx4P : (w1.alloc (.cells #[.slice (some ⟨g, o, none⟩) k r.c4, .slice (some ⟨g, o2, none⟩) (s.Y.length - (k + 1)) (r.c4 - (k + 1))] 93)).cell? ⟨m, 4, none⟩ = some (.slice (some ⟨g, o, none⟩) s.Y.length r.c4) := by
    have := MAt.d4 (MAt.below hx1 ((Below.refl w1.heap.size w1).alloc (Nat.le_refl _) (.cells #[.slice (some ⟨g, o, none⟩) k r.c4, .slice (some ⟨g, o2, none⟩) (s.Y.length - (k + 1)) (r.c4 - (k + 1))] 93)))
    rw [hA] at this
    exact this
  unfold maxLen at hcap
  have q0 : (0 : Int) ≤ (k : Int) + 1 := by omega
  have q2 : (k : Int) + 1 ≤ (s.Y.length : Int) := by omega
  have q3 : (k : Int) ≤ (r.c4 : Int) := by omega
  have q4 : k ≤ r.c4 := by omega
  clear h hok hx1 hf1 hf1x ho2 hbA hA e hn0 hnn ht0 htn hn8 hcame hct hxb hrow1 hrow2 hr1 hr2 hfd hft hbP hla hlb hB hf1e
  go_enter Try.func57, Try.ntmps57
  go_wp2_with fail
  go_region_law ((go_simp; go_at_call 148; refine HCT.out.mono ?_; rintro e w5 ⟨v5, rfl, hown5, hb5⟩; obtain ⟨A5, c5, rfl, hq5⟩ := OwnAt.of_own hown5; have e1 : w5.cell? ⟨m, 4, none⟩ = some (.slice r.A4 s.Y.length r.c4) := MAt.d4 (MAt.below HX2.out hb5); have e2 := (RBox.box (MAt.below HX2.out hb5)).frozen 4))
  all_goals
    go_upto_region 5 with fail
    have hX := MAt.wayPost HX2.out (Only.of_below hb5) (A := A5) (c := c5) (Y' := Y') (hq5.lower (Nat.le_trans HBB.out HB2.out)) (fun b hb => .inr (rblk_lt hq5 hb).1)
    have hw6 : ∃ w6, w6 = w5.setCell ⟨m, 4, none⟩ (.slice A5 Y'.length c5) := ⟨_, rfl⟩
    obtain ⟨w6, hw6⟩ := hw6
    rw [← hw6] at hX ⊢
    obtain ⟨f2, r2, hx6, hO6, hf6⟩ := hX
    have hxb6 := hO6.box HXB2.out (fun e => by rw [HF1.out.2] at e; unfold mlab at e; omega)
    have z0 : w6.cell? ⟨w.heap.size, 0, none⟩ = some (.int .i64 p) := by rw [hxb6.cell]; rfl
    have z1 : w6.cell? ⟨w.heap.size, 1, none⟩ = some (.int .i64 j) := by rw [hxb6.cell]; rfl
    have z2 : w6.cell? ⟨w.heap.size, 2, none⟩ = some (.int .i64 y.2.2.1) := by rw [hxb6.cell]; rfl
    have z3 : w6.cell? ⟨w.heap.size, 3, none⟩ = some (.bool y.2.2.2) := by rw [hxb6.cell]; rfl
    have hO0 : Only (fun b => mlab (f b)) w w6 := (HOA.out.below HPB.out).andThen hO6 fun b hb hs => by rw [HF1.out.1 b hb] at hs; exact hs
    have hf0 : ∀ b, b < w.heap.size → f2 b = f b := fun b hb => (hf6 b (Nat.lt_of_lt_of_le hb (Nat.le_trans HWS.out HB2.out))).trans (HF1.out.1 b hb)
    have t2 := hx6.d2
    have t3 := hx6.d3
    rw [List.length_map] at t2
    obtain ⟨g7, o7, hA7, _, p7⟩ := hx6.hasC hj2 hp2
    obtain ⟨g8, o8, hA8, p8⟩ := hx6.backC (show j < (s.T.map (·.back)).length by simpa using hj2)
    rw [map_back_get] at p8
    have f7 := hx6.o3
    have f8 := hx6.o2
    rw [hA7] at t3 f7
    rw [hA8] at t2 f8
    have e7 := f7.frozen (o7 + j * 8 + p)
    have e8 := f8.frozen (o8 + j)
    have HTH : ∃ th, Hid (s.T.getD j th0 = th) := ⟨_, rfl⟩
    obtain ⟨th, hth⟩ := HTH
    rw [hth.out] at p7 p8
    have HX6 := Lib.hid hx6
    have HO0 := Lib.hid hO0
    have HF0 := Lib.hid hf0
    clear f7 f8 hx6 hO6 hf6 hxb6 hO0 hf0 e1 e2 hb5 hq5 hown5 hw6
    cases hb : y.2.2.2 with
    | true =>
      rw [hb] at z3
      have HB := Lib.hid hb
      clear hb
      go_wp2_with fail
      go_region
      go_wp2_with fail
      go_ret
      refine ⟨rfl, ?_⟩
      have hq := (MAt.setBack HX6.out (k := j) hA8 (wrap64 (th.back + y.2.2.1))).below ((Below.refl _ _).drew)
      rw [← HZ.out, HB.out, if_pos rfl]
      show MPost w _ B f m n ((s.T.set j _).map (·.home)) ((s.T.set j _).map (·.back)) (s.T.set j _) Y'
      rw [map_home_turn, map_back_turn, hth.out]
      refine (hq.chain HO0.out HF0.out).congrX ?_ (by simp)
      rw [← hth.out]
      exact (flat_h8_turn _ _ _).symm
    | false =>
      rw [hb] at z3
      have HB := Lib.hid hb
      clear hb
      go_wp2_with fail
      go_region
      go_wp2_with fail
      go_ret
      refine ⟨rfl, ?_⟩
      have hq := (MAt.setHas HX6.out hj2 hp2 hA7 (wrap64 (th.has p + y.2.2.1))).below ((Below.refl _ _).drew)
      rw [← HZ.out, HB.out, if_neg (by decide)]
      show MPost w _ B f m n ((s.T.set j _).map (·.home)) ((s.T.set j _).map (·.back)) (s.T.set j _) Y'
      rw [map_home_put, map_back_put, hth.out]
      rw [hth.out] at hq
      exact hq.chain HO0.out HF0.out
end Go.Proofs.Ytcmkkfpcdebfkaa
