
/-
  Take and Give of package limit.
-/
import Derived.Test.YtgjimjpbogadjaaLm2
import Derived.Test.YtgjimjpbogadjaaLmDI
namespace Go.Proofs.Ytgjimjpbogadjaa
open Go.RowKit

theorem begin_ok {l : List Lm} {n : Int} (h : beginE l n = 0) : LmOk l ∧ ∃ i : Nat, lmAt l n = (i : Int) ∧ i < l.length := by
  unfold beginE at h
  by_cases h1 : lmF l = 0
  · rw [if_neg (by simpa using h1)] at h
    refine ⟨lmF_ok h1, ?_⟩
    rcases lmAt_range l n with h2 | h2
    · rw [h2] at h; cases h
    · exact h2
  · rw [if_pos h1] at h; exact absurd h h1
/-- Rows that a call gives, and its error. -/
def LmRes (r : Int × List Lm) (w : World) (e : Ending) (w' : World) : Prop :=
  ∃ A c, e = .returned (.tuple #[.slice A r.2.length c, .int .i64 r.1]) ∧ Row w' w'.heap.size A (flat lmC r.2) ∧ r.2.length ≤ 101 ∧ Below w.heap.size w w'
/-- One cell of one element set. -/
theorem OwnAt.putF {α : Type} {ec : α → List Value} {size : Nat} (hs : ∀ x, (ec x).length = size) {w : World} {base : Nat} {e : TypeId} {n cap g o : Nat} {l : List α} (h : OwnAt w base e size (some ⟨g, o, none⟩) n cap (flat ec l)) {i j : Nat} {x : α} (u : Value) (hx : l[i]? = some x) (hj : j < size) (y : α) (hy : ec y = (ec x).set j u) :
    OwnAt (w.setCell ⟨g, o + i * size + j, none⟩ u) base e size (some ⟨g, o, none⟩) n cap (flat ec (l.set i y)) := by
  have h1 := h.set (j := i * size + j) u
  rw [flat_set hs l u hx hj y hy, ← Nat.add_assoc] at h1
  exact h1
theorem amt_iff (n : Int) : amt n = true ↔ 0 ≤ n ∧ n ≤ 1073741824 := by unfold amt; simp

set_option maxRecDepth 100000 in
set_option maxHeartbeats 2000000 in
theorem limtake_any (A : Option Addr) (c : Nat) (l : List Lm) (n a b : Int) (w : World) (hr : Row w w.heap.size A (flat lmC l)) (hA : A = none → c = 0) (hlm : l.length ≤ maxLen) :
    Calls Try.prog 33 #[.slice A l.length c, .int .i64 n, .int .i64 a, .int .i64 b] w fun e w' => LmRes (takeF l n a b) w e w' := by
  have HBG := Lib.hid (limbegin_any n A c l w hr hlm)
  have HR := Lib.hid (fun (w' : World) (hb : Below w.heap.size w w') => (hr.below hb).more hb.size)
  have HFF : Hid (takeF l n a b = if beginE l n ≠ 0 then (beginE l n, []) else if tkE (l.getD (lmAt l n).toNat lm0) a b ≠ 0 then (tkE (l.getD (lmAt l n).toNat lm0) a b, []) else (0, l.set (lmAt l n).toNat (tkR (l.getD (lmAt l n).toNat lm0) a b))) := rfl
  generalize takeF l n a b = F at *
  unfold maxLen at hlm
  by_cases hE : beginE l n = 0
  case neg =>
    obtain ⟨E, hEE⟩ : ∃ E, beginE l n = E := ⟨_, rfl⟩
    rw [hEE] at hE HBG HFF
    rw [if_neg hE] at HBG
    have b1 : (E != 0) = true := by simpa using hE
    have HF := Lib.hid (show F = (E, []) by rw [HFF.out, if_pos hE])
    clear hEE hE HFF hr hA
    go_enter Try.func33, Try.ntmps33
    go_wp2_with fail
    refine HBG.out.mono ?_
    rintro e w1 ⟨rfl, hb1⟩
    go_wp2_with fail
    go_ret2
    rw [HF.out]
    exact ⟨none, 0, rfl, Row.nil, Nat.zero_le _, hb1⟩
  obtain ⟨hok, i, hi, hil⟩ := begin_ok hE
  rw [hE, if_pos rfl, hi] at HBG
  rw [hE, if_neg (by simp), hi, Int.toNat_natCast] at HFF
  have hi1 : (i : Int) < (l.length : Int) := by omega
  obtain ⟨k1, k2, k3, k4, k5, k6⟩ := hok.rows _ (getD_mem lm0 hil)
  have hl1 := hok.len
  obtain ⟨g0, o0, rfl, hg0, c0, c1, c2, c3, c4⟩ := hr.lm hil lm0
  have HCL := Lib.hid (fun (w' : World) (hb : Below w.heap.size w w') => clone_lm (some ⟨g0, o0, none⟩) c l _ w' (HR.out w' hb) hA (by omega))
  have HX := Lib.hid (getD_some lm0 hil)
  have HB0 := Lib.hid (fun (w' : World) (hb : Below w.heap.size w w') (b o : Nat) (hlt : b < w.heap.size) => hb.cell (p := ⟨b, o, none⟩) hlt)
  generalize l.getD i lm0 = y at *
  obtain ⟨y0, y1, y2, y3, y4⟩ := y
  dsimp only at c0 c1 c2 c3 c4 k1 k2 k3 k4 k5 k6
  clear hr hA hE hi hok
  by_cases u0 : amt a = false
  · have f0 : amt a = false := u0
    have HF := Lib.hid (show F = (1, []) by
      rw [HFF.out]
      have hq : tkE ⟨y0, y1, y2, y3, y4⟩ a b = 1 := by
        unfold tkE
        dsimp only
        rw [if_pos (by rw [f0]; rfl)]
      rw [hq]
      rfl)
    clear HFF u0
    go_enter Try.func33, Try.ntmps33
    go_wp2_with fail
    refine HBG.out.mono ?_
    rintro e w1 ⟨rfl, hb1⟩
    have HB1 := Lib.hid hb1
    have hs1 := hb1.size
    have d0 := (HB0.out w1 hb1 g0 (o0 + i * 5) hg0).trans c0
    have d1 := (HB0.out w1 hb1 g0 (o0 + i * 5 + 1) hg0).trans c1
    have d2 := (HB0.out w1 hb1 g0 (o0 + i * 5 + 2) hg0).trans c2
    have d3 := (HB0.out w1 hb1 g0 (o0 + i * 5 + 3) hg0).trans c3
    have d4 := (HB0.out w1 hb1 g0 (o0 + i * 5 + 4) hg0).trans c4
    clear hb1 c0 c1 c2 c3 c4
    go_wp2_with (go_at_call 86; refine (amount_any _ _).mono ?_; rintro e w' ⟨rfl, rfl⟩)
    go_ret2
    rw [HF.out]
    exact ⟨none, 0, rfl, Row.nil, Nat.zero_le _, HB1.out.alloc HB1.out.size _⟩
  have f0 : amt a = true := by simpa using u0
  have r0 := (amt_iff a).1 f0
  by_cases u1 : amt b = false
  · have f1 : amt b = false := u1
    have HF := Lib.hid (show F = (1, []) by
      rw [HFF.out]
      have hq : tkE ⟨y0, y1, y2, y3, y4⟩ a b = 1 := by
        unfold tkE
        dsimp only
        rw [if_pos (by rw [f0, f1]; rfl)]
      rw [hq]
      rfl)
    clear HFF u0 u1
    go_enter Try.func33, Try.ntmps33
    go_wp2_with fail
    refine HBG.out.mono ?_
    rintro e w1 ⟨rfl, hb1⟩
    have HB1 := Lib.hid hb1
    have hs1 := hb1.size
    have d0 := (HB0.out w1 hb1 g0 (o0 + i * 5) hg0).trans c0
    have d1 := (HB0.out w1 hb1 g0 (o0 + i * 5 + 1) hg0).trans c1
    have d2 := (HB0.out w1 hb1 g0 (o0 + i * 5 + 2) hg0).trans c2
    have d3 := (HB0.out w1 hb1 g0 (o0 + i * 5 + 3) hg0).trans c3
    have d4 := (HB0.out w1 hb1 g0 (o0 + i * 5 + 4) hg0).trans c4
    clear hb1 c0 c1 c2 c3 c4
    go_wp2_with (go_at_call 86; refine (amount_any _ _).mono ?_; rintro e w' ⟨rfl, rfl⟩)
    go_ret2
    rw [HF.out]
    exact ⟨none, 0, rfl, Row.nil, Nat.zero_le _, HB1.out.alloc HB1.out.size _⟩
  have f1 : amt b = true := by simpa using u1
  have r1 := (amt_iff b).1 f1
  by_cases u2 : y3 < y1 + a
  · have f2 : decide (y3 < y1 + a) = true := decide_eq_true u2
    have HF := Lib.hid (show F = (6, []) by
      rw [HFF.out]
      have hq : tkE ⟨y0, y1, y2, y3, y4⟩ a b = 6 := by
        unfold tkE
        dsimp only
        rw [if_neg (by rw [f0, f1]; decide), if_pos u2]
      rw [hq]
      rfl)
    clear HFF u0 u1 u2
    go_enter Try.func33, Try.ntmps33
    go_wp2_with fail
    refine HBG.out.mono ?_
    rintro e w1 ⟨rfl, hb1⟩
    have HB1 := Lib.hid hb1
    have hs1 := hb1.size
    have d0 := (HB0.out w1 hb1 g0 (o0 + i * 5) hg0).trans c0
    have d1 := (HB0.out w1 hb1 g0 (o0 + i * 5 + 1) hg0).trans c1
    have d2 := (HB0.out w1 hb1 g0 (o0 + i * 5 + 2) hg0).trans c2
    have d3 := (HB0.out w1 hb1 g0 (o0 + i * 5 + 3) hg0).trans c3
    have d4 := (HB0.out w1 hb1 g0 (o0 + i * 5 + 4) hg0).trans c4
    clear hb1 c0 c1 c2 c3 c4
    go_wp2_with (go_at_call 86; refine (amount_any _ _).mono ?_; rintro e w' ⟨rfl, rfl⟩)
    go_ret2
    rw [HF.out]
    exact ⟨none, 0, rfl, Row.nil, Nat.zero_le _, HB1.out.alloc HB1.out.size _⟩
  have f2 : decide (y3 < y1 + a) = false := decide_eq_false u2
  by_cases u3 : y4 < y2 + b
  · have f3 : decide (y4 < y2 + b) = true := decide_eq_true u3
    have HF := Lib.hid (show F = (2, []) by
      rw [HFF.out]
      have hq : tkE ⟨y0, y1, y2, y3, y4⟩ a b = 2 := by
        unfold tkE
        dsimp only
        rw [if_neg (by rw [f0, f1]; decide), if_neg u2, if_pos u3]
      rw [hq]
      rfl)
    clear HFF u0 u1 u2 u3
    go_enter Try.func33, Try.ntmps33
    go_wp2_with fail
    refine HBG.out.mono ?_
    rintro e w1 ⟨rfl, hb1⟩
    have HB1 := Lib.hid hb1
    have hs1 := hb1.size
    have d0 := (HB0.out w1 hb1 g0 (o0 + i * 5) hg0).trans c0
    have d1 := (HB0.out w1 hb1 g0 (o0 + i * 5 + 1) hg0).trans c1
    have d2 := (HB0.out w1 hb1 g0 (o0 + i * 5 + 2) hg0).trans c2
    have d3 := (HB0.out w1 hb1 g0 (o0 + i * 5 + 3) hg0).trans c3
    have d4 := (HB0.out w1 hb1 g0 (o0 + i * 5 + 4) hg0).trans c4
    clear hb1 c0 c1 c2 c3 c4
    go_wp2_with (go_at_call 86; refine (amount_any _ _).mono ?_; rintro e w' ⟨rfl, rfl⟩)
    go_ret2
    rw [HF.out]
    exact ⟨none, 0, rfl, Row.nil, Nat.zero_le _, HB1.out.alloc HB1.out.size _⟩
  have f3 : decide (y4 < y2 + b) = false := decide_eq_false u3
  have HF := Lib.hid (show F = (0, l.set i (tkR ⟨y0, y1, y2, y3, y4⟩ a b)) by
      rw [HFF.out]
      have hq : tkE ⟨y0, y1, y2, y3, y4⟩ a b = 0 := by
        unfold tkE
        dsimp only
        rw [if_neg (by rw [f0, f1]; decide), if_neg u2, if_neg u3]
      rw [hq]
      rfl)
  clear HFF u0 u1 u2 u3
  go_enter Try.func33, Try.ntmps33
  go_wp2_with fail
  refine HBG.out.mono ?_
  rintro e w1 ⟨rfl, hb1⟩
  have HB1 := Lib.hid hb1
  have hs1 := hb1.size
  have d0 := (HB0.out w1 hb1 g0 (o0 + i * 5) hg0).trans c0
  have d1 := (HB0.out w1 hb1 g0 (o0 + i * 5 + 1) hg0).trans c1
  have d2 := (HB0.out w1 hb1 g0 (o0 + i * 5 + 2) hg0).trans c2
  have d3 := (HB0.out w1 hb1 g0 (o0 + i * 5 + 3) hg0).trans c3
  have d4 := (HB0.out w1 hb1 g0 (o0 + i * 5 + 4) hg0).trans c4
  clear hb1 c0 c1 c2 c3 c4
  go_wp2_with (go_at_call 86; refine (amount_any _ _).mono ?_; rintro e w' ⟨rfl, rfl⟩)
  refine (HCL.out _ (HB1.out.alloc HB1.out.size _)).mono ?_
  rintro e w2 ⟨v, rfl, hown, hb2⟩
  obtain ⟨A3, c3', rfl, ho3⟩ := OwnAt.of_own hown
  obtain ⟨g, o, rfl, _⟩ := ho3.some_of (by omega)
  have hgl := ho3.lt
  have HB2 := Lib.hid ((HB1.out.alloc HB1.out.size _).trans (hb2.mono (by simp; omega)))
  obtain ⟨g', o', hg', _, e0, e1, e2, e3, e4⟩ := ho3.row.lm hil lm0
  injection hg' with hg'
  injection hg' with hg1 hg2
  subst hg1 hg2
  have hgd : l.getD i lm0 = ⟨y0, y1, y2, y3, y4⟩ := by rw [List.getD_eq_getElem?_getD, HX.out]; rfl
  rw [hgd] at e0 e1 e2 e3 e4
  dsimp only at e0 e1 e2 e3 e4
  have hfz := fun j => ho3.frozen j
  have f1' := hfz (o + i * 5 + 1)
  have f2' := hfz (o + i * 5 + 2)
  have f3' := hfz (o + i * 5 + 3)
  have f4' := hfz (o + i * 5 + 4)
  have hset1 := ho3.putF lmC_len (j := 1) (.int .i64 (y1 + a)) HX.out (by decide) ⟨y0, y1 + a, y2, y3, y4⟩ rfl
  have hset2 := hset1.putF lmC_len (i := i) (x := ⟨y0, y1 + a, y2, y3, y4⟩) (j := 2) (.int .i64 (y2 + b)) (by rw [List.getElem?_set_self (by exact hil)]) (by decide) ⟨y0, y1 + a, y2 + b, y3, y4⟩ rfl
  rw [List.set_set] at hset2
  have HS := Lib.hid hset2
  have HS1 := Lib.hid (show w.heap.size ≤ g by have := HB1.out.size; simp at hgl; omega)
  clear hown hb2 ho3 hgl hgd hset1 hset2 HX hfz d0 d1 d2 d3 d4
  go_wp2_with fail
  go_ret2
  rw [HF.out]
  refine ⟨some ⟨g, o, none⟩, c3', by simp, HS.out.row, by simp; omega, ?_⟩
  exact (HB2.out.setCell (p := ⟨g, _, none⟩) HS1.out _).setCell (p := ⟨g, _, none⟩) HS1.out _

set_option maxRecDepth 100000 in
set_option maxHeartbeats 2000000 in
theorem limgive_any (A : Option Addr) (c : Nat) (l : List Lm) (n a b : Int) (w : World) (hr : Row w w.heap.size A (flat lmC l)) (hA : A = none → c = 0) (hlm : l.length ≤ maxLen) :
    Calls Try.prog 34 #[.slice A l.length c, .int .i64 n, .int .i64 a, .int .i64 b] w fun e w' => LmRes (giveF l n a b) w e w' := by
  have HBG := Lib.hid (limbegin_any n A c l w hr hlm)
  have HR := Lib.hid (fun (w' : World) (hb : Below w.heap.size w w') => (hr.below hb).more hb.size)
  have HFF : Hid (giveF l n a b = if beginE l n ≠ 0 then (beginE l n, []) else if gvE (l.getD (lmAt l n).toNat lm0) a b ≠ 0 then (gvE (l.getD (lmAt l n).toNat lm0) a b, []) else (0, l.set (lmAt l n).toNat (gvR (l.getD (lmAt l n).toNat lm0) a b))) := rfl
  generalize giveF l n a b = F at *
  unfold maxLen at hlm
  by_cases hE : beginE l n = 0
  case neg =>
    obtain ⟨E, hEE⟩ : ∃ E, beginE l n = E := ⟨_, rfl⟩
    rw [hEE] at hE HBG HFF
    rw [if_neg hE] at HBG
    have b1 : (E != 0) = true := by simpa using hE
    have HF := Lib.hid (show F = (E, []) by rw [HFF.out, if_pos hE])
    clear hEE hE HFF hr hA
    go_enter Try.func34, Try.ntmps34
    go_wp2_with fail
    refine HBG.out.mono ?_
    rintro e w1 ⟨rfl, hb1⟩
    go_wp2_with fail
    go_ret2
    rw [HF.out]
    exact ⟨none, 0, rfl, Row.nil, Nat.zero_le _, hb1⟩
  obtain ⟨hok, i, hi, hil⟩ := begin_ok hE
  rw [hE, if_pos rfl, hi] at HBG
  rw [hE, if_neg (by simp), hi, Int.toNat_natCast] at HFF
  have hi1 : (i : Int) < (l.length : Int) := by omega
  obtain ⟨k1, k2, k3, k4, k5, k6⟩ := hok.rows _ (getD_mem lm0 hil)
  have hl1 := hok.len
  obtain ⟨g0, o0, rfl, hg0, c0, c1, c2, c3, c4⟩ := hr.lm hil lm0
  have HCL := Lib.hid (fun (w' : World) (hb : Below w.heap.size w w') => clone_lm (some ⟨g0, o0, none⟩) c l _ w' (HR.out w' hb) hA (by omega))
  have HX := Lib.hid (getD_some lm0 hil)
  have HB0 := Lib.hid (fun (w' : World) (hb : Below w.heap.size w w') (b o : Nat) (hlt : b < w.heap.size) => hb.cell (p := ⟨b, o, none⟩) hlt)
  generalize l.getD i lm0 = y at *
  obtain ⟨y0, y1, y2, y3, y4⟩ := y
  dsimp only at c0 c1 c2 c3 c4 k1 k2 k3 k4 k5 k6
  clear hr hA hE hi hok
  by_cases u0 : amt a = false
  · have f0 : amt a = false := u0
    have HF := Lib.hid (show F = (1, []) by
      rw [HFF.out]
      have hq : gvE ⟨y0, y1, y2, y3, y4⟩ a b = 1 := by
        unfold gvE
        dsimp only
        rw [if_pos (.inl (by rw [f0]; rfl))]
      rw [hq]
      rfl)
    clear HFF u0
    go_enter Try.func34, Try.ntmps34
    go_wp2_with fail
    refine HBG.out.mono ?_
    rintro e w1 ⟨rfl, hb1⟩
    have HB1 := Lib.hid hb1
    have hs1 := hb1.size
    have d0 := (HB0.out w1 hb1 g0 (o0 + i * 5) hg0).trans c0
    have d1 := (HB0.out w1 hb1 g0 (o0 + i * 5 + 1) hg0).trans c1
    have d2 := (HB0.out w1 hb1 g0 (o0 + i * 5 + 2) hg0).trans c2
    have d3 := (HB0.out w1 hb1 g0 (o0 + i * 5 + 3) hg0).trans c3
    have d4 := (HB0.out w1 hb1 g0 (o0 + i * 5 + 4) hg0).trans c4
    clear hb1 c0 c1 c2 c3 c4
    go_wp2_with (go_at_call 86; refine (amount_any _ _).mono ?_; rintro e w' ⟨rfl, rfl⟩)
    go_ret2
    rw [HF.out]
    exact ⟨none, 0, rfl, Row.nil, Nat.zero_le _, HB1.out⟩
  have f0 : amt a = true := by simpa using u0
  have r0 := (amt_iff a).1 f0
  by_cases u1 : amt b = false
  · have f1 : amt b = false := u1
    have HF := Lib.hid (show F = (1, []) by
      rw [HFF.out]
      have hq : gvE ⟨y0, y1, y2, y3, y4⟩ a b = 1 := by
        unfold gvE
        dsimp only
        rw [if_pos (.inl (by rw [f0, f1]; rfl))]
      rw [hq]
      rfl)
    clear HFF u0 u1
    go_enter Try.func34, Try.ntmps34
    go_wp2_with fail
    refine HBG.out.mono ?_
    rintro e w1 ⟨rfl, hb1⟩
    have HB1 := Lib.hid hb1
    have hs1 := hb1.size
    have d0 := (HB0.out w1 hb1 g0 (o0 + i * 5) hg0).trans c0
    have d1 := (HB0.out w1 hb1 g0 (o0 + i * 5 + 1) hg0).trans c1
    have d2 := (HB0.out w1 hb1 g0 (o0 + i * 5 + 2) hg0).trans c2
    have d3 := (HB0.out w1 hb1 g0 (o0 + i * 5 + 3) hg0).trans c3
    have d4 := (HB0.out w1 hb1 g0 (o0 + i * 5 + 4) hg0).trans c4
    clear hb1 c0 c1 c2 c3 c4
    go_wp2_with (go_at_call 86; refine (amount_any _ _).mono ?_; rintro e w' ⟨rfl, rfl⟩)
    go_ret2
    rw [HF.out]
    exact ⟨none, 0, rfl, Row.nil, Nat.zero_le _, HB1.out⟩
  have f1 : amt b = true := by simpa using u1
  have r1 := (amt_iff b).1 f1
  by_cases u2 : y1 < a
  · have f2 : decide (y1 < a) = true := decide_eq_true u2
    have HF := Lib.hid (show F = (1, []) by
      rw [HFF.out]
      have hq : gvE ⟨y0, y1, y2, y3, y4⟩ a b = 1 := by
        unfold gvE
        dsimp only
        rw [if_pos (.inr (.inl u2))]
      rw [hq]
      rfl)
    clear HFF u0 u1 u2
    go_enter Try.func34, Try.ntmps34
    go_wp2_with fail
    refine HBG.out.mono ?_
    rintro e w1 ⟨rfl, hb1⟩
    have HB1 := Lib.hid hb1
    have hs1 := hb1.size
    have d0 := (HB0.out w1 hb1 g0 (o0 + i * 5) hg0).trans c0
    have d1 := (HB0.out w1 hb1 g0 (o0 + i * 5 + 1) hg0).trans c1
    have d2 := (HB0.out w1 hb1 g0 (o0 + i * 5 + 2) hg0).trans c2
    have d3 := (HB0.out w1 hb1 g0 (o0 + i * 5 + 3) hg0).trans c3
    have d4 := (HB0.out w1 hb1 g0 (o0 + i * 5 + 4) hg0).trans c4
    clear hb1 c0 c1 c2 c3 c4
    go_wp2_with (go_at_call 86; refine (amount_any _ _).mono ?_; rintro e w' ⟨rfl, rfl⟩)
    go_ret2
    rw [HF.out]
    exact ⟨none, 0, rfl, Row.nil, Nat.zero_le _, HB1.out⟩
  have f2 : decide (y1 < a) = false := decide_eq_false u2
  by_cases u3 : y2 < b
  · have f3 : decide (y2 < b) = true := decide_eq_true u3
    have HF := Lib.hid (show F = (1, []) by
      rw [HFF.out]
      have hq : gvE ⟨y0, y1, y2, y3, y4⟩ a b = 1 := by
        unfold gvE
        dsimp only
        rw [if_pos (.inr (.inr u3))]
      rw [hq]
      rfl)
    clear HFF u0 u1 u2 u3
    go_enter Try.func34, Try.ntmps34
    go_wp2_with fail
    refine HBG.out.mono ?_
    rintro e w1 ⟨rfl, hb1⟩
    have HB1 := Lib.hid hb1
    have hs1 := hb1.size
    have d0 := (HB0.out w1 hb1 g0 (o0 + i * 5) hg0).trans c0
    have d1 := (HB0.out w1 hb1 g0 (o0 + i * 5 + 1) hg0).trans c1
    have d2 := (HB0.out w1 hb1 g0 (o0 + i * 5 + 2) hg0).trans c2
    have d3 := (HB0.out w1 hb1 g0 (o0 + i * 5 + 3) hg0).trans c3
    have d4 := (HB0.out w1 hb1 g0 (o0 + i * 5 + 4) hg0).trans c4
    clear hb1 c0 c1 c2 c3 c4
    go_wp2_with (go_at_call 86; refine (amount_any _ _).mono ?_; rintro e w' ⟨rfl, rfl⟩)
    go_ret2
    rw [HF.out]
    exact ⟨none, 0, rfl, Row.nil, Nat.zero_le _, HB1.out⟩
  have f3 : decide (y2 < b) = false := decide_eq_false u3
  have HF := Lib.hid (show F = (0, l.set i (gvR ⟨y0, y1, y2, y3, y4⟩ a b)) by
      rw [HFF.out]
      have hq : gvE ⟨y0, y1, y2, y3, y4⟩ a b = 0 := by
        unfold gvE
        dsimp only
        rw [if_neg (by rintro (h | h | h); (rw [f0, f1] at h; cases h); exact u2 h; exact u3 h)]
      rw [hq]
      rfl)
  clear HFF u0 u1 u2 u3
  go_enter Try.func34, Try.ntmps34
  go_wp2_with fail
  refine HBG.out.mono ?_
  rintro e w1 ⟨rfl, hb1⟩
  have HB1 := Lib.hid hb1
  have hs1 := hb1.size
  have d0 := (HB0.out w1 hb1 g0 (o0 + i * 5) hg0).trans c0
  have d1 := (HB0.out w1 hb1 g0 (o0 + i * 5 + 1) hg0).trans c1
  have d2 := (HB0.out w1 hb1 g0 (o0 + i * 5 + 2) hg0).trans c2
  have d3 := (HB0.out w1 hb1 g0 (o0 + i * 5 + 3) hg0).trans c3
  have d4 := (HB0.out w1 hb1 g0 (o0 + i * 5 + 4) hg0).trans c4
  clear hb1 c0 c1 c2 c3 c4
  go_wp2_with (go_at_call 86; refine (amount_any _ _).mono ?_; rintro e w' ⟨rfl, rfl⟩)
  refine (HCL.out _ (HB1.out)).mono ?_
  rintro e w2 ⟨v, rfl, hown, hb2⟩
  obtain ⟨A3, c3', rfl, ho3⟩ := OwnAt.of_own hown
  obtain ⟨g, o, rfl, _⟩ := ho3.some_of (by omega)
  have hgl := ho3.lt
  have HB2 := Lib.hid ((HB1.out).trans (hb2.mono hs1))
  obtain ⟨g', o', hg', _, e0, e1, e2, e3, e4⟩ := ho3.row.lm hil lm0
  injection hg' with hg'
  injection hg' with hg1 hg2
  subst hg1 hg2
  have hgd : l.getD i lm0 = ⟨y0, y1, y2, y3, y4⟩ := by rw [List.getD_eq_getElem?_getD, HX.out]; rfl
  rw [hgd] at e0 e1 e2 e3 e4
  dsimp only at e0 e1 e2 e3 e4
  have hfz := fun j => ho3.frozen j
  have f1' := hfz (o + i * 5 + 1)
  have f2' := hfz (o + i * 5 + 2)
  have f3' := hfz (o + i * 5 + 3)
  have f4' := hfz (o + i * 5 + 4)
  have hset1 := ho3.putF lmC_len (j := 1) (.int .i64 (y1 - a)) HX.out (by decide) ⟨y0, y1 - a, y2, y3, y4⟩ rfl
  have hset2 := hset1.putF lmC_len (i := i) (x := ⟨y0, y1 - a, y2, y3, y4⟩) (j := 2) (.int .i64 (y2 - b)) (by rw [List.getElem?_set_self (by exact hil)]) (by decide) ⟨y0, y1 - a, y2 - b, y3, y4⟩ rfl
  rw [List.set_set] at hset2
  have HS := Lib.hid hset2
  have HS1 := Lib.hid (show w.heap.size ≤ g by have := HB1.out.size; omega)
  clear hown hb2 ho3 hgl hgd hset1 hset2 HX hfz d0 d1 d2 d3 d4
  go_wp2_with fail
  go_ret2
  rw [HF.out]
  refine ⟨some ⟨g, o, none⟩, c3', by simp, HS.out.row, by simp; omega, ?_⟩
  exact (HB2.out.setCell (p := ⟨g, _, none⟩) HS1.out _).setCell (p := ⟨g, _, none⟩) HS1.out _

end Go.Proofs.Ytgjimjpbogadjaa
