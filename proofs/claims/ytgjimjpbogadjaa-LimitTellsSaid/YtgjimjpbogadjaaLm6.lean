
/-
  What the law says of quotas: limited, joined.
-/
import Derived.Test.YtgjimjpbogadjaaLm5
namespace Go.Proofs.Ytgjimjpbogadjaa
open Go.RowKit

/-- A whole element stored, cell by cell. -/
theorem OwnAt.put5 {w : World} {base : Nat} {e : TypeId} {n cap g o : Nat} {l : List Lm} (h : OwnAt w base e 5 (some ⟨g, o, none⟩) n cap (flat lmC l)) {i : Nat} (hi : i < l.length) (r0 r1 r2 r3 r4 : Int) :
    OwnAt (((((w.setCell ⟨g, o + i * 5, none⟩ (.int .i64 r0)).setCell ⟨g, o + i * 5 + 1, none⟩ (.int .i64 r1)).setCell ⟨g, o + i * 5 + 2, none⟩ (.int .i64 r2)).setCell ⟨g, o + i * 5 + 3, none⟩ (.int .i64 r3)).setCell ⟨g, o + i * 5 + 4, none⟩ (.int .i64 r4)) base e 5 (some ⟨g, o, none⟩) n cap (flat lmC (l.set i ⟨r0, r1, r2, r3, r4⟩)) := by
  obtain ⟨y, hy⟩ : ∃ y, l[i]? = some y := ⟨_, List.getElem?_eq_getElem hi⟩
  obtain ⟨y0, y1, y2, y3, y4⟩ := y
  have h0 := h.putF lmC_len (i := i) (j := 0) (.int .i64 r0) hy (by decide) ⟨r0, y1, y2, y3, y4⟩ rfl
  have h1 := h0.putF lmC_len (i := i) (x := ⟨r0, y1, y2, y3, y4⟩) (j := 1) (.int .i64 r1) (by rw [List.getElem?_set_self hi]) (by decide) ⟨r0, r1, y2, y3, y4⟩ rfl
  rw [List.set_set] at h1
  have h2 := h1.putF lmC_len (i := i) (x := ⟨r0, r1, y2, y3, y4⟩) (j := 2) (.int .i64 r2) (by rw [List.getElem?_set_self hi]) (by decide) ⟨r0, r1, r2, y3, y4⟩ rfl
  rw [List.set_set] at h2
  have h3 := h2.putF lmC_len (i := i) (x := ⟨r0, r1, r2, y3, y4⟩) (j := 3) (.int .i64 r3) (by rw [List.getElem?_set_self hi]) (by decide) ⟨r0, r1, r2, r3, y4⟩ rfl
  rw [List.set_set] at h3
  have h4 := h3.putF lmC_len (i := i) (x := ⟨r0, r1, r2, r3, y4⟩) (j := 4) (.int .i64 r4) (by rw [List.getElem?_set_self hi]) (by decide) ⟨r0, r1, r2, r3, r4⟩ rfl
  rw [List.set_set] at h4
  exact h4
theorem below_put5 {B : Nat} {a w : World} {g p : Nat} (h : Below B a w) (hg : B ≤ g) (u0 u1 u2 u3 u4 : Value) :
    Below B a (((((w.setCell ⟨g, p, none⟩ u0).setCell ⟨g, p + 1, none⟩ u1).setCell ⟨g, p + 2, none⟩ u2).setCell ⟨g, p + 3, none⟩ u3).setCell ⟨g, p + 4, none⟩ u4) :=
  ((((h.setCell (p := ⟨g, _, none⟩) hg _).setCell (p := ⟨g, _, none⟩) hg _).setCell (p := ⟨g, _, none⟩) hg _).setCell (p := ⟨g, _, none⟩) hg _).setCell (p := ⟨g, _, none⟩) hg _
/-- A row of the call's own, whole. -/
def LmOwn (L : List Lm) (w : World) (e : Ending) (w' : World) : Prop :=
  ∃ g o c, e = .returned (.slice (some ⟨g, o, none⟩) L.length c) ∧ OwnAt w' w.heap.size 89 5 (some ⟨g, o, none⟩) L.length c (flat lmC L) ∧ Below w.heap.size w w'

set_option maxRecDepth 100000 in
set_option maxHeartbeats 2000000 in
theorem limited_any (A : Option Addr) (c : Nat) (l : List Lm) (i : Nat) (r : Lm) (w : World) (hr : Row w w.heap.size A (flat lmC l)) (hA : A = none → c = 0) (hi : i < l.length) (hl : l.length ≤ 100) :
    Calls Try.prog 42 #[.slice A l.length c, .int .i64 i, lmV r] w fun e w' => LmOwn (l.set i r) w e w' := by
  obtain ⟨r0, r1, r2, r3, r4⟩ := r
  have hal := (Below.refl w.heap.size w).alloc (Nat.le_refl _) (.cells #[.int .i64 r0, .int .i64 r1, .int .i64 r2, .int .i64 r3, .int .i64 r4] 89)
  have HBA := Lib.hid hal
  have hbx := Box.new w 89 #[.int .i64 r0, .int .i64 r1, .int .i64 r2, .int .i64 r3, .int .i64 r4]
  have HCL := Lib.hid (clone_lm A c l _ _ ((hr.below hal).more hal.size) hA (by omega))
  have HBX := Lib.hid hbx
  have hi1 : (i : Int) < (l.length : Int) := by omega
  have HX := Lib.hid (getD_some lm0 hi)
  have HLL := Lib.hid (show (l.set i (⟨r0, r1, r2, r3, r4⟩ : Lm)).length = l.length from List.length_set ..)
  obtain ⟨L, hL⟩ : ∃ L, L = l.set i (⟨r0, r1, r2, r3, r4⟩ : Lm) := ⟨_, rfl⟩
  rw [← hL] at HLL ⊢
  have HL := Lib.hid hL
  unfold lmV
  dsimp only
  clear hr hal hbx hL
  go_enter Try.func42, Try.ntmps42
  go_wp2_with fail
  refine HCL.out.mono ?_
  rintro e w3 ⟨v, rfl, hown, hb3⟩
  obtain ⟨A3, c3', rfl, ho3⟩ := OwnAt.of_own hown
  obtain ⟨g, o, rfl, _⟩ := ho3.some_of (by omega)
  have hgl := ho3.lt
  have HB3 := Lib.hid (HBA.out.trans (hb3.mono HBA.out.size))
  have hbx := HBX.out.below hb3 HBX.out.lt
  have x0 := hbx.cell 0
  have x1 := hbx.cell 1
  have x2 := hbx.cell 2
  have x3 := hbx.cell 3
  have x4 := hbx.cell 4
  simp only [List.getElem?_toArray, List.getElem?_cons_zero, List.getElem?_cons_succ] at x0 x1 x2 x3 x4
  obtain ⟨g', o', hg', _, e0, e1, e2, e3, e4⟩ := ho3.row.lm hi lm0
  injection hg' with hg'
  injection hg' with hg1 hg2
  subst hg1 hg2
  have hfz := fun j => ho3.frozen j
  have f0' := hfz (o + i * 5)
  have f1' := hfz (o + i * 5 + 1)
  have f2' := hfz (o + i * 5 + 2)
  have f3' := hfz (o + i * 5 + 3)
  have f4' := hfz (o + i * 5 + 4)
  have hne : ¬ g = w.heap.size := by have := hgl.1; simp at this; omega
  have HO := Lib.hid ((ho3.put5 hi r0 r1 r2 r3 r4).lower (base' := w.heap.size) (by simp))
  have HG := Lib.hid (show w.heap.size ≤ g by have := hgl.1; simp at this; omega)
  rw [← HL.out] at HO
  clear hown hb3 hbx hfz ho3 hgl HX
  go_wp2_with fail
  go_ret
  exact ⟨g, o, c3', by rw [HLL.out]; rfl, by rw [HLL.out]; exact HO.out, below_put5 HB3.out HG.out _ _ _ _ _⟩

set_option maxRecDepth 100000 in
set_option maxHeartbeats 2000000 in
theorem joined_any (A : Option Addr) (c : Nat) (l : List Lm) (i k : Nat) (w : World) (hr : Row w w.heap.size A (flat lmC l)) (hA : A = none → c = 0) (hi : i < l.length) (hk : k < l.length) (hok : LmOk l) :
    Calls Try.prog 44 #[.slice A l.length c, .int .i64 i, .int .i64 k] w fun e w' => LmOwn ((l.set k (jnR (l.getD k lm0) (l.getD i lm0))).eraseIdx i) w e w' := by
  have hl := hok.len
  obtain ⟨j1, j2, j3, j4, j5, j6⟩ := hok.rows _ (getD_mem lm0 hi)
  obtain ⟨k1, k2, k3, k4, k5, k6⟩ := hok.rows _ (getD_mem lm0 hk)
  have HLM := Lib.hid (fun (w' : World) (hb : Below w.heap.size w w') (r : Lm) => limited_any A c l k r w' ((hr.below hb).more hb.size) hA hk hl)
  have hi1 : (i : Int) < (l.length : Int) := by omega
  have hk1 : (k : Int) < (l.length : Int) := by omega
  obtain ⟨g0, o0, rfl, hg0, c0, c1, c2, c3, c4⟩ := hr.lm hk lm0
  obtain ⟨g', o', hg', _, _, _, _, d3, d4⟩ := hr.lm hi lm0
  injection hg' with hg'
  injection hg' with hg1 hg2
  subst hg1 hg2
  have HY := Lib.hid (getD_some lm0 hk)
  generalize l.getD i lm0 = y at *
  generalize l.getD k lm0 = z at *
  obtain ⟨y0, y1, y2, y3, y4⟩ := y
  obtain ⟨z0, z1, z2, z3, z4⟩ := z
  dsimp only at c0 c1 c2 c3 c4 d3 d4 k1 k2 k3 k4 k5 k6 j1 j2 j3 j4 j5 j6
  have q3 : 0 ≤ y3 := by omega
  have q4 : 0 ≤ y4 := by omega
  have r3 : 0 ≤ z3 := by omega
  have r4 : 0 ≤ z4 := by omega
  have hrow : ∀ p v, w.cell? ⟨g0, p, none⟩ = some v → (w.alloc (.cells #[.int .i64 z0, .int .i64 z1, .int .i64 z2, .int .i64 z3, .int .i64 z4] 89)).cell? ⟨g0, p, none⟩ = some v := fun p v h => by rw [World.cell?_alloc_lt _ _ _ (lt_of_cell h)]; exact h
  have s3 := hrow _ _ d3
  have s4 := hrow _ _ d4
  have hbx := Box.new w 89 #[.int .i64 z0, .int .i64 z1, .int .i64 z2, .int .i64 z3, .int .i64 z4]
  have hal := (Below.refl w.heap.size w).alloc (Nat.le_refl _) (.cells #[.int .i64 z0, .int .i64 z1, .int .i64 z2, .int .i64 z3, .int .i64 z4] 89)
  clear k1 k2 k4 k5 j1 j2 j4 j5 hr hok hrow
  unfold jnR
  dsimp only
  have HLL := Lib.hid (show (l.set k (⟨z0, z1, z2, z3 + y3, z4 + y4⟩ : Lm)).length = l.length from List.length_set ..)
  obtain ⟨L, hL⟩ : ∃ L, L = l.set k (⟨z0, z1, z2, z3 + y3, z4 + y4⟩ : Lm) := ⟨_, rfl⟩
  rw [← hL] at HLL ⊢
  have HL := Lib.hid hL
  obtain ⟨Z, hZ⟩ : ∃ Z, L.eraseIdx i = Z := ⟨_, rfl⟩
  rw [hZ]
  rw [List.eraseIdx_eq_take_drop_succ] at hZ
  have HZ := Lib.hid hZ
  clear hL hZ
  go_enter Try.func44, Try.ntmps44
  go_upto_region 2 with fail
  clear c0 c1 c2 c3 c4 d3 d4
  have hgn : ¬ g0 = w.heap.size := by omega
  have hgn' : ¬ w.heap.size = g0 := by omega
  have hw0 := hbx.lt
  have hb0 : Below w.heap.size w (w.alloc (.cells #[.int .i64 z0, .int .i64 z1, .int .i64 z2, .int .i64 z3, .int .i64 z4] 89)) := hal
  have HAL := Lib.hid hb0
  clear hal hb0
  generalize w.alloc (.cells #[.int .i64 z0, .int .i64 z1, .int .i64 z2, .int .i64 z3, .int .i64 z4] 89) = w1 at *
  have HBX := Lib.hid hbx
  have x0 := hbx.cell 0
  have x1 := hbx.cell 1
  have x2 := hbx.cell 2
  have x3 := hbx.cell 3
  have x4 := hbx.cell 4
  simp only [List.getElem?_toArray, List.getElem?_cons_zero, List.getElem?_cons_succ] at x0 x1 x2 x3 x4
  have f3' := hbx.frozen 3
  have f4' := hbx.frozen 4
  obtain ⟨gb, hgb⟩ : ∃ gb, w.heap.size = gb := ⟨_, rfl⟩
  have HGB := Lib.hid hgb
  rw [hgb] at x0 x1 x2 x3 x4 f3' f4' hgn hgn' hw0 ⊢
  clear hgb hbx
  have hw3 : IntKind.i64.wrap (z3 + y3) = z3 + y3 := by rw [IntKind.wrap_i64]; omega
  have hw4 : IntKind.i64.wrap (z4 + y4) = z4 + y4 := by rw [IntKind.wrap_i64]; omega
  go_region
  have HB2 := Lib.hid (((HAL.out.setCell (p := ⟨gb, 3, none⟩) (by rw [HGB.out]; exact Nat.le_refl _) (.int .i64 (z3 + y3))).setCell (p := ⟨gb, 4, none⟩) (by rw [HGB.out]; exact Nat.le_refl _) (.int .i64 (z4 + y4))).drew)
  have hlm := HLM.out _ HB2.out ⟨z0, z1, z2, z3 + y3, z4 + y4⟩
  unfold lmV at hlm
  dsimp only at hlm
  have HLQ := Lib.hid hlm
  clear hlm hw3 hw4 s3 s4
  have hLL := HLL.out
  go_wp2_with fail
  refine HLQ.out.mono ?_
  rintro e w3 ⟨g, o, c3, he, hown, hb3⟩
  rw [← HL.out] at he hown
  rw [HLL.out] at he hown
  subst he
  have hs2 := HB2.out.size
  have HB3 := Lib.hid (HB2.out.trans (hb3.mono hs2))
  have hgl := hown.lt
  have hdel := delete_lm _ g o c3 i L w3 (by rw [HLL.out]; exact hown.lower (base' := w.heap.size) hs2) (by rw [HLL.out]; exact hi)
  rw [HLL.out, HZ.out] at hdel
  have HDL := Lib.hid hdel
  have HG := Lib.hid (show w.heap.size ≤ g from Nat.le_trans hs2 hgl.1)
  clear hown hb3 hgl hdel hLL
  go_wp2_with fail
  refine HDL.out.mono ?_
  rintro e w5 ⟨rfl, hown5, ho5⟩
  have HN5 := Lib.hid hown5
  have HB6 := Lib.hid (ho5.to_below HB3.out HB3.out.size (fun b hb => by rw [hb]; exact HG.out))
  clear hown5 ho5
  go_wp2_with fail
  go_ret
  exact ⟨g, o, c3, rfl, HN5.out, HB6.out⟩
end Go.Proofs.Ytgjimjpbogadjaa
