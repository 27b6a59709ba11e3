/-
  A supervisor copied.
-/
import Derived.Test.YtcmkkfpcdebfkaaWd3
import Derived.Deep.RegionLaw
import Derived.Deep.CutBlock
namespace Go.Proofs.Ytcmkkfpcdebfkaa
open Go.RowKit

/-- A supervisor whose slices are the call's own. -/
structure WOwn (w : World) (base : Nat) (x : WA) (v : Wd) : Prop where
  ch : OwnAt w base 230 3 x.A v.ch.length x.c (flat wcC v.ch)
  tm : OwnAt w base 3 1 x.B v.tm.length x.d (ints v.tm)
theorem OwnAt.nil_cap {w : World} {base : Nat} {e : TypeId} {size n cap : Nat} {A : Option Addr} {xs : List Value} (h : OwnAt w base e size A n cap xs) (hA : A = none) : cap = 0 := by
  rcases h.form with ⟨_, _, h0⟩ | ⟨g, o, h0⟩
  · exact h0
  · rw [h0] at hA; cases hA
theorem WOwn.win {w : World} {base : Nat} {x : WA} {v : Wd} (h : WOwn w base x v) : WIn w x v :=
  ⟨h.ch.row, h.tm.row, h.ch.cap_le.1, h.ch.cap_le.2, h.ch.nil_cap, h.tm.cap_le.1, h.tm.cap_le.2, h.tm.nil_cap⟩
theorem WOwn.below {w w' : World} {base : Nat} {x : WA} {v : Wd} (h : WOwn w base x v) (hb : Below w.heap.size w w') : WOwn w' base x v := ⟨h.ch.below hb, h.tm.below hb⟩
theorem WOwn.lower {w : World} {base base' : Nat} {x : WA} {v : Wd} (h : WOwn w base x v) (hb : base' ≤ base) : WOwn w base' x v := ⟨h.ch.lower hb, h.tm.lower hb⟩
theorem WOwn.drew {w : World} {base : Nat} {x : WA} {v : Wd} (h : WOwn w base x v) : WOwn w.drew base x v := ⟨h.ch, h.tm⟩
theorem WOwn.alloc {w : World} {base : Nat} {x : WA} {v : Wd} (h : WOwn w base x v) (o : Obj) : WOwn (w.alloc o) base x v := ⟨h.ch.alloc o, h.tm.alloc o⟩
theorem own_blk {w : World} {base : Nat} {e : TypeId} {size n cap : Nat} {A : Option Addr} {xs : List Value} (h : OwnAt w base e size A n cap xs) : ∀ g o, A = some ⟨g, o, none⟩ → base ≤ g := fun g o e => by
  subst e
  exact h.lt.1
theorem WOwn.far {w : World} {base : Nat} {x : WA} {v : Wd} (h : WOwn w base x v) {p : Addr} (hp : p.block < base) (u : Value) : WOwn (w.setCell p u) base x v :=
  ⟨h.ch.far (fun g o e => by have := own_blk h.ch g o e; omega) u, h.tm.far (fun g o e => by have := own_blk h.tm g o e; omega) u⟩
theorem clone_w (A : Option Addr) (c : Nat) (l : List Ch) (w : World) (hr : Row w w.heap.size A (flat wcC l)) (hA : A = none → c = 0) (hm : l.length ≤ 20) :
    Calls Try.prog 211 #[.slice A l.length c] w fun e w' => ∃ A' c', e = .returned (.slice A' l.length c') ∧ OwnAt w' w.heap.size 230 3 A' l.length c' (flat wcC l) ∧ Below w.heap.size w w' := by
  refine (clone_wc A c l _ w hr hA (by omega)).mono ?_
  rintro e w' ⟨v, rfl, ho, hb⟩
  obtain ⟨A', c', rfl, h⟩ := OwnAt.of_own ho
  exact ⟨A', c', rfl, h, hb⟩
theorem clone_t (B : Option Addr) (d : Nat) (l : List Int) (w : World) (hr : Row w w.heap.size B (ints l)) (hB : B = none → d = 0) (hm : l.length ≤ 50) :
    Calls Try.prog 138 #[.slice B l.length d] w fun e w' => ∃ B' d', e = .returned (.slice B' l.length d') ∧ OwnAt w' w.heap.size 3 1 B' l.length d' (ints l) ∧ Below w.heap.size w w' := by
  refine (clone_any B d l _ w hr hB (by omega)).mono ?_
  rintro e w' ⟨v, rfl, ho, hb⟩
  obtain ⟨B', d', rfl, h⟩ := OwnAt.of_own ho
  exact ⟨B', d', rfl, h, hb⟩
/-- A supervisor of the call's own is handed back. -/
def CopyPost (v : Wd) (w : World) (e : Ending) (w' : World) : Prop := ∃ x, e = .returned (wardV x v) ∧ WOwn w' w.heap.size x v ∧ Below w.heap.size w w'
set_option maxRecDepth 100000 in
set_option maxHeartbeats 4000000 in
theorem copyW (x : WA) (v : Wd) (W : World) (h : WIn W x v) (h20 : v.ch.length ≤ 20) (h50 : v.tm.length ≤ 50) :
    Calls Try.prog 179 #[wardV x v] W (CopyPost v W) := by
  have HIN := Lib.hid h
  obtain ⟨A, c, B, d⟩ := x
  obtain ⟨how, most, win, ch, tm⟩ := v
  dsimp only at h20 h50
  have hbx := (Box.new W 215 #[.int .i64 how, .int .i64 most, .int .i64 win, .slice A ch.length c, .slice B tm.length d]).alloc (.cells #[.int .i64 0, .int .i64 0, .int .i64 0, .slice none 0 0, .slice none 0 0] 215)
  have hbr := Box.new (W.alloc (.cells #[.int .i64 how, .int .i64 most, .int .i64 win, .slice A ch.length c, .slice B tm.length d] 215)) 215 #[.int .i64 0, .int .i64 0, .int .i64 0, .slice none 0 0, .slice none 0 0]
  rw [show (W.alloc (.cells #[.int .i64 how, .int .i64 most, .int .i64 win, .slice A ch.length c, .slice B tm.length d] 215)).heap.size = W.heap.size + 1 by simp] at hbr
  have hb0 := ((Below.refl W.heap.size W).alloc (Nat.le_refl _) (.cells #[.int .i64 how, .int .i64 most, .int .i64 win, .slice A ch.length c, .slice B tm.length d] 215)).alloc (by simp) (.cells #[.int .i64 0, .int .i64 0, .int .i64 0, .slice none 0 0, .slice none 0 0] 215)
  have hb00 := ((Below.refl W.heap.size W).alloc (Nat.le_refl _) (.cells #[.int .i64 how, .int .i64 most, .int .i64 win, .slice A ch.length c, .slice B tm.length d] 215)).alloc (by simp) (.cells #[.int .i64 0, .int .i64 0, .int .i64 0, .slice none 0 0, .slice none 0 0] 215)
  have HB0 := Lib.hid hb0
  have HBX := Lib.hid hbx
  have HBR := Lib.hid hbr
  have HI := Lib.hid (HIN.out.below hb0)
  unfold wardV
  dsimp only
  clear h hbx hbr hb0 hb00
  go_enter Try.func179, Try.ntmps179
  go_upto_region 1 with fail
  generalize (W.alloc (.cells #[.int .i64 how, .int .i64 most, .int .i64 win, .slice A ch.length c, .slice B tm.length d] 215)).alloc (.cells #[.int .i64 0, .int .i64 0, .int .i64 0, .slice none 0 0, .slice none 0 0] 215) = w1 at *
  have hg1 : W.heap.size < w1.heap.size := HBX.out.lt
  have HCF := Lib.hid (show ∀ w', Below w1.heap.size w1 w' → w'.cell? ⟨W.heap.size, 3, none⟩ = some (.slice A ch.length c) ∧ w'.cell? ⟨W.heap.size, 4, none⟩ = some (.slice B tm.length d) ∧ w'.frozen? ⟨W.heap.size, 3, none⟩ = false ∧ w'.frozen? ⟨W.heap.size, 4, none⟩ = false from fun w' hw => ⟨(HBX.out.below hw hg1).cell 3, (HBX.out.below hw hg1).cell 4, (HBX.out.below hw hg1).frozen 3, (HBX.out.below hw hg1).frozen 4⟩)
  obtain ⟨c3, c4, f3, f4⟩ := HCF.out w1 (Below.refl _ _)
  have HIR := Lib.hid (show ∀ w', Below w1.heap.size w1 w' → Row w' w'.heap.size A (flat wcC ch) from fun w' hw => (HI.out.below hw).ch)
  have HIT := Lib.hid (show ∀ w', Below w1.heap.size w1 w' → Row w' w'.heap.size B (ints tm) from fun w' hw => (HI.out.below hw).tm)
  have HA := Lib.hid (show A = none → c = 0 from HIN.out.c3)
  have HBN := Lib.hid (show B = none → d = 0 from HIN.out.d3)
  have HG1 := Lib.hid HBR.out.lt
  go_region_law ((first
    | (go_simp; go_at_call 211
       first
        | (refine (clone_w A c ch _ (HIR.out _ hkb) HA.out h20).mono ?_; rintro e wa ⟨A2, c2, rfl, hoa, hba⟩; have hka := hkb.trans (hba.mono hkb.size); obtain ⟨y1, y2, y3, y4⟩ := HCF.out wa hka)
        | (refine (clone_w A c ch _ (HIR.out _ (below_drewN (Below.refl _ _) 1)) HA.out h20).mono ?_; rintro e wa ⟨A2, c2, rfl, hoa, hba⟩; have hka := (below_drewN (Below.refl w1.heap.size w1) 1).trans hba; obtain ⟨y1, y2, y3, y4⟩ := HCF.out wa hka))
    | (go_simp; go_at_call 138
       first
        | (refine (clone_t B d tm _ (HIT.out _ hka) HBN.out h50).mono ?_; rintro e wb ⟨B2, d2, rfl, hob, hbb⟩; have hkb := hka.trans (hbb.mono hka.size); obtain ⟨z1, z2, z3, z4⟩ := HCF.out wb hkb)
        | (refine (clone_t B d tm _ (HIT.out _ (below_drewN (Below.refl _ _) 1)) HBN.out h50).mono ?_; rintro e wb ⟨B2, d2, rfl, hob, hbb⟩; have hkb := (below_drewN (Below.refl w1.heap.size w1) 1).trans hbb; obtain ⟨z1, z2, z3, z4⟩ := HCF.out wb hkb))))
  all_goals
    first
      | ((
        have HO : WOwn wb w1.heap.size ⟨A2, c2, B2, d2⟩ ⟨how, most, win, ch, tm⟩ := ⟨(hoa.lower (Nat.le_refl _)).below hbb, hob.lower hka.size⟩
        have HX2 := Lib.hid (((HBX.out.below hkb hg1).set 3 (.slice A2 ch.length c2)).set 4 (.slice B2 tm.length d2))
        have HR2 := Lib.hid ((((HBR.out.below hkb HBR.out.lt).far (p := ⟨W.heap.size, 3, none⟩) (by simp) (.slice A2 ch.length c2))).far (p := ⟨W.heap.size, 4, none⟩) (by simp) (.slice B2 tm.length d2))
        have HO2 := Lib.hid ((HO.far (p := ⟨W.heap.size, 3, none⟩) hg1 (.slice A2 ch.length c2)).far (p := ⟨W.heap.size, 4, none⟩) hg1 (.slice B2 tm.length d2))
        have HB2 := Lib.hid (((HB0.out.trans (hkb.mono HB0.out.size)).setCell (p := ⟨W.heap.size, 3, none⟩) (Nat.le_refl _) (.slice A2 ch.length c2)).setCell (p := ⟨W.heap.size, 4, none⟩) (Nat.le_refl _) (.slice B2 tm.length d2))
        clear hoa hob hba hbb hka hkb y1 y2 y3 y4 z1 z2 z3 z4 c3 c4 f3 f4 HO
        go_upto_region 2 with fail
        generalize (wb.setCell ⟨W.heap.size, 3, none⟩ (.slice A2 ch.length c2)).setCell ⟨W.heap.size, 4, none⟩ (.slice B2 tm.length d2) = w6 at *
        have k0 := HX2.out.cell 0
        have k1 := HX2.out.cell 1
        have k2 := HX2.out.cell 2
        have k3 := HX2.out.cell 3
        have k4 := HX2.out.cell 4
        have r0 := HR2.out.cell 0
        have r1 := HR2.out.cell 1
        have r2 := HR2.out.cell 2
        have r3 := HR2.out.cell 3
        have r4 := HR2.out.cell 4
        have g0 := HR2.out.frozen 0
        have g1 := HR2.out.frozen 1
        have g2 := HR2.out.frozen 2
        have g3 := HR2.out.frozen 3
        have g4 := HR2.out.frozen 4
        simp at k0 k1 k2 k3 k4 r0 r1 r2 r3 r4
        go_wp2_with fail
        refine bodyPost_ret (v := .agg #[.int .i64 how, .int .i64 most, .int .i64 win, .slice A2 ch.length c2, .slice B2 tm.length d2]) (results_cell_row Try.results179 _ _ (W.heap.size + 1) 215 _ (0, 0) _ rfl (((((HR2.out.set 0 _).set 1 _).set 2 _).set 3 _).set 4 _) Try.underlying215 rfl (by kernel_rfl)) rfl ?_
        refine ⟨⟨A2, c2, B2, d2⟩, rfl, ?_, ?_⟩
        · exact (((((HO2.out.far (p := ⟨W.heap.size + 1, 0, none⟩) HG1.out _).far (p := ⟨W.heap.size + 1, 1, none⟩) HG1.out _).far (p := ⟨W.heap.size + 1, 2, none⟩) HG1.out _).far (p := ⟨W.heap.size + 1, 3, none⟩) HG1.out _).far (p := ⟨W.heap.size + 1, 4, none⟩) HG1.out _).lower (by omega)
        · exact ((((HB2.out.setCell (p := ⟨W.heap.size + 1, 0, none⟩) (Nat.le_succ _) _).setCell (p := ⟨W.heap.size + 1, 1, none⟩) (Nat.le_succ _) _).setCell (p := ⟨W.heap.size + 1, 2, none⟩) (Nat.le_succ _) _).setCell (p := ⟨W.heap.size + 1, 3, none⟩) (Nat.le_succ _) _).setCell (p := ⟨W.heap.size + 1, 4, none⟩) (Nat.le_succ _) _))
      | ((
        have HO : WOwn wa w1.heap.size ⟨A2, c2, B2, d2⟩ ⟨how, most, win, ch, tm⟩ := ⟨hoa.lower hkb.size, (hob.lower (Nat.le_refl _)).below hba⟩
        have HX2 := Lib.hid (((HBX.out.below hka hg1).set 3 (.slice A2 ch.length c2)).set 4 (.slice B2 tm.length d2))
        have HR2 := Lib.hid ((((HBR.out.below hka HBR.out.lt).far (p := ⟨W.heap.size, 3, none⟩) (by simp) (.slice A2 ch.length c2))).far (p := ⟨W.heap.size, 4, none⟩) (by simp) (.slice B2 tm.length d2))
        have HO2 := Lib.hid ((HO.far (p := ⟨W.heap.size, 3, none⟩) hg1 (.slice A2 ch.length c2)).far (p := ⟨W.heap.size, 4, none⟩) hg1 (.slice B2 tm.length d2))
        have HB2 := Lib.hid (((HB0.out.trans (hka.mono HB0.out.size)).setCell (p := ⟨W.heap.size, 3, none⟩) (Nat.le_refl _) (.slice A2 ch.length c2)).setCell (p := ⟨W.heap.size, 4, none⟩) (Nat.le_refl _) (.slice B2 tm.length d2))
        clear hoa hob hba hbb hka hkb y1 y2 y3 y4 z1 z2 z3 z4 c3 c4 f3 f4 HO
        go_upto_region 2 with fail
        generalize (wa.setCell ⟨W.heap.size, 3, none⟩ (.slice A2 ch.length c2)).setCell ⟨W.heap.size, 4, none⟩ (.slice B2 tm.length d2) = w6 at *
        have k0 := HX2.out.cell 0
        have k1 := HX2.out.cell 1
        have k2 := HX2.out.cell 2
        have k3 := HX2.out.cell 3
        have k4 := HX2.out.cell 4
        have r0 := HR2.out.cell 0
        have r1 := HR2.out.cell 1
        have r2 := HR2.out.cell 2
        have r3 := HR2.out.cell 3
        have r4 := HR2.out.cell 4
        have g0 := HR2.out.frozen 0
        have g1 := HR2.out.frozen 1
        have g2 := HR2.out.frozen 2
        have g3 := HR2.out.frozen 3
        have g4 := HR2.out.frozen 4
        simp at k0 k1 k2 k3 k4 r0 r1 r2 r3 r4
        go_wp2_with fail
        refine bodyPost_ret (v := .agg #[.int .i64 how, .int .i64 most, .int .i64 win, .slice A2 ch.length c2, .slice B2 tm.length d2]) (results_cell_row Try.results179 _ _ (W.heap.size + 1) 215 _ (0, 0) _ rfl (((((HR2.out.set 0 _).set 1 _).set 2 _).set 3 _).set 4 _) Try.underlying215 rfl (by kernel_rfl)) rfl ?_
        refine ⟨⟨A2, c2, B2, d2⟩, rfl, ?_, ?_⟩
        · exact (((((HO2.out.far (p := ⟨W.heap.size + 1, 0, none⟩) HG1.out _).far (p := ⟨W.heap.size + 1, 1, none⟩) HG1.out _).far (p := ⟨W.heap.size + 1, 2, none⟩) HG1.out _).far (p := ⟨W.heap.size + 1, 3, none⟩) HG1.out _).far (p := ⟨W.heap.size + 1, 4, none⟩) HG1.out _).lower (by omega)
        · exact ((((HB2.out.setCell (p := ⟨W.heap.size + 1, 0, none⟩) (Nat.le_succ _) _).setCell (p := ⟨W.heap.size + 1, 1, none⟩) (Nat.le_succ _) _).setCell (p := ⟨W.heap.size + 1, 2, none⟩) (Nat.le_succ _) _).setCell (p := ⟨W.heap.size + 1, 3, none⟩) (Nat.le_succ _) _).setCell (p := ⟨W.heap.size + 1, 4, none⟩) (Nat.le_succ _) _))
end Go.Proofs.Ytcmkkfpcdebfkaa
