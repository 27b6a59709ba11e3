/-
  The step of an instruction (roadref4.Do.Step).
-/
import Derived.Test.YtcmkkfpcdebfkaaEx3
namespace Go.Proofs.Ytcmkkfpcdebfkaa
open Go.RowKit

/-- What an instruction reads and writes. -/
def stepOf (x : Do) (who : Nat) : Int × Int × Int := (who, if x.1 = 2 then 0 else wrap64 (2 ^ x.2.1.toNat), if x.1 = 2 ∨ x.1 = 3 then wrap64 (2 ^ x.2.1.toNat) else 0)

set_option maxRecDepth 100000 in
set_option maxHeartbeats 4000000 in
theorem stepR1 (n : Nat) (bb : Int) (who : Nat) (W : World) (h4 : n < 4) :
    Calls Try.prog 28 #[.agg #[.int .i64 1, .int .i64 n, .int .i64 bb], .int .i64 who] W fun e w' => e = .returned (.agg #[.int .i64 who, .int .i64 (wrap64 (2 ^ n)), .int .i64 (0)]) ∧ Below W.heap.size W w' := by
  have hn0 : (0 : Int) ≤ n := by omega
  have hn64 : n < 64 := by omega
  obtain ⟨q, hq⟩ : ∃ q, wrap64 (2 ^ n) = q := ⟨_, rfl⟩
  rw [hq]
  have HQ := Lib.hid hq
  clear hq
  go_enter Try.func28, Try.ntmps28
  go_upto_region 2 with fail
  rw [HQ.out]
  have hbd := (Box.new W 57 #[.int .i64 1, .int .i64 n, .int .i64 bb]).alloc (.cells #[.int .i64 0, .int .i64 0, .int .i64 0] 56)
  have hbr := Box.new (W.alloc (.cells #[.int .i64 1, .int .i64 n, .int .i64 bb] 57)) 56 #[.int .i64 0, .int .i64 0, .int .i64 0]
  have hb1 := ((Below.refl W.heap.size W).alloc (Nat.le_refl _) (.cells #[.int .i64 1, .int .i64 n, .int .i64 bb] 57)).alloc (by simp) (.cells #[.int .i64 0, .int .i64 0, .int .i64 0] 56)
  rw [show (W.alloc (.cells #[.int .i64 1, .int .i64 n, .int .i64 bb] 57)).heap.size = W.heap.size + 1 by simp] at hbr
  generalize (W.alloc (.cells #[.int .i64 1, .int .i64 n, .int .i64 bb] 57)).alloc (.cells #[.int .i64 0, .int .i64 0, .int .i64 0] 56) = w1 at *
  generalize hge : W.heap.size = g at *
  have e0 := hbd.cell 0
  have r0 := hbr.cell 0
  have r1 := hbr.cell 1
  have r2 := hbr.cell 2
  have f0 := hbr.frozen 0
  have f1 := hbr.frozen 1
  have f2 := hbr.frozen 2
  have hg1 := hbd.lt
  have hg2 := hbr.lt
  have HB1 := Lib.hid hb1
  have HGE := Lib.hid hge
  have HBR := Lib.hid hbr
  clear hbd hbr hb1 hge
  simp only [List.getElem?_toArray, List.getElem?_cons_zero, List.getElem?_cons_succ] at e0 r0 r1 r2
  go_region
  all_goals
    go_wp2_with fail
    refine bodyPost_ret (v := .agg #[.int .i64 who, .int .i64 q, .int .i64 0]) (results_cell_row Try.results28 _ _ (g + 1) 56 _ (0, 0) _ rfl (((((HBR.out.set 0 _).set 1 _).set 2 _).alloc _).alloc _).drew Try.underlying56 rfl (by kernel_rfl)) rfl ?_
    refine ⟨rfl, ?_⟩
    rw [HGE.out]
    have h3 := ((HB1.out.setCell (p := ⟨g + 1, 0, none⟩) (Nat.le_succ g) (.int .i64 who)).setCell (p := ⟨g + 1, 1, none⟩) (Nat.le_succ g) (.int .i64 q)).setCell (p := ⟨g + 1, 2, none⟩) (Nat.le_succ g) (.int .i64 0)
    exact below_drewN ((h3.alloc (by simp; omega) _).alloc (by simp; omega) _) 1

set_option maxRecDepth 100000 in
set_option maxHeartbeats 4000000 in
theorem stepR2 (n : Nat) (bb : Int) (who : Nat) (W : World) (h4 : n < 4) :
    Calls Try.prog 28 #[.agg #[.int .i64 2, .int .i64 n, .int .i64 bb], .int .i64 who] W fun e w' => e = .returned (.agg #[.int .i64 who, .int .i64 (0), .int .i64 (wrap64 (2 ^ n))]) ∧ Below W.heap.size W w' := by
  have hn0 : (0 : Int) ≤ n := by omega
  have hn64 : n < 64 := by omega
  obtain ⟨q, hq⟩ : ∃ q, wrap64 (2 ^ n) = q := ⟨_, rfl⟩
  rw [hq]
  have HQ := Lib.hid hq
  clear hq
  go_enter Try.func28, Try.ntmps28
  go_upto_region 2 with fail
  rw [HQ.out]
  have hbd := (Box.new W 57 #[.int .i64 2, .int .i64 n, .int .i64 bb]).alloc (.cells #[.int .i64 0, .int .i64 0, .int .i64 0] 56)
  have hbr := Box.new (W.alloc (.cells #[.int .i64 2, .int .i64 n, .int .i64 bb] 57)) 56 #[.int .i64 0, .int .i64 0, .int .i64 0]
  have hb1 := ((Below.refl W.heap.size W).alloc (Nat.le_refl _) (.cells #[.int .i64 2, .int .i64 n, .int .i64 bb] 57)).alloc (by simp) (.cells #[.int .i64 0, .int .i64 0, .int .i64 0] 56)
  rw [show (W.alloc (.cells #[.int .i64 2, .int .i64 n, .int .i64 bb] 57)).heap.size = W.heap.size + 1 by simp] at hbr
  generalize (W.alloc (.cells #[.int .i64 2, .int .i64 n, .int .i64 bb] 57)).alloc (.cells #[.int .i64 0, .int .i64 0, .int .i64 0] 56) = w1 at *
  generalize hge : W.heap.size = g at *
  have e0 := hbd.cell 0
  have r0 := hbr.cell 0
  have r1 := hbr.cell 1
  have r2 := hbr.cell 2
  have f0 := hbr.frozen 0
  have f1 := hbr.frozen 1
  have f2 := hbr.frozen 2
  have hg1 := hbd.lt
  have hg2 := hbr.lt
  have HB1 := Lib.hid hb1
  have HGE := Lib.hid hge
  have HBR := Lib.hid hbr
  clear hbd hbr hb1 hge
  simp only [List.getElem?_toArray, List.getElem?_cons_zero, List.getElem?_cons_succ] at e0 r0 r1 r2
  go_region
  all_goals
    go_wp2_with fail
    refine bodyPost_ret (v := .agg #[.int .i64 who, .int .i64 0, .int .i64 q]) (results_cell_row Try.results28 _ _ (g + 1) 56 _ (0, 0) _ rfl (((((HBR.out.set 0 _).set 1 _).set 2 _).alloc _).alloc _).drew Try.underlying56 rfl (by kernel_rfl)) rfl ?_
    refine ⟨rfl, ?_⟩
    rw [HGE.out]
    have h3 := ((HB1.out.setCell (p := ⟨g + 1, 0, none⟩) (Nat.le_succ g) (.int .i64 who)).setCell (p := ⟨g + 1, 1, none⟩) (Nat.le_succ g) (.int .i64 0)).setCell (p := ⟨g + 1, 2, none⟩) (Nat.le_succ g) (.int .i64 q)
    exact below_drewN ((h3.alloc (by simp; omega) _).alloc (by simp; omega) _) 1

set_option maxRecDepth 100000 in
set_option maxHeartbeats 4000000 in
theorem stepR3 (n : Nat) (bb : Int) (who : Nat) (W : World) (h4 : n < 4) :
    Calls Try.prog 28 #[.agg #[.int .i64 3, .int .i64 n, .int .i64 bb], .int .i64 who] W fun e w' => e = .returned (.agg #[.int .i64 who, .int .i64 (wrap64 (2 ^ n)), .int .i64 (wrap64 (2 ^ n))]) ∧ Below W.heap.size W w' := by
  have hn0 : (0 : Int) ≤ n := by omega
  have hn64 : n < 64 := by omega
  obtain ⟨q, hq⟩ : ∃ q, wrap64 (2 ^ n) = q := ⟨_, rfl⟩
  rw [hq]
  have HQ := Lib.hid hq
  clear hq
  go_enter Try.func28, Try.ntmps28
  go_upto_region 2 with fail
  rw [HQ.out]
  have hbd := (Box.new W 57 #[.int .i64 3, .int .i64 n, .int .i64 bb]).alloc (.cells #[.int .i64 0, .int .i64 0, .int .i64 0] 56)
  have hbr := Box.new (W.alloc (.cells #[.int .i64 3, .int .i64 n, .int .i64 bb] 57)) 56 #[.int .i64 0, .int .i64 0, .int .i64 0]
  have hb1 := ((Below.refl W.heap.size W).alloc (Nat.le_refl _) (.cells #[.int .i64 3, .int .i64 n, .int .i64 bb] 57)).alloc (by simp) (.cells #[.int .i64 0, .int .i64 0, .int .i64 0] 56)
  rw [show (W.alloc (.cells #[.int .i64 3, .int .i64 n, .int .i64 bb] 57)).heap.size = W.heap.size + 1 by simp] at hbr
  generalize (W.alloc (.cells #[.int .i64 3, .int .i64 n, .int .i64 bb] 57)).alloc (.cells #[.int .i64 0, .int .i64 0, .int .i64 0] 56) = w1 at *
  generalize hge : W.heap.size = g at *
  have e0 := hbd.cell 0
  have r0 := hbr.cell 0
  have r1 := hbr.cell 1
  have r2 := hbr.cell 2
  have f0 := hbr.frozen 0
  have f1 := hbr.frozen 1
  have f2 := hbr.frozen 2
  have hg1 := hbd.lt
  have hg2 := hbr.lt
  have HB1 := Lib.hid hb1
  have HGE := Lib.hid hge
  have HBR := Lib.hid hbr
  clear hbd hbr hb1 hge
  simp only [List.getElem?_toArray, List.getElem?_cons_zero, List.getElem?_cons_succ] at e0 r0 r1 r2
  go_region
  all_goals
    go_wp2_with fail
    refine bodyPost_ret (v := .agg #[.int .i64 who, .int .i64 q, .int .i64 q]) (results_cell_row Try.results28 _ _ (g + 1) 56 _ (0, 0) _ rfl (((((HBR.out.set 0 _).set 1 _).set 2 _).alloc _).alloc _).drew Try.underlying56 rfl (by kernel_rfl)) rfl ?_
    refine ⟨rfl, ?_⟩
    rw [HGE.out]
    have h3 := ((HB1.out.setCell (p := ⟨g + 1, 0, none⟩) (Nat.le_succ g) (.int .i64 who)).setCell (p := ⟨g + 1, 1, none⟩) (Nat.le_succ g) (.int .i64 q)).setCell (p := ⟨g + 1, 2, none⟩) (Nat.le_succ g) (.int .i64 q)
    exact below_drewN ((h3.alloc (by simp; omega) _).alloc (by simp; omega) _) 1

set_option maxRecDepth 100000 in
set_option maxHeartbeats 4000000 in
theorem stepR4 (n : Nat) (bb : Int) (who : Nat) (W : World) (h4 : n < 4) :
    Calls Try.prog 28 #[.agg #[.int .i64 4, .int .i64 n, .int .i64 bb], .int .i64 who] W fun e w' => e = .returned (.agg #[.int .i64 who, .int .i64 (wrap64 (2 ^ n)), .int .i64 (0)]) ∧ Below W.heap.size W w' := by
  have hn0 : (0 : Int) ≤ n := by omega
  have hn64 : n < 64 := by omega
  obtain ⟨q, hq⟩ : ∃ q, wrap64 (2 ^ n) = q := ⟨_, rfl⟩
  rw [hq]
  have HQ := Lib.hid hq
  clear hq
  go_enter Try.func28, Try.ntmps28
  go_upto_region 2 with fail
  rw [HQ.out]
  have hbd := (Box.new W 57 #[.int .i64 4, .int .i64 n, .int .i64 bb]).alloc (.cells #[.int .i64 0, .int .i64 0, .int .i64 0] 56)
  have hbr := Box.new (W.alloc (.cells #[.int .i64 4, .int .i64 n, .int .i64 bb] 57)) 56 #[.int .i64 0, .int .i64 0, .int .i64 0]
  have hb1 := ((Below.refl W.heap.size W).alloc (Nat.le_refl _) (.cells #[.int .i64 4, .int .i64 n, .int .i64 bb] 57)).alloc (by simp) (.cells #[.int .i64 0, .int .i64 0, .int .i64 0] 56)
  rw [show (W.alloc (.cells #[.int .i64 4, .int .i64 n, .int .i64 bb] 57)).heap.size = W.heap.size + 1 by simp] at hbr
  generalize (W.alloc (.cells #[.int .i64 4, .int .i64 n, .int .i64 bb] 57)).alloc (.cells #[.int .i64 0, .int .i64 0, .int .i64 0] 56) = w1 at *
  generalize hge : W.heap.size = g at *
  have e0 := hbd.cell 0
  have r0 := hbr.cell 0
  have r1 := hbr.cell 1
  have r2 := hbr.cell 2
  have f0 := hbr.frozen 0
  have f1 := hbr.frozen 1
  have f2 := hbr.frozen 2
  have hg1 := hbd.lt
  have hg2 := hbr.lt
  have HB1 := Lib.hid hb1
  have HGE := Lib.hid hge
  have HBR := Lib.hid hbr
  clear hbd hbr hb1 hge
  simp only [List.getElem?_toArray, List.getElem?_cons_zero, List.getElem?_cons_succ] at e0 r0 r1 r2
  go_region
  all_goals
    go_wp2_with fail
    refine bodyPost_ret (v := .agg #[.int .i64 who, .int .i64 q, .int .i64 0]) (results_cell_row Try.results28 _ _ (g + 1) 56 _ (0, 0) _ rfl (((((HBR.out.set 0 _).set 1 _).set 2 _).alloc _).alloc _).drew Try.underlying56 rfl (by kernel_rfl)) rfl ?_
    refine ⟨rfl, ?_⟩
    rw [HGE.out]
    have h3 := ((HB1.out.setCell (p := ⟨g + 1, 0, none⟩) (Nat.le_succ g) (.int .i64 who)).setCell (p := ⟨g + 1, 1, none⟩) (Nat.le_succ g) (.int .i64 q)).setCell (p := ⟨g + 1, 2, none⟩) (Nat.le_succ g) (.int .i64 0)
    exact below_drewN ((h3.alloc (by simp; omega) _).alloc (by simp; omega) _) 1
end Go.Proofs.Ytcmkkfpcdebfkaa
