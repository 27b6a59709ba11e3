/-
  The next state of programs (roadref4.State.Next): the other two kinds.
-/
import Derived.Test.YtcmkkfpcdebfkaaEx10
namespace Go.Proofs.Ytcmkkfpcdebfkaa
open Go.RowKit

set_option maxRecDepth 100000 in
set_option maxHeartbeats 4000000 in
theorem nextR3 (A : Option Addr) (c who a n : Nat) (yb : Int) (l : List (List Do)) (s : List Int) (W : World) (h : PIn W A c l) (hw : who < l.length) (hw4 : l.length ≤ 4) (hs : s.length = 12) (ha : s.getD (8 + who) 0 = a) (hal2 : a < (l.getD who []).length) (hy : (l.getD who []).getD a (0, 0, 0) = (3, (n : Int), yb)) (hn4 : n < 4) :
    Calls Try.prog 25 #[.agg (ints s).toArray, .slice A l.length c, .int .i64 who] W fun e w' => e = .returned (.agg (ints ((moveS (3, (n : Int), yb) who s).set (8 + who) ((a : Int) + 1))).toArray) ∧ Below W.heap.size W w' := by
  have HP := Lib.hid h
  have hbb := (Box.new W 49 (ints s).toArray).alloc (.cells #[.int .i64 0, .int .i64 0, .int .i64 0, .int .i64 0, .int .i64 0, .int .i64 0, .int .i64 0, .int .i64 0, .int .i64 0, .int .i64 0, .int .i64 0, .int .i64 0] 49)
  have hbr := Box.new (W.alloc (.cells (ints s).toArray 49)) 49 #[.int .i64 0, .int .i64 0, .int .i64 0, .int .i64 0, .int .i64 0, .int .i64 0, .int .i64 0, .int .i64 0, .int .i64 0, .int .i64 0, .int .i64 0, .int .i64 0]
  have hb1 := ((Below.refl W.heap.size W).alloc (Nat.le_refl _) (.cells (ints s).toArray 49)).alloc (by simp) (.cells #[.int .i64 0, .int .i64 0, .int .i64 0, .int .i64 0, .int .i64 0, .int .i64 0, .int .i64 0, .int .i64 0, .int .i64 0, .int .i64 0, .int .i64 0, .int .i64 0] 49)
  rw [show (W.alloc (.cells (ints s).toArray 49)).heap.size = W.heap.size + 1 by simp] at hbr
  have HBB := Lib.hid hbb
  have HBR := Lib.hid hbr
  have HB1 := Lib.hid hb1
  obtain ⟨row, hrw⟩ : ∃ row, l.getD who [] = row := ⟨_, rfl⟩
  rw [hrw] at hal2 hy
  have HGR := Lib.hid hrw
  have HY := Lib.hid hy
  clear hbb hbr hb1 h hrw hy
  obtain ⟨r, hr⟩ : ∃ r, ints ((moveS (3, (n : Int), yb) who s).set (8 + who) ((a : Int) + 1)) = r := ⟨_, rfl⟩
  rw [hr]
  have HRS := Lib.hid hr
  clear hr
  go_enter Try.func25, Try.ntmps25
  go_upto_region 1 with fail
  generalize (W.alloc (.cells (ints s).toArray 49)).alloc (.cells #[.int .i64 0, .int .i64 0, .int .i64 0, .int .i64 0, .int .i64 0, .int .i64 0, .int .i64 0, .int .i64 0, .int .i64 0, .int .i64 0, .int .i64 0, .int .i64 0] 49) = w1 at *
  obtain ⟨b, o, B, d, rfl, hbl, hcell, hrow, hd1, hd2, hd3⟩ := (HP.out.below HB1.out).each who hw
  rw [HGR.out] at hcell hrow hd1
  obtain ⟨b2, o2, rfl, hb2, hc0, hc1, hc2⟩ := (Row.rd hrow (i := a) (by omega) (0, 0, 0))
  rw [HY.out] at hc0 hc1 hc2
  dsimp only at hc0 hc1 hc2
  have hca := box_at HBB.out (i := 8 + who) (by omega)
  rw [ha] at hca
  have hg2 : W.heap.size + 1 < w1.heap.size := HBR.out.lt
  have hm : row.length ≤ 9223372036854775807 := by unfold maxLen at hd2; omega
  have hw4' : who < 4 := by omega
  have hw4i : (who : Int) < 4 := by omega
  clear hrow hd3
  generalize hge : W.heap.size = g at *
  have HGE := Lib.hid hge
  clear hge
  have hg1 : g < w1.heap.size := by omega
  go_region
  go_upto_region 2 with fail
  have hbd := (Box.new w1 57 #[.int .i64 3, .int .i64 n, .int .i64 yb]).drew
  have hbb2 := (HBB.out.alloc (.cells #[.int .i64 3, .int .i64 n, .int .i64 yb] 57)).drew
  have hbr2 := (HBR.out.alloc (.cells #[.int .i64 3, .int .i64 n, .int .i64 yb] 57)).drew
  have hb2 := below_drewN (HB1.out.alloc (by omega) (.cells #[.int .i64 3, .int .i64 n, .int .i64 yb] 57)) 1
  clear hcell hc0 hc1 hc2 hbl hca
  change Below g W (World.drew _) at hb2
  have hgd1 : g + 1 < w1.heap.size := hg2
  generalize hgd : w1.heap.size = gd at *
  generalize (w1.alloc (.cells #[.int .i64 3, .int .i64 n, .int .i64 yb] 57)).drew = w2 at *
  have hca := box_at hbb2 (i := 8 + who) (by omega)
  rw [ha] at hca
  have f3 := hbb2.frozen (8 + who)
  have HBB3 := Lib.hid (box_put hbb2 (8 + who) ((a : Int) + 1))
  have HBR3 := Lib.hid (hbr2.far (p := ⟨g, 8 + who, none⟩) (by simp) (.int .i64 ((a : Int) + 1)))
  have HBD3 := Lib.hid (hbd.far (p := ⟨g, 8 + who, none⟩) (by simp; omega) (.int .i64 ((a : Int) + 1)))
  have HB3 := Lib.hid (hb2.setCell (p := ⟨g, 8 + who, none⟩) (Nat.le_refl _) (.int .i64 ((a : Int) + 1)))
  clear hbb2 hbr2 hbd hb2 HBB HBR HB1 hgd
  go_upto_region 3 with fail
  generalize w2.setCell ⟨g, 8 + who, none⟩ (.int .i64 ((a : Int) + 1)) = w3 at *
  obtain ⟨s1, hs1e⟩ : ∃ s1, s.set (8 + who) ((a : Int) + 1) = s1 := ⟨_, rfl⟩
  rw [hs1e] at HBB3
  have HS1 := Lib.hid hs1e
  have hs1 : s1.length = 12 := by rw [← hs1e]; simp [hs]
  clear hs1e hca f3
  have e0 := HBD3.out.cell 0
  have e1 := HBD3.out.cell 1
  have e2 := HBD3.out.cell 2
  simp only [List.getElem?_toArray, List.getElem?_cons_zero, List.getElem?_cons_succ] at e0 e1 e2
  have hn4i : (n : Int) < 4 := by omega
  have hz := box_at HBB3.out (i := n) (by omega)
  have hh := box_at HBB3.out (i := 4 + who) (by omega)
  obtain ⟨z, hze⟩ : ∃ z, s1.getD n 0 = z := ⟨_, rfl⟩
  obtain ⟨hn, hne⟩ : ∃ z, s1.getD (4 + who) 0 = z := ⟨_, rfl⟩
  rw [hze] at hz
  rw [hne] at hh
  have HZE := Lib.hid hze
  have HNE := Lib.hid hne
  clear hze hne
  go_region
  go_upto_region 4 with fail
  have HBB4 := Lib.hid HBB3.out.drew
  have HBR4 := Lib.hid HBR3.out.drew
  have HBD4 := Lib.hid HBD3.out.drew
  have HB4 := Lib.hid (show Below g W w3.drew from below_drewN HB3.out 1)
  have d0 : w3.drew.cell? ⟨gd, 0, none⟩ = some (.int .i64 3) := e0
  have d1 : w3.drew.cell? ⟨gd, 1, none⟩ = some (.int .i64 n) := e1
  have d2 : w3.drew.cell? ⟨gd, 2, none⟩ = some (.int .i64 yb) := e2
  have hz' : w3.drew.cell? ⟨g, n, none⟩ = some (.int .i64 z) := hz
  clear e0 e1 e2 hz hh HBB3 HBR3 HB3 HBD3
  generalize w3.drew = w4 at *
  have hgd4 := lt_of_cell d0
  have hg4 : g < w4.heap.size := HBB4.out.lt
  dsimp only at hgd4
  have d0' : ∀ o, (w4.alloc o).cell? ⟨gd, 0, none⟩ = some (.int .i64 3) := fun o => (World.cell?_alloc_lt w4 o ⟨gd, 0, none⟩ hgd4).trans d0
  have d1' : ∀ o, (w4.alloc o).cell? ⟨gd, 1, none⟩ = some (.int .i64 n) := fun o => (World.cell?_alloc_lt w4 o ⟨gd, 1, none⟩ hgd4).trans d1
  have d2' : ∀ o, (w4.alloc o).cell? ⟨gd, 2, none⟩ = some (.int .i64 yb) := fun o => (World.cell?_alloc_lt w4 o ⟨gd, 2, none⟩ hgd4).trans d2
  have hz4 : ∀ o, (w4.alloc o).cell? ⟨g, n, none⟩ = some (.int .i64 z) := fun o => (World.cell?_alloc_lt w4 o ⟨g, n, none⟩ hg4).trans hz'
  have fz4 : ∀ o, (w4.alloc o).frozen? ⟨g, n, none⟩ = false := fun o => (HBB4.out.alloc o).frozen n
  go_region
  go_upto_region 5 with fail
  have hbb5 := ((box_put HBB4.out n (wrap64 (z + yb))).alloc (.cells #[.int .i64 z, .int .i64 z, .int .i64 (wrap64 (hn + yb)), .int .i64 (wrap64 (z + yb)), .int .i64 z] 3)).drew
  have HBR5 := Lib.hid ((HBR4.out.far (p := ⟨g, n, none⟩) (by simp) (.int .i64 (wrap64 (z + yb)))).alloc (.cells #[.int .i64 z, .int .i64 z, .int .i64 (wrap64 (hn + yb)), .int .i64 (wrap64 (z + yb)), .int .i64 z] 3)).drew
  have hbd5 := ((HBD4.out.far (p := ⟨g, n, none⟩) (by simp; omega) (.int .i64 (wrap64 (z + yb)))).alloc (.cells #[.int .i64 z, .int .i64 z, .int .i64 (wrap64 (hn + yb)), .int .i64 (wrap64 (z + yb)), .int .i64 z] 3)).drew
  have hb5 := below_drewN ((HB4.out.setCell (p := ⟨g, n, none⟩) (Nat.le_refl _) (.int .i64 (wrap64 (z + yb)))).alloc (by simp [World.setCell]; omega) (.cells #[.int .i64 z, .int .i64 z, .int .i64 (wrap64 (hn + yb)), .int .i64 (wrap64 (z + yb)), .int .i64 z] 3)) 1
  change Below g W (World.drew _) at hb5
  have HB5 := Lib.hid hb5
  clear d0 d1 d2 d0' d1' d2' hz4 fz4 hz' hgd4 hg4 hb5
  generalize ((w4.setCell ⟨g, n, none⟩ (.int .i64 (wrap64 (z + yb)))).alloc (.cells #[.int .i64 z, .int .i64 z, .int .i64 (wrap64 (hn + yb)), .int .i64 (wrap64 (z + yb)), .int .i64 z] 3)).drew = w5 at *
  have e5 := hbd5.cell 0
  simp only [List.getElem?_toArray, List.getElem?_cons_zero] at e5
  obtain ⟨s2, hs2e⟩ : ∃ s2, s1.set n (wrap64 (z + yb)) = s2 := ⟨_, rfl⟩
  rw [hs2e] at hbb5
  have HS2 := Lib.hid hs2e
  have hs2 : s2.length = 12 := by rw [← hs2e]; simp [hs1]
  clear hs2e hbd5
  have HBB5 := Lib.hid hbb5
  clear hbb5
  go_upto_region 7 with fail
  clear e5
  have HF := Lib.hid (show ints s2 = r by rw [← HRS.out]; congr 1; rw [← HS2.out]; exact fin_three HS1.out hn4 HZE.out)
  have HRNG := Lib.hid (range_st HBB5.out)
  have HSI := Lib.hid (info_sr hs2)
  have HTH := Lib.hid (there_st (s := s2) HBR5.out rfl hs2)
  have HSI2 := Lib.hid (info_sr2 hs2)
  have HONE := Lib.hid (ints_one s2)
  have hrd := read_sr HBR5.out rfl hs2
  have HB7 := Lib.hid (Below.setCells (g := g + 1) (by omega) (ints s2) 0 w5 HB5.out)
  rw [HF.out] at HRNG HSI HTH HSI2 HONE hrd HB7
  go_wp2_with (first | (guard_target =~ wpList _ _ _ ({ dst := some 63, op := _, type := _, pos := _, after := _, guard := _ } :: _) _ _; refine wpList_load_mid rfl 49 (.tmp 3) rfl g 0 rfl r _ HRNG.out Try.underlying49 rfl HSI.out ?_) | (guard_target =~ wpList _ _ _ ({ dst := none, op := _, type := _, pos := _, after := _, guard := _ } :: _) _ _; refine wpList_store_mid rfl 49 (.tmp 6) (.tmp 63) rfl (g + 1) 0 r.toArray rfl rfl HTH.out HSI2.out HONE.out ?_))
  refine bodyPost_ret (v := .agg r.toArray) (results_cell1 Try.results25 rfl hrd) rfl ?_
  exact ⟨rfl, by rw [HGE.out]; exact HB7.out⟩

set_option maxRecDepth 100000 in
set_option maxHeartbeats 4000000 in
theorem nextR4 (A : Option Addr) (c who a n : Nat) (yb : Int) (l : List (List Do)) (s : List Int) (W : World) (h : PIn W A c l) (hw : who < l.length) (hw4 : l.length ≤ 4) (hs : s.length = 12) (ha : s.getD (8 + who) 0 = a) (hal2 : a < (l.getD who []).length) (hy : (l.getD who []).getD a (0, 0, 0) = (4, (n : Int), yb)) (hn4 : n < 4) :
    Calls Try.prog 25 #[.agg (ints s).toArray, .slice A l.length c, .int .i64 who] W fun e w' => e = .returned (.agg (ints ((moveS (4, (n : Int), yb) who s).set (8 + who) ((a : Int) + 1))).toArray) ∧ Below W.heap.size W w' := by
  have HP := Lib.hid h
  have hbb := (Box.new W 49 (ints s).toArray).alloc (.cells #[.int .i64 0, .int .i64 0, .int .i64 0, .int .i64 0, .int .i64 0, .int .i64 0, .int .i64 0, .int .i64 0, .int .i64 0, .int .i64 0, .int .i64 0, .int .i64 0] 49)
  have hbr := Box.new (W.alloc (.cells (ints s).toArray 49)) 49 #[.int .i64 0, .int .i64 0, .int .i64 0, .int .i64 0, .int .i64 0, .int .i64 0, .int .i64 0, .int .i64 0, .int .i64 0, .int .i64 0, .int .i64 0, .int .i64 0]
  have hb1 := ((Below.refl W.heap.size W).alloc (Nat.le_refl _) (.cells (ints s).toArray 49)).alloc (by simp) (.cells #[.int .i64 0, .int .i64 0, .int .i64 0, .int .i64 0, .int .i64 0, .int .i64 0, .int .i64 0, .int .i64 0, .int .i64 0, .int .i64 0, .int .i64 0, .int .i64 0] 49)
  rw [show (W.alloc (.cells (ints s).toArray 49)).heap.size = W.heap.size + 1 by simp] at hbr
  have HBB := Lib.hid hbb
  have HBR := Lib.hid hbr
  have HB1 := Lib.hid hb1
  obtain ⟨row, hrw⟩ : ∃ row, l.getD who [] = row := ⟨_, rfl⟩
  rw [hrw] at hal2 hy
  have HGR := Lib.hid hrw
  have HY := Lib.hid hy
  clear hbb hbr hb1 h hrw hy
  obtain ⟨r, hr⟩ : ∃ r, ints ((moveS (4, (n : Int), yb) who s).set (8 + who) ((a : Int) + 1)) = r := ⟨_, rfl⟩
  rw [hr]
  have HRS := Lib.hid hr
  clear hr
  go_enter Try.func25, Try.ntmps25
  go_upto_region 1 with fail
  generalize (W.alloc (.cells (ints s).toArray 49)).alloc (.cells #[.int .i64 0, .int .i64 0, .int .i64 0, .int .i64 0, .int .i64 0, .int .i64 0, .int .i64 0, .int .i64 0, .int .i64 0, .int .i64 0, .int .i64 0, .int .i64 0] 49) = w1 at *
  obtain ⟨b, o, B, d, rfl, hbl, hcell, hrow, hd1, hd2, hd3⟩ := (HP.out.below HB1.out).each who hw
  rw [HGR.out] at hcell hrow hd1
  obtain ⟨b2, o2, rfl, hb2, hc0, hc1, hc2⟩ := (Row.rd hrow (i := a) (by omega) (0, 0, 0))
  rw [HY.out] at hc0 hc1 hc2
  dsimp only at hc0 hc1 hc2
  have hca := box_at HBB.out (i := 8 + who) (by omega)
  rw [ha] at hca
  have hg2 : W.heap.size + 1 < w1.heap.size := HBR.out.lt
  have hm : row.length ≤ 9223372036854775807 := by unfold maxLen at hd2; omega
  have hw4' : who < 4 := by omega
  have hw4i : (who : Int) < 4 := by omega
  clear hrow hd3
  generalize hge : W.heap.size = g at *
  have HGE := Lib.hid hge
  clear hge
  have hg1 : g < w1.heap.size := by omega
  go_region
  go_upto_region 2 with fail
  have hbd := (Box.new w1 57 #[.int .i64 4, .int .i64 n, .int .i64 yb]).drew
  have hbb2 := (HBB.out.alloc (.cells #[.int .i64 4, .int .i64 n, .int .i64 yb] 57)).drew
  have hbr2 := (HBR.out.alloc (.cells #[.int .i64 4, .int .i64 n, .int .i64 yb] 57)).drew
  have hb2 := below_drewN (HB1.out.alloc (by omega) (.cells #[.int .i64 4, .int .i64 n, .int .i64 yb] 57)) 1
  clear hcell hc0 hc1 hc2 hbl hca
  change Below g W (World.drew _) at hb2
  have hgd1 : g + 1 < w1.heap.size := hg2
  generalize hgd : w1.heap.size = gd at *
  generalize (w1.alloc (.cells #[.int .i64 4, .int .i64 n, .int .i64 yb] 57)).drew = w2 at *
  have hca := box_at hbb2 (i := 8 + who) (by omega)
  rw [ha] at hca
  have f3 := hbb2.frozen (8 + who)
  have HBB3 := Lib.hid (box_put hbb2 (8 + who) ((a : Int) + 1))
  have HBR3 := Lib.hid (hbr2.far (p := ⟨g, 8 + who, none⟩) (by simp) (.int .i64 ((a : Int) + 1)))
  have HBD3 := Lib.hid (hbd.far (p := ⟨g, 8 + who, none⟩) (by simp; omega) (.int .i64 ((a : Int) + 1)))
  have HB3 := Lib.hid (hb2.setCell (p := ⟨g, 8 + who, none⟩) (Nat.le_refl _) (.int .i64 ((a : Int) + 1)))
  clear hbb2 hbr2 hbd hb2 HBB HBR HB1 hgd
  go_upto_region 3 with fail
  generalize w2.setCell ⟨g, 8 + who, none⟩ (.int .i64 ((a : Int) + 1)) = w3 at *
  obtain ⟨s1, hs1e⟩ : ∃ s1, s.set (8 + who) ((a : Int) + 1) = s1 := ⟨_, rfl⟩
  rw [hs1e] at HBB3
  have HS1 := Lib.hid hs1e
  have hs1 : s1.length = 12 := by rw [← hs1e]; simp [hs]
  clear hs1e hca f3
  have e0 := HBD3.out.cell 0
  have e1 := HBD3.out.cell 1
  have e2 := HBD3.out.cell 2
  simp only [List.getElem?_toArray, List.getElem?_cons_zero, List.getElem?_cons_succ] at e0 e1 e2
  have hn4i : (n : Int) < 4 := by omega
  have hz := box_at HBB3.out (i := n) (by omega)
  have hh := box_at HBB3.out (i := 4 + who) (by omega)
  obtain ⟨z, hze⟩ : ∃ z, s1.getD n 0 = z := ⟨_, rfl⟩
  obtain ⟨hn, hne⟩ : ∃ z, s1.getD (4 + who) 0 = z := ⟨_, rfl⟩
  rw [hze] at hz
  rw [hne] at hh
  have HZE := Lib.hid hze
  have HNE := Lib.hid hne
  clear hze hne
  go_region
  go_upto_region 4 with fail
  have HBB4 := Lib.hid HBB3.out.drew
  have HBR4 := Lib.hid HBR3.out.drew
  have HBD4 := Lib.hid HBD3.out.drew
  have HB4 := Lib.hid (show Below g W w3.drew from below_drewN HB3.out 1)
  have d0 : w3.drew.cell? ⟨gd, 0, none⟩ = some (.int .i64 4) := e0
  have d1 : w3.drew.cell? ⟨gd, 1, none⟩ = some (.int .i64 n) := e1
  have d2 : w3.drew.cell? ⟨gd, 2, none⟩ = some (.int .i64 yb) := e2
  have hz' : w3.drew.cell? ⟨g, n, none⟩ = some (.int .i64 z) := hz
  clear e0 e1 e2 hz hh HBB3 HBR3 HB3 HBD3
  generalize w3.drew = w4 at *
  have hgd4 := lt_of_cell d0
  have hg4 : g < w4.heap.size := HBB4.out.lt
  dsimp only at hgd4
  have d0' : ∀ o, (w4.alloc o).cell? ⟨gd, 0, none⟩ = some (.int .i64 4) := fun o => (World.cell?_alloc_lt w4 o ⟨gd, 0, none⟩ hgd4).trans d0
  have d1' : ∀ o, (w4.alloc o).cell? ⟨gd, 1, none⟩ = some (.int .i64 n) := fun o => (World.cell?_alloc_lt w4 o ⟨gd, 1, none⟩ hgd4).trans d1
  have d2' : ∀ o, (w4.alloc o).cell? ⟨gd, 2, none⟩ = some (.int .i64 yb) := fun o => (World.cell?_alloc_lt w4 o ⟨gd, 2, none⟩ hgd4).trans d2
  have hz4 : ∀ o, (w4.alloc o).cell? ⟨g, n, none⟩ = some (.int .i64 z) := fun o => (World.cell?_alloc_lt w4 o ⟨g, n, none⟩ hg4).trans hz'
  have fz4 : ∀ o, (w4.alloc o).frozen? ⟨g, n, none⟩ = false := fun o => (HBB4.out.alloc o).frozen n
  go_region
  go_upto_region 5 with fail
  have hbb5 := ((box_put HBB4.out n z).alloc (.cells #[.int .i64 z, .int .i64 z, .int .i64 (wrap64 (hn + yb)), .int .i64 (wrap64 (z + yb)), .int .i64 z] 3)).drew
  have HBR5 := Lib.hid ((HBR4.out.far (p := ⟨g, n, none⟩) (by simp) (.int .i64 z)).alloc (.cells #[.int .i64 z, .int .i64 z, .int .i64 (wrap64 (hn + yb)), .int .i64 (wrap64 (z + yb)), .int .i64 z] 3)).drew
  have hbd5 := ((HBD4.out.far (p := ⟨g, n, none⟩) (by simp; omega) (.int .i64 z)).alloc (.cells #[.int .i64 z, .int .i64 z, .int .i64 (wrap64 (hn + yb)), .int .i64 (wrap64 (z + yb)), .int .i64 z] 3)).drew
  have hb5 := below_drewN ((HB4.out.setCell (p := ⟨g, n, none⟩) (Nat.le_refl _) (.int .i64 z)).alloc (by simp [World.setCell]; omega) (.cells #[.int .i64 z, .int .i64 z, .int .i64 (wrap64 (hn + yb)), .int .i64 (wrap64 (z + yb)), .int .i64 z] 3)) 1
  change Below g W (World.drew _) at hb5
  have HB5 := Lib.hid hb5
  clear d0 d1 d2 d0' d1' d2' hz4 fz4 hz' hgd4 hg4 hb5
  generalize ((w4.setCell ⟨g, n, none⟩ (.int .i64 z)).alloc (.cells #[.int .i64 z, .int .i64 z, .int .i64 (wrap64 (hn + yb)), .int .i64 (wrap64 (z + yb)), .int .i64 z] 3)).drew = w5 at *
  have e5 := hbd5.cell 0
  simp only [List.getElem?_toArray, List.getElem?_cons_zero] at e5
  obtain ⟨s2, hs2e⟩ : ∃ s2, s1.set n z = s2 := ⟨_, rfl⟩
  rw [hs2e] at hbb5
  have HS2 := Lib.hid hs2e
  have hs2 : s2.length = 12 := by rw [← hs2e]; simp [hs1]
  clear hs2e hbd5
  have HBB5 := Lib.hid hbb5
  clear hbb5
  go_upto_region 7 with fail
  clear e5
  have HF := Lib.hid (show ints s2 = r by rw [← HRS.out]; congr 1; rw [← HS2.out]; exact fin_four hs HS1.out hn4 HZE.out)
  have HRNG := Lib.hid (range_st HBB5.out)
  have HSI := Lib.hid (info_sr hs2)
  have HTH := Lib.hid (there_st (s := s2) HBR5.out rfl hs2)
  have HSI2 := Lib.hid (info_sr2 hs2)
  have HONE := Lib.hid (ints_one s2)
  have hrd := read_sr HBR5.out rfl hs2
  have HB7 := Lib.hid (Below.setCells (g := g + 1) (by omega) (ints s2) 0 w5 HB5.out)
  rw [HF.out] at HRNG HSI HTH HSI2 HONE hrd HB7
  go_wp2_with (first | (guard_target =~ wpList _ _ _ ({ dst := some 63, op := _, type := _, pos := _, after := _, guard := _ } :: _) _ _; refine wpList_load_mid rfl 49 (.tmp 3) rfl g 0 rfl r _ HRNG.out Try.underlying49 rfl HSI.out ?_) | (guard_target =~ wpList _ _ _ ({ dst := none, op := _, type := _, pos := _, after := _, guard := _ } :: _) _ _; refine wpList_store_mid rfl 49 (.tmp 6) (.tmp 63) rfl (g + 1) 0 r.toArray rfl rfl HTH.out HSI2.out HONE.out ?_))
  refine bodyPost_ret (v := .agg r.toArray) (results_cell1 Try.results25 rfl hrd) rfl ?_
  exact ⟨rfl, by rw [HGE.out]; exact HB7.out⟩

theorem nextR (A : Option Addr) (c who a : Nat) (l : List (List Do)) (s : List Int) (W : World) (h : PIn W A c l) (hw : who < l.length) (hw4 : l.length ≤ 4) (hs : s.length = 12) (ha : s.getD (8 + who) 0 = a) (hal2 : a < (l.getD who []).length) (hv : rowBad (l.getD who []) = 0) :
    Calls Try.prog 25 #[.agg (ints s).toArray, .slice A l.length c, .int .i64 who] W fun e w' => e = .returned (.agg (ints ((moveS ((l.getD who []).getD a (0, 0, 0)) who s).set (8 + who) ((a : Int) + 1))).toArray) ∧ Below W.heap.size W w' := by
  have hv2 := rowBad_ok hv hal2
  obtain ⟨y, hy⟩ : ∃ y, (l.getD who []).getD a (0, 0, 0) = y := ⟨_, rfl⟩
  rw [hy] at hv2 ⊢
  obtain ⟨yk, yc, yb⟩ := y
  obtain ⟨⟨hk1, hk2⟩, ⟨hcl, hch⟩, _⟩ := doBad_ok hv2
  obtain ⟨n, rfl⟩ : ∃ n : Nat, yc = n := ⟨yc.toNat, by omega⟩
  have hn4 : n < 4 := by omega
  have hk : yk = 1 ∨ yk = 2 ∨ yk = 3 ∨ yk = 4 := by omega
  rcases hk with rfl | rfl | rfl | rfl
  · exact nextR1 A c who a n yb l s W h hw hw4 hs ha hal2 hy hn4
  · exact nextR2 A c who a n yb l s W h hw hw4 hs ha hal2 hy hn4
  · exact nextR3 A c who a n yb l s W h hw hw4 hs ha hal2 hy hn4
  · exact nextR4 A c who a n yb l s W h hw hw4 hs ha hal2 hy hn4
end Go.Proofs.Ytcmkkfpcdebfkaa
