/-
  The next state of programs (roadref4.State.Next).
-/
import Derived.Test.YtcmkkfpcdebfkaaEx4
import Derived.BigRegion
namespace Go.Proofs.Ytcmkkfpcdebfkaa
open Go.RowKit

theorem set_same {s : List Int} {i : Nat} {x : Int} (hi : i < s.length) (h : s.getD i 0 = x) : s.set i x = s := by
  rw [← h, List.getD_eq_getElem?_getD, List.getElem?_eq_getElem hi]
  simp
theorem results_cell1 {P : Program} {fn : Func} {tmps : Array Value} {w : World} {a : Tmp} {t : TypeId} {p : Addr} {v : Value} (hf : fn.results = #[.cell a t]) (ha : tmps.getD a undef = .pointer (some p)) (hl : (loadVar t p).run P w = .ok v w) :
    (results fn tmps).run P w = .ok v w := by
  have ha' : tmps[a]?.getD undef = .pointer (some p) := by simpa using ha
  simp [results, hf, ha', asAddr, hl]
theorem sr_info : (Try.prog.info? 49).map (·.size) = some 12 := by kernel_rfl
theorem info_sr {s : List Int} (hs : s.length = 12) : (Try.prog.info? 49).map (·.size) = some (ints s).length := by rw [sr_info]; simp [ints, hs]
theorem info_sr2 {s : List Int} (hs : s.length = 12) : (Try.prog.info? 49).map (·.size) = some (ints s).toArray.size := by rw [sr_info]; simp [ints, hs]
theorem read_sr {w : World} {g : Nat} {t : TypeId} {cs : Array Value} {s : List Int} (hb : Box w g t cs) (hc : cs.size = 12) (hs : s.length = 12) :
    (loadVar 49 ⟨g, 0, none⟩).run Try.prog (w.setCells g 0 (ints s)) = .ok (.agg (ints s).toArray) (w.setCells g 0 (ints s)) :=
  run_loadVar_mid _ g 0 49 (ints s) _ (World.rangeAt_setCells_same w g 0 (ints s) (by have := box_there hb; rw [hc] at this; simpa [ints, hs] using this)) Try.underlying49 rfl (by rw [sr_info]; simp [ints, hs])

theorem fin_one {s s1 : List Int} {n who : Nat} {x b : Int} (hs : s.length = 12) (h1 : s.set (8 + who) b = s1) (hn : n < 4) (hw : who < 4) {z : Int} (hz : s1.getD n 0 = z) :
    (s1.set n z).set (4 + who) z = (moveS (1, (n : Int), x) who s).set (8 + who) b := by
  subst h1 hz
  rw [set_same (by simp [hs]; omega) rfl, getD_set_ne (by omega)]
  unfold moveS
  rw [if_pos rfl]
  simp only [Int.toNat_natCast]
  rw [List.set_comm _ _ (by omega)]
theorem fin_two {s s1 : List Int} {n who : Nat} {x b : Int} (h1 : s.set (8 + who) b = s1) (hn : n < 4) {z : Int} (hz : s1.getD (4 + who) 0 = z) :
    s1.set n (wrap64 (z + x)) = (moveS (2, (n : Int), x) who s).set (8 + who) b := by
  subst h1 hz
  rw [moveS_two, Int.toNat_natCast, getD_set_ne (by omega), List.set_comm _ _ (by omega)]
theorem fin_three {s s1 : List Int} {n who : Nat} {x b : Int} (h1 : s.set (8 + who) b = s1) (hn : n < 4) {z : Int} (hz : s1.getD n 0 = z) :
    s1.set n (wrap64 (z + x)) = (moveS (3, (n : Int), x) who s).set (8 + who) b := by
  subst h1 hz
  rw [moveS_three, Int.toNat_natCast, getD_set_ne (by omega), List.set_comm _ _ (by omega)]
theorem fin_four {s s1 : List Int} {n who : Nat} {x b : Int} (hs : s.length = 12) (h1 : s.set (8 + who) b = s1) (hn : n < 4) {z : Int} (hz : s1.getD n 0 = z) :
    s1.set n z = (moveS (4, (n : Int), x) who s).set (8 + who) b := by
  subst h1 hz
  rw [set_same (by simp [hs]; omega) rfl, moveS_four]

set_option maxRecDepth 100000 in
set_option maxHeartbeats 4000000 in
theorem nextR1 (A : Option Addr) (c who a n : Nat) (yb : Int) (l : List (List Do)) (s : List Int) (W : World) (h : PIn W A c l) (hw : who < l.length) (hw4 : l.length ≤ 4) (hs : s.length = 12) (ha : s.getD (8 + who) 0 = a) (hal2 : a < (l.getD who []).length) (hy : (l.getD who []).getD a (0, 0, 0) = (1, (n : Int), yb)) (hn4 : n < 4) :
    Calls Try.prog 25 #[.agg (ints s).toArray, .slice A l.length c, .int .i64 who] W fun e w' => e = .returned (.agg (ints ((moveS (1, (n : Int), yb) who s).set (8 + who) ((a : Int) + 1))).toArray) ∧ Below W.heap.size W w' := by
  have HP := Lib.hid h
  have hbb := (Box.new W 49 (ints s).toArray).alloc (.cells #[.int .i64 0, .int .i64 0, .int .i64 0, .int .i64 0, .int .i64 0, .int .i64 0, .int .i64 0, .int .i64 0, .int .i64 0, .int .i64 0, .int .i64 0, .int .i64 0] 49)
  have hbr := Box.new (W.alloc (.cells (ints s).toArray 49)) 49 #[.int .i64 0, .int .i64 0, .int .i64 0, .int .i64 0, .int .i64 0, .int .i64 0, .int .i64 0, .int .i64 0, .int .i64 0, .int .i64 0, .int .i64 0, .int .i64 0]
  have hb1 := ((Below.refl W.heap.size W).alloc (Nat.le_refl _) (.cells (ints s).toArray 49)).alloc (by simp) (.cells #[.int .i64 0, .int .i64 0, .int .i64 0, .int .i64 0, .int .i64 0, .int .i64 0, .int .i64 0, .int .i64 0, .int .i64 0, .int .i64 0, .int .i64 0, .int .i64 0] 49)
  rw [show (W.alloc (.cells (ints s).toArray 49)).heap.size = W.heap.size + 1 by simp] at hbr
  have HBB := Lib.hid hbb
  have HBR := Lib.hid hbr
  have HB1 := Lib.hid hb1
  obtain ⟨row, hrw⟩ : ∃ row, l.getD who [] = row := ⟨_, rfl⟩
  rw [hrw] at hal2 hy
  have HGR := Lib.hid hrw
  have HY := Lib.hid hy
  clear hbb hbr hb1 h hrw hy
  obtain ⟨r, hr⟩ : ∃ r, ints ((moveS (1, (n : Int), yb) who s).set (8 + who) ((a : Int) + 1)) = r := ⟨_, rfl⟩
  rw [hr]
  have HRS := Lib.hid hr
  clear hr
  go_enter Try.func25, Try.ntmps25
  go_upto_region 1 with fail
  generalize (W.alloc (.cells (ints s).toArray 49)).alloc (.cells #[.int .i64 0, .int .i64 0, .int .i64 0, .int .i64 0, .int .i64 0, .int .i64 0, .int .i64 0, .int .i64 0, .int .i64 0, .int .i64 0, .int .i64 0, .int .i64 0] 49) = w1 at *
  obtain ⟨b, o, B, d, rfl, hbl, hcell, hrow, hd1, hd2, hd3⟩ := (HP.out.below HB1.out).each who hw
  rw [HGR.out] at hcell hrow hd1
  obtain ⟨b2, o2, rfl, hb2, hc0, hc1, hc2⟩ := (Row.rd hrow (i := a) (by omega) (0, 0, 0))
  rw [HY.out] at hc0 hc1 hc2
  dsimp only at hc0 hc1 hc2
  have hca := box_at HBB.out (i := 8 + who) (by omega)
  rw [ha] at hca
  have hg2 : W.heap.size + 1 < w1.heap.size := HBR.out.lt
  have hm : row.length ≤ 9223372036854775807 := by unfold maxLen at hd2; omega
  have hw4' : who < 4 := by omega
  have hw4i : (who : Int) < 4 := by omega
  clear hrow hd3
  generalize hge : W.heap.size = g at *
  have HGE := Lib.hid hge
  clear hge
  have hg1 : g < w1.heap.size := by omega
  go_region
  go_upto_region 2 with fail
  have hbd := (Box.new w1 57 #[.int .i64 1, .int .i64 n, .int .i64 yb]).drew
  have hbb2 := (HBB.out.alloc (.cells #[.int .i64 1, .int .i64 n, .int .i64 yb] 57)).drew
  have hbr2 := (HBR.out.alloc (.cells #[.int .i64 1, .int .i64 n, .int .i64 yb] 57)).drew
  have hb2 := below_drewN (HB1.out.alloc (by omega) (.cells #[.int .i64 1, .int .i64 n, .int .i64 yb] 57)) 1
  clear hcell hc0 hc1 hc2 hbl hca
  change Below g W (World.drew _) at hb2
  have hgd1 : g + 1 < w1.heap.size := hg2
  generalize hgd : w1.heap.size = gd at *
  generalize (w1.alloc (.cells #[.int .i64 1, .int .i64 n, .int .i64 yb] 57)).drew = w2 at *
  have hca := box_at hbb2 (i := 8 + who) (by omega)
  rw [ha] at hca
  have f3 := hbb2.frozen (8 + who)
  have HBB3 := Lib.hid (box_put hbb2 (8 + who) ((a : Int) + 1))
  have HBR3 := Lib.hid (hbr2.far (p := ⟨g, 8 + who, none⟩) (by simp) (.int .i64 ((a : Int) + 1)))
  have HBD3 := Lib.hid (hbd.far (p := ⟨g, 8 + who, none⟩) (by simp; omega) (.int .i64 ((a : Int) + 1)))
  have HB3 := Lib.hid (hb2.setCell (p := ⟨g, 8 + who, none⟩) (Nat.le_refl _) (.int .i64 ((a : Int) + 1)))
  clear hbb2 hbr2 hbd hb2 HBB HBR HB1 hgd
  go_upto_region 3 with fail
  generalize w2.setCell ⟨g, 8 + who, none⟩ (.int .i64 ((a : Int) + 1)) = w3 at *
  obtain ⟨s1, hs1e⟩ : ∃ s1, s.set (8 + who) ((a : Int) + 1) = s1 := ⟨_, rfl⟩
  rw [hs1e] at HBB3
  have HS1 := Lib.hid hs1e
  have hs1 : s1.length = 12 := by rw [← hs1e]; simp [hs]
  clear hs1e hca f3
  have e0 := HBD3.out.cell 0
  have e1 := HBD3.out.cell 1
  have e2 := HBD3.out.cell 2
  simp only [List.getElem?_toArray, List.getElem?_cons_zero, List.getElem?_cons_succ] at e0 e1 e2
  have hn4i : (n : Int) < 4 := by omega
  have hz := box_at HBB3.out (i := n) (by omega)
  have hh := box_at HBB3.out (i := 4 + who) (by omega)
  obtain ⟨z, hze⟩ : ∃ z, s1.getD n 0 = z := ⟨_, rfl⟩
  obtain ⟨hn, hne⟩ : ∃ z, s1.getD (4 + who) 0 = z := ⟨_, rfl⟩
  rw [hze] at hz
  rw [hne] at hh
  have HZE := Lib.hid hze
  have HNE := Lib.hid hne
  clear hze hne
  go_region
  go_upto_region 4 with fail
  have HBB4 := Lib.hid HBB3.out.drew
  have HBR4 := Lib.hid HBR3.out.drew
  have HBD4 := Lib.hid HBD3.out.drew
  have HB4 := Lib.hid (show Below g W w3.drew from below_drewN HB3.out 1)
  have d0 : w3.drew.cell? ⟨gd, 0, none⟩ = some (.int .i64 1) := e0
  have d1 : w3.drew.cell? ⟨gd, 1, none⟩ = some (.int .i64 n) := e1
  have d2 : w3.drew.cell? ⟨gd, 2, none⟩ = some (.int .i64 yb) := e2
  have hz' : w3.drew.cell? ⟨g, n, none⟩ = some (.int .i64 z) := hz
  clear e0 e1 e2 hz hh HBB3 HBR3 HB3 HBD3
  generalize w3.drew = w4 at *
  have hgd4 := lt_of_cell d0
  have hg4 : g < w4.heap.size := HBB4.out.lt
  dsimp only at hgd4
  have d0' : ∀ o, (w4.alloc o).cell? ⟨gd, 0, none⟩ = some (.int .i64 1) := fun o => (World.cell?_alloc_lt w4 o ⟨gd, 0, none⟩ hgd4).trans d0
  have d1' : ∀ o, (w4.alloc o).cell? ⟨gd, 1, none⟩ = some (.int .i64 n) := fun o => (World.cell?_alloc_lt w4 o ⟨gd, 1, none⟩ hgd4).trans d1
  have d2' : ∀ o, (w4.alloc o).cell? ⟨gd, 2, none⟩ = some (.int .i64 yb) := fun o => (World.cell?_alloc_lt w4 o ⟨gd, 2, none⟩ hgd4).trans d2
  have hz4 : ∀ o, (w4.alloc o).cell? ⟨g, n, none⟩ = some (.int .i64 z) := fun o => (World.cell?_alloc_lt w4 o ⟨g, n, none⟩ hg4).trans hz'
  have fz4 : ∀ o, (w4.alloc o).frozen? ⟨g, n, none⟩ = false := fun o => (HBB4.out.alloc o).frozen n
  go_region
  go_upto_region 5 with fail
  have hbb5 := ((box_put HBB4.out n z).alloc (.cells #[.int .i64 z, .int .i64 z, .int .i64 (wrap64 (hn + yb)), .int .i64 (wrap64 (z + yb)), .int .i64 z] 3)).drew
  have HBR5 := Lib.hid ((HBR4.out.far (p := ⟨g, n, none⟩) (by simp) (.int .i64 z)).alloc (.cells #[.int .i64 z, .int .i64 z, .int .i64 (wrap64 (hn + yb)), .int .i64 (wrap64 (z + yb)), .int .i64 z] 3)).drew
  have hbd5 := ((HBD4.out.far (p := ⟨g, n, none⟩) (by simp; omega) (.int .i64 z)).alloc (.cells #[.int .i64 z, .int .i64 z, .int .i64 (wrap64 (hn + yb)), .int .i64 (wrap64 (z + yb)), .int .i64 z] 3)).drew
  have hb5 := below_drewN ((HB4.out.setCell (p := ⟨g, n, none⟩) (Nat.le_refl _) (.int .i64 z)).alloc (by simp [World.setCell]; omega) (.cells #[.int .i64 z, .int .i64 z, .int .i64 (wrap64 (hn + yb)), .int .i64 (wrap64 (z + yb)), .int .i64 z] 3)) 1
  change Below g W (World.drew _) at hb5
  have HB5 := Lib.hid hb5
  clear d0 d1 d2 d0' d1' d2' hz4 fz4 hz' hgd4 hg4 hb5
  generalize ((w4.setCell ⟨g, n, none⟩ (.int .i64 z)).alloc (.cells #[.int .i64 z, .int .i64 z, .int .i64 (wrap64 (hn + yb)), .int .i64 (wrap64 (z + yb)), .int .i64 z] 3)).drew = w5 at *
  have e5 := hbd5.cell 0
  simp only [List.getElem?_toArray, List.getElem?_cons_zero] at e5
  obtain ⟨s2, hs2e⟩ : ∃ s2, s1.set n z = s2 := ⟨_, rfl⟩
  rw [hs2e] at hbb5
  have HS2 := Lib.hid hs2e
  have hs2 : s2.length = 12 := by rw [← hs2e]; simp [hs1]
  clear hs2e hbd5
  go_upto_region 6 with fail
  have hh5 := box_at hbb5 (i := 4 + who) (by omega)
  have f5 := hbb5.frozen (4 + who)
  have HBB6 := Lib.hid (box_put hbb5 (4 + who) z)
  have HBR6 := Lib.hid (HBR5.out.far (p := ⟨g, 4 + who, none⟩) (by simp) (.int .i64 z))
  have HB6 := Lib.hid (HB5.out.setCell (p := ⟨g, 4 + who, none⟩) (Nat.le_refl _) (.int .i64 z))
  clear hbb5 e5
  go_upto_region 7 with fail
  generalize w5.setCell ⟨g, 4 + who, none⟩ (.int .i64 z) = w6 at *
  obtain ⟨s3, hs3e⟩ : ∃ s3, s2.set (4 + who) z = s3 := ⟨_, rfl⟩
  rw [hs3e] at HBB6
  have HS3 := Lib.hid hs3e
  have hs3 : s3.length = 12 := by rw [← hs3e]; simp [hs2]
  clear hs3e hh5 f5
  have HF := Lib.hid (show ints s3 = r by rw [← HRS.out]; congr 1; rw [← HS3.out, ← HS2.out]; exact fin_one hs HS1.out hn4 hw4' HZE.out)
  have HRNG := Lib.hid (range_st HBB6.out)
  have HSI := Lib.hid (info_sr hs3)
  have HTH := Lib.hid (there_st (s := s3) HBR6.out rfl hs3)
  have HSI2 := Lib.hid (info_sr2 hs3)
  have HONE := Lib.hid (ints_one s3)
  have hrd := read_sr HBR6.out rfl hs3
  have HB7 := Lib.hid (Below.setCells (g := g + 1) (by omega) (ints s3) 0 w6 HB6.out)
  rw [HF.out] at HRNG HSI HTH HSI2 HONE hrd HB7
  go_wp2_with (first | (guard_target =~ wpList _ _ _ ({ dst := some 63, op := _, type := _, pos := _, after := _, guard := _ } :: _) _ _; refine wpList_load_mid rfl 49 (.tmp 3) rfl g 0 rfl r _ HRNG.out Try.underlying49 rfl HSI.out ?_) | (guard_target =~ wpList _ _ _ ({ dst := none, op := _, type := _, pos := _, after := _, guard := _ } :: _) _ _; refine wpList_store_mid rfl 49 (.tmp 6) (.tmp 63) rfl (g + 1) 0 r.toArray rfl rfl HTH.out HSI2.out HONE.out ?_))
  refine bodyPost_ret (v := .agg r.toArray) (results_cell1 Try.results25 rfl hrd) rfl ?_
  exact ⟨rfl, by rw [HGE.out]; exact HB7.out⟩

set_option maxRecDepth 100000 in
set_option maxHeartbeats 4000000 in
theorem nextR2 (A : Option Addr) (c who a n : Nat) (yb : Int) (l : List (List Do)) (s : List Int) (W : World) (h : PIn W A c l) (hw : who < l.length) (hw4 : l.length ≤ 4) (hs : s.length = 12) (ha : s.getD (8 + who) 0 = a) (hal2 : a < (l.getD who []).length) (hy : (l.getD who []).getD a (0, 0, 0) = (2, (n : Int), yb)) (hn4 : n < 4) :
    Calls Try.prog 25 #[.agg (ints s).toArray, .slice A l.length c, .int .i64 who] W fun e w' => e = .returned (.agg (ints ((moveS (2, (n : Int), yb) who s).set (8 + who) ((a : Int) + 1))).toArray) ∧ Below W.heap.size W w' := by
  have HP := Lib.hid h
  have hbb := (Box.new W 49 (ints s).toArray).alloc (.cells #[.int .i64 0, .int .i64 0, .int .i64 0, .int .i64 0, .int .i64 0, .int .i64 0, .int .i64 0, .int .i64 0, .int .i64 0, .int .i64 0, .int .i64 0, .int .i64 0] 49)
  have hbr := Box.new (W.alloc (.cells (ints s).toArray 49)) 49 #[.int .i64 0, .int .i64 0, .int .i64 0, .int .i64 0, .int .i64 0, .int .i64 0, .int .i64 0, .int .i64 0, .int .i64 0, .int .i64 0, .int .i64 0, .int .i64 0]
  have hb1 := ((Below.refl W.heap.size W).alloc (Nat.le_refl _) (.cells (ints s).toArray 49)).alloc (by simp) (.cells #[.int .i64 0, .int .i64 0, .int .i64 0, .int .i64 0, .int .i64 0, .int .i64 0, .int .i64 0, .int .i64 0, .int .i64 0, .int .i64 0, .int .i64 0, .int .i64 0] 49)
  rw [show (W.alloc (.cells (ints s).toArray 49)).heap.size = W.heap.size + 1 by simp] at hbr
  have HBB := Lib.hid hbb
  have HBR := Lib.hid hbr
  have HB1 := Lib.hid hb1
  obtain ⟨row, hrw⟩ : ∃ row, l.getD who [] = row := ⟨_, rfl⟩
  rw [hrw] at hal2 hy
  have HGR := Lib.hid hrw
  have HY := Lib.hid hy
  clear hbb hbr hb1 h hrw hy
  obtain ⟨r, hr⟩ : ∃ r, ints ((moveS (2, (n : Int), yb) who s).set (8 + who) ((a : Int) + 1)) = r := ⟨_, rfl⟩
  rw [hr]
  have HRS := Lib.hid hr
  clear hr
  go_enter Try.func25, Try.ntmps25
  go_upto_region 1 with fail
  generalize (W.alloc (.cells (ints s).toArray 49)).alloc (.cells #[.int .i64 0, .int .i64 0, .int .i64 0, .int .i64 0, .int .i64 0, .int .i64 0, .int .i64 0, .int .i64 0, .int .i64 0, .int .i64 0, .int .i64 0, .int .i64 0] 49) = w1 at *
  obtain ⟨b, o, B, d, rfl, hbl, hcell, hrow, hd1, hd2, hd3⟩ := (HP.out.below HB1.out).each who hw
  rw [HGR.out] at hcell hrow hd1
  obtain ⟨b2, o2, rfl, hb2, hc0, hc1, hc2⟩ := (Row.rd hrow (i := a) (by omega) (0, 0, 0))
  rw [HY.out] at hc0 hc1 hc2
  dsimp only at hc0 hc1 hc2
  have hca := box_at HBB.out (i := 8 + who) (by omega)
  rw [ha] at hca
  have hg2 : W.heap.size + 1 < w1.heap.size := HBR.out.lt
  have hm : row.length ≤ 9223372036854775807 := by unfold maxLen at hd2; omega
  have hw4' : who < 4 := by omega
  have hw4i : (who : Int) < 4 := by omega
  clear hrow hd3
  generalize hge : W.heap.size = g at *
  have HGE := Lib.hid hge
  clear hge
  have hg1 : g < w1.heap.size := by omega
  go_region
  go_upto_region 2 with fail
  have hbd := (Box.new w1 57 #[.int .i64 2, .int .i64 n, .int .i64 yb]).drew
  have hbb2 := (HBB.out.alloc (.cells #[.int .i64 2, .int .i64 n, .int .i64 yb] 57)).drew
  have hbr2 := (HBR.out.alloc (.cells #[.int .i64 2, .int .i64 n, .int .i64 yb] 57)).drew
  have hb2 := below_drewN (HB1.out.alloc (by omega) (.cells #[.int .i64 2, .int .i64 n, .int .i64 yb] 57)) 1
  clear hcell hc0 hc1 hc2 hbl hca
  change Below g W (World.drew _) at hb2
  have hgd1 : g + 1 < w1.heap.size := hg2
  generalize hgd : w1.heap.size = gd at *
  generalize (w1.alloc (.cells #[.int .i64 2, .int .i64 n, .int .i64 yb] 57)).drew = w2 at *
  have hca := box_at hbb2 (i := 8 + who) (by omega)
  rw [ha] at hca
  have f3 := hbb2.frozen (8 + who)
  have HBB3 := Lib.hid (box_put hbb2 (8 + who) ((a : Int) + 1))
  have HBR3 := Lib.hid (hbr2.far (p := ⟨g, 8 + who, none⟩) (by simp) (.int .i64 ((a : Int) + 1)))
  have HBD3 := Lib.hid (hbd.far (p := ⟨g, 8 + who, none⟩) (by simp; omega) (.int .i64 ((a : Int) + 1)))
  have HB3 := Lib.hid (hb2.setCell (p := ⟨g, 8 + who, none⟩) (Nat.le_refl _) (.int .i64 ((a : Int) + 1)))
  clear hbb2 hbr2 hbd hb2 HBB HBR HB1 hgd
  go_upto_region 3 with fail
  generalize w2.setCell ⟨g, 8 + who, none⟩ (.int .i64 ((a : Int) + 1)) = w3 at *
  obtain ⟨s1, hs1e⟩ : ∃ s1, s.set (8 + who) ((a : Int) + 1) = s1 := ⟨_, rfl⟩
  rw [hs1e] at HBB3
  have HS1 := Lib.hid hs1e
  have hs1 : s1.length = 12 := by rw [← hs1e]; simp [hs]
  clear hs1e hca f3
  have e0 := HBD3.out.cell 0
  have e1 := HBD3.out.cell 1
  have e2 := HBD3.out.cell 2
  simp only [List.getElem?_toArray, List.getElem?_cons_zero, List.getElem?_cons_succ] at e0 e1 e2
  have hn4i : (n : Int) < 4 := by omega
  have hz := box_at HBB3.out (i := n) (by omega)
  have hh := box_at HBB3.out (i := 4 + who) (by omega)
  obtain ⟨z, hze⟩ : ∃ z, s1.getD n 0 = z := ⟨_, rfl⟩
  obtain ⟨hn, hne⟩ : ∃ z, s1.getD (4 + who) 0 = z := ⟨_, rfl⟩
  rw [hze] at hz
  rw [hne] at hh
  have HZE := Lib.hid hze
  have HNE := Lib.hid hne
  clear hze hne
  go_region
  go_upto_region 4 with fail
  have HBB4 := Lib.hid HBB3.out.drew
  have HBR4 := Lib.hid HBR3.out.drew
  have HBD4 := Lib.hid HBD3.out.drew
  have HB4 := Lib.hid (show Below g W w3.drew from below_drewN HB3.out 1)
  have d0 : w3.drew.cell? ⟨gd, 0, none⟩ = some (.int .i64 2) := e0
  have d1 : w3.drew.cell? ⟨gd, 1, none⟩ = some (.int .i64 n) := e1
  have d2 : w3.drew.cell? ⟨gd, 2, none⟩ = some (.int .i64 yb) := e2
  have hz' : w3.drew.cell? ⟨g, n, none⟩ = some (.int .i64 z) := hz
  clear e0 e1 e2 hz hh HBB3 HBR3 HB3 HBD3
  generalize w3.drew = w4 at *
  have hgd4 := lt_of_cell d0
  have hg4 : g < w4.heap.size := HBB4.out.lt
  dsimp only at hgd4
  have d0' : ∀ o, (w4.alloc o).cell? ⟨gd, 0, none⟩ = some (.int .i64 2) := fun o => (World.cell?_alloc_lt w4 o ⟨gd, 0, none⟩ hgd4).trans d0
  have d1' : ∀ o, (w4.alloc o).cell? ⟨gd, 1, none⟩ = some (.int .i64 n) := fun o => (World.cell?_alloc_lt w4 o ⟨gd, 1, none⟩ hgd4).trans d1
  have d2' : ∀ o, (w4.alloc o).cell? ⟨gd, 2, none⟩ = some (.int .i64 yb) := fun o => (World.cell?_alloc_lt w4 o ⟨gd, 2, none⟩ hgd4).trans d2
  have hz4 : ∀ o, (w4.alloc o).cell? ⟨g, n, none⟩ = some (.int .i64 z) := fun o => (World.cell?_alloc_lt w4 o ⟨g, n, none⟩ hg4).trans hz'
  have fz4 : ∀ o, (w4.alloc o).frozen? ⟨g, n, none⟩ = false := fun o => (HBB4.out.alloc o).frozen n
  go_region
  go_upto_region 5 with fail
  have hbb5 := ((box_put HBB4.out n (wrap64 (hn + yb))).alloc (.cells #[.int .i64 z, .int .i64 z, .int .i64 (wrap64 (hn + yb)), .int .i64 (wrap64 (z + yb)), .int .i64 z] 3)).drew
  have HBR5 := Lib.hid ((HBR4.out.far (p := ⟨g, n, none⟩) (by simp) (.int .i64 (wrap64 (hn + yb)))).alloc (.cells #[.int .i64 z, .int .i64 z, .int .i64 (wrap64 (hn + yb)), .int .i64 (wrap64 (z + yb)), .int .i64 z] 3)).drew
  have hbd5 := ((HBD4.out.far (p := ⟨g, n, none⟩) (by simp; omega) (.int .i64 (wrap64 (hn + yb)))).alloc (.cells #[.int .i64 z, .int .i64 z, .int .i64 (wrap64 (hn + yb)), .int .i64 (wrap64 (z + yb)), .int .i64 z] 3)).drew
  have hb5 := below_drewN ((HB4.out.setCell (p := ⟨g, n, none⟩) (Nat.le_refl _) (.int .i64 (wrap64 (hn + yb)))).alloc (by simp [World.setCell]; omega) (.cells #[.int .i64 z, .int .i64 z, .int .i64 (wrap64 (hn + yb)), .int .i64 (wrap64 (z + yb)), .int .i64 z] 3)) 1
  change Below g W (World.drew _) at hb5
  have HB5 := Lib.hid hb5
  clear d0 d1 d2 d0' d1' d2' hz4 fz4 hz' hgd4 hg4 hb5
  generalize ((w4.setCell ⟨g, n, none⟩ (.int .i64 (wrap64 (hn + yb)))).alloc (.cells #[.int .i64 z, .int .i64 z, .int .i64 (wrap64 (hn + yb)), .int .i64 (wrap64 (z + yb)), .int .i64 z] 3)).drew = w5 at *
  have e5 := hbd5.cell 0
  simp only [List.getElem?_toArray, List.getElem?_cons_zero] at e5
  obtain ⟨s2, hs2e⟩ : ∃ s2, s1.set n (wrap64 (hn + yb)) = s2 := ⟨_, rfl⟩
  rw [hs2e] at hbb5
  have HS2 := Lib.hid hs2e
  have hs2 : s2.length = 12 := by rw [← hs2e]; simp [hs1]
  clear hs2e hbd5
  have HBB5 := Lib.hid hbb5
  clear hbb5
  go_upto_region 7 with fail
  clear e5
  have HF := Lib.hid (show ints s2 = r by rw [← HRS.out]; congr 1; rw [← HS2.out]; exact fin_two HS1.out hn4 HNE.out)
  have HRNG := Lib.hid (range_st HBB5.out)
  have HSI := Lib.hid (info_sr hs2)
  have HTH := Lib.hid (there_st (s := s2) HBR5.out rfl hs2)
  have HSI2 := Lib.hid (info_sr2 hs2)
  have HONE := Lib.hid (ints_one s2)
  have hrd := read_sr HBR5.out rfl hs2
  have HB7 := Lib.hid (Below.setCells (g := g + 1) (by omega) (ints s2) 0 w5 HB5.out)
  rw [HF.out] at HRNG HSI HTH HSI2 HONE hrd HB7
  go_wp2_with (first | (guard_target =~ wpList _ _ _ ({ dst := some 63, op := _, type := _, pos := _, after := _, guard := _ } :: _) _ _; refine wpList_load_mid rfl 49 (.tmp 3) rfl g 0 rfl r _ HRNG.out Try.underlying49 rfl HSI.out ?_) | (guard_target =~ wpList _ _ _ ({ dst := none, op := _, type := _, pos := _, after := _, guard := _ } :: _) _ _; refine wpList_store_mid rfl 49 (.tmp 6) (.tmp 63) rfl (g + 1) 0 r.toArray rfl rfl HTH.out HSI2.out HONE.out ?_))
  refine bodyPost_ret (v := .agg r.toArray) (results_cell1 Try.results25 rfl hrd) rfl ?_
  exact ⟨rfl, by rw [HGE.out]; exact HB7.out⟩

end Go.Proofs.Ytcmkkfpcdebfkaa
