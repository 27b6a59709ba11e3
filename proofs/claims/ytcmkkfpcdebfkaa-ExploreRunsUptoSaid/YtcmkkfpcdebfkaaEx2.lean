/-
  One step of a program (explore.next).
-/
import Derived.Test.YtcmkkfpcdebfkaaEx1
import Derived.Deep.MidRow
import Derived.Laws.ResultCell
import Derived.Deep.RegionHeld3
import Derived.Deep.CutBlock
import Derived.Deep.DeepCutAuto
namespace Go.Proofs.Ytcmkkfpcdebfkaa
open Go.RowKit

theorem st_info : (Try.prog.info? 36).map (·.size) = some 12 := by kernel_rfl
theorem load_st {w : World} {g : Nat} {s : List Int} (hb : Box w g 36 (ints s).toArray) (hs : s.length = 12) :
    (Instr.loadAt 36 (.pointer (some ⟨g, 0, none⟩))).run Try.prog w = .ok (.agg (ints s).toArray) w :=
  run_loadAt_mid w g 0 36 (ints s) _ (fun j v hv => by rw [Nat.zero_add, hb.cell]; simpa using hv) Try.underlying36 rfl (by rw [st_info]; simp [ints, hs])

theorem box_at {w : World} {g : Nat} {t : TypeId} {s : List Int} (hb : Box w g t (ints s).toArray) {i : Nat} (hi : i < s.length) : w.cell? ⟨g, i, none⟩ = some (.int .i64 (s.getD i 0)) := by
  rw [hb.cell]
  simp [ints, hi]
theorem box_put {w : World} {g : Nat} {t : TypeId} {s : List Int} (hb : Box w g t (ints s).toArray) (i : Nat) (x : Int) : Box (w.setCell ⟨g, i, none⟩ (.int .i64 x)) g t (ints (s.set i x)).toArray := by
  have h := hb.set i (.int .i64 x)
  have e : (ints s).toArray.setIfInBounds i (.int .i64 x) = (ints (s.set i x)).toArray := by simp [ints, List.map_set]
  rwa [e] at h

theorem Below.setCells {B g : Nat} {a : World} (hg : B ≤ g) : ∀ (vs : List Value) (o : Nat) (w : World), Below B a w → Below B a (w.setCells g o vs)
  | [], _, _, h => h
  | v :: r, o, _, h => Below.setCells hg r (o + 1) _ (h.setCell (p := ⟨g, o, none⟩) hg v)
theorem box_there {w : World} {g : Nat} {t : TypeId} {cs : Array Value} (hb : Box w g t cs) : w.there g 0 cs.size := fun j hj => by
  rw [Nat.zero_add, hb.cell, hb.frozen]
  simp [hj]
theorem ints_one (s : List Int) : (ints s).toArray.all (·.oneCell') = true := all_oneCell_toArray (fun v hv => by
  simp only [ints, List.mem_map] at hv
  obtain ⟨x, _, rfl⟩ := hv
  rfl)
theorem range_st {w : World} {g : Nat} {t : TypeId} {s : List Int} (hb : Box w g t (ints s).toArray) : w.rangeAt g 0 (ints s) := fun j v hv => by rw [Nat.zero_add, hb.cell]; simpa using hv
theorem info_st {s : List Int} (hs : s.length = 12) : (Try.prog.info? 36).map (·.size) = some (ints s).length := by rw [st_info]; simp [ints, hs]
theorem info_st2 {s : List Int} (hs : s.length = 12) : (Try.prog.info? 36).map (·.size) = some (ints s).toArray.size := by rw [st_info]; simp [ints, hs]
theorem there_st {w : World} {g : Nat} {t : TypeId} {cs : Array Value} {s : List Int} (hb : Box w g t cs) (hc : cs.size = 12) (hs : s.length = 12) : w.there g 0 (ints s).toArray.size := by
  have := box_there hb
  rw [hc] at this
  simpa [ints, hs] using this
theorem store_st {w : World} {g : Nat} {t : TypeId} {cs : Array Value} {s : List Int} (hb : Box w g t cs) (hc : cs.size = 12) (hs : s.length = 12) :
    (Instr.storeAt 36 (.pointer (some ⟨g, 0, none⟩)) (.agg (ints s).toArray)).run Try.prog w = .ok () (w.setCells g 0 (ints s)) := by
  have := run_storeAt_mid (P := Try.prog) w g 0 36 (ints s).toArray (by have := box_there hb; rw [hc] at this; simpa [ints, hs] using this) (by rw [st_info]; simp [ints, hs]) (ints_one s)
  simpa using this
theorem read_st {w : World} {g : Nat} {t : TypeId} {cs : Array Value} {s : List Int} (hb : Box w g t cs) (hc : cs.size = 12) (hs : s.length = 12) :
    (loadVar 36 ⟨g, 0, none⟩).run Try.prog (w.setCells g 0 (ints s)) = .ok (.agg (ints s).toArray) (w.setCells g 0 (ints s)) :=
  run_loadVar_mid _ g 0 36 (ints s) _ (World.rangeAt_setCells_same w g 0 (ints s) (by have := box_there hb; rw [hc] at this; simpa [ints, hs] using this)) Try.underlying36 rfl (by rw [st_info]; simp [ints, hs])

theorem results_cell2 {P : Program} {fn : Func} {tmps : Array Value} {w : World} {a b : Tmp} {t : TypeId} {p : Addr} {v u : Value} (hf : fn.results = #[.cell a t, .tmp b]) (ha : tmps.getD a undef = .pointer (some p)) (hl : (loadVar t p).run P w = .ok v w) (hb : tmps.getD b undef = u) :
    (results fn tmps).run P w = .ok (.tuple #[v, u]) w := by
  rw [results_cell_tmp hf, ha, hb]
  simp only [asAddr, Sem.run_pure, Result.andThen_ok, hl]

theorem rowBad_ok : ∀ {r : List Do}, rowBad r = 0 → ∀ {i : Nat}, i < r.length → doBad (r.getD i (0, 0, 0)) = 0
  | x :: r, h, i, hi => by
    have h0 : doBad x = 0 := by
      by_cases hx : doBad x = 0
      · exact hx
      · have h' : (if doBad x = 0 then rowBad r else doBad x) = 0 := h
        rw [if_neg hx] at h'
        exact absurd h' hx
    have h1 : rowBad r = 0 := by
      have h' : (if doBad x = 0 then rowBad r else doBad x) = 0 := h
      rwa [if_pos h0] at h'
    match i, hi with
    | 0, _ => exact h0
    | i + 1, hi => exact rowBad_ok h1 (i := i) (by simpa using hi)
theorem doBad_ok {k c b : Int} (h : doBad (k, c, b) = 0) : (1 ≤ k ∧ k ≤ 4) ∧ (0 ≤ c ∧ c < 4) ∧ (-1000 ≤ b ∧ b ≤ 1000) := by
  unfold doBad at h
  dsimp only at h
  split at h
  · cases h
  · split at h
    · cases h
    · omega
/-- What an instruction does to the state. -/
def moveS (x : Do) (who : Nat) (s : List Int) : List Int :=
  if x.1 = 1 then s.set (4 + who) (s.getD x.2.1.toNat 0)
  else if x.1 = 2 then s.set x.2.1.toNat (wrap64 (s.getD (4 + who) 0 + x.2.2))
  else if x.1 = 3 then s.set x.2.1.toNat (wrap64 (s.getD x.2.1.toNat 0 + x.2.2)) else s
theorem moveS_two (c b : Int) (who : Nat) (s : List Int) : moveS (2, c, b) who s = s.set c.toNat (wrap64 (s.getD (4 + who) 0 + b)) := by simp [moveS]
theorem moveS_three (c b : Int) (who : Nat) (s : List Int) : moveS (3, c, b) who s = s.set c.toNat (wrap64 (s.getD c.toNat 0 + b)) := by simp [moveS]
theorem moveS_four (c b : Int) (who : Nat) (s : List Int) : moveS (4, c, b) who s = s := by simp [moveS]
/-- May it be done? -/
def canS (x : Do) (s : List Int) : Bool := decide (x.1 < 4) || decide (s.getD x.2.1.toNat 0 = x.2.2)

theorem canS_four (c b : Int) (s : List Int) : canS (4, c, b) s = decide (s.getD c.toNat 0 = b) := by simp [canS]
def nextS (row : List Do) (who : Nat) (s : List Int) (a : Nat) : List Int × Bool :=
  if a < row.length then (if canS (row.getD a (0, 0, 0)) s = true then ((moveS (row.getD a (0, 0, 0)) who s).set (8 + who) ((a : Int) + 1), true) else (s, false)) else (s, false)

set_option maxRecDepth 100000 in
set_option maxHeartbeats 4000000 in
theorem nextE (A : Option Addr) (c who a : Nat) (l : List (List Do)) (s : List Int) (W : World) (h : PIn W A c l) (hw : who < l.length) (hw4 : l.length ≤ 4) (hs : s.length = 12) (ha : s.getD (8 + who) 0 = a) (hal : a ≤ (l.getD who []).length) (hv : rowBad (l.getD who []) = 0) :
    Calls Try.prog 135 #[.slice A l.length c, .agg (ints s).toArray, .int .i64 who] W fun e w' => e = .returned (.tuple #[.agg (ints (nextS (l.getD who []) who s a).1).toArray, .bool (nextS (l.getD who []) who s a).2]) ∧ Below W.heap.size W w' := by
  have HP := Lib.hid h
  obtain ⟨r1, r2, hr⟩ : ∃ r1 r2, nextS (l.getD who []) who s a = (r1, r2) := ⟨_, _, rfl⟩
  rw [hr]
  have HRS := Lib.hid hr
  clear hr
  have hbb := (Box.new W 36 (ints s).toArray).alloc (.cells #[.int .i64 0, .int .i64 0, .int .i64 0, .int .i64 0, .int .i64 0, .int .i64 0, .int .i64 0, .int .i64 0, .int .i64 0, .int .i64 0, .int .i64 0, .int .i64 0] 36)
  have hbr := Box.new (W.alloc (.cells (ints s).toArray 36)) 36 #[.int .i64 0, .int .i64 0, .int .i64 0, .int .i64 0, .int .i64 0, .int .i64 0, .int .i64 0, .int .i64 0, .int .i64 0, .int .i64 0, .int .i64 0, .int .i64 0]
  have hb1 := ((Below.refl W.heap.size W).alloc (Nat.le_refl _) (.cells (ints s).toArray 36)).alloc (by simp) (.cells #[.int .i64 0, .int .i64 0, .int .i64 0, .int .i64 0, .int .i64 0, .int .i64 0, .int .i64 0, .int .i64 0, .int .i64 0, .int .i64 0, .int .i64 0, .int .i64 0] 36)
  rw [show (W.alloc (.cells (ints s).toArray 36)).heap.size = W.heap.size + 1 by simp] at hbr
  have HBB := Lib.hid hbb
  have HBR := Lib.hid hbr
  have HB1 := Lib.hid hb1
  clear hbb hbr hb1 h
  go_enter Try.func135, Try.ntmps135
  go_upto_region 1 with fail
  generalize (W.alloc (.cells (ints s).toArray 36)).alloc (.cells #[.int .i64 0, .int .i64 0, .int .i64 0, .int .i64 0, .int .i64 0, .int .i64 0, .int .i64 0, .int .i64 0, .int .i64 0, .int .i64 0, .int .i64 0, .int .i64 0] 36) = w1 at *
  obtain ⟨b, o, B, d, rfl, hbl, hcell, hrow, hd1, hd2, hd3⟩ := (HP.out.below HB1.out).each who hw
  have HROW := Lib.hid hrow
  have hca := box_at HBB.out (i := 8 + who) (by omega)
  rw [ha] at hca
  have hg2 : W.heap.size + 1 < w1.heap.size := HBR.out.lt
  obtain ⟨row, hrw⟩ : ∃ row, l.getD who [] = row := ⟨_, rfl⟩
  rw [hrw] at hcell HROW hd1 hal hv
  have HGR := Lib.hid hrw
  rw [hrw] at HRS
  have hm : row.length ≤ 9223372036854775807 := by unfold maxLen at hd2; omega
  have hw4' : who < 4 := by omega
  clear hrw hrow
  have hw4i : (who : Int) < 4 := by omega
  generalize hge : W.heap.size = g at *
  have HGE := Lib.hid hge
  clear hge
  by_cases hend : a = row.length
  · subst hend
    go_region
    have HRNG := Lib.hid (range_st HBB.out.drew)
    have HSI := Lib.hid (info_st hs)
    have HTH := Lib.hid (there_st (s := s) HBR.out.drew rfl hs)
    have HSI2 := Lib.hid (info_st2 hs)
    have HONE := Lib.hid (ints_one s)
    have hrd := read_st HBR.out.drew rfl hs
    have HB2 := Lib.hid (Below.setCells (g := g + 1) (by omega) (ints s) 0 w1.drew (below_drewN HB1.out 1))
    generalize hS : ints s = S at *
    have HSE := Lib.hid hS
    clear hS
    go_wp2_with (first | (guard_target =~ wpList _ _ _ ({ dst := some 19, op := _, type := _, pos := _, after := _, guard := _ } :: _) _ _; refine wpList_load_mid rfl 36 (.tmp 4) rfl g 0 rfl S _ HRNG.out Try.underlying36 rfl HSI.out ?_) | (guard_target =~ wpList _ _ _ ({ dst := none, op := _, type := _, pos := _, after := _, guard := _ } :: _) _ _; refine wpList_store_mid rfl 36 (.tmp 6) (.tmp 19) rfl (g + 1) 0 S.toArray rfl rfl HTH.out HSI2.out HONE.out ?_))
    refine bodyPost_ret (v := .tuple #[.agg S.toArray, .bool false]) (results_cell2 Try.results135 rfl hrd rfl) rfl ?_
    refine ⟨?_, by rw [HGE.out]; exact HB2.out⟩
    have e := HRS.out
    rw [nextS, if_neg (Nat.lt_irrefl _)] at e
    injection e with e1 e2
    rw [← e1, ← e2, HSE.out]
  have q1 : ((a : Int) == (row.length : Int)) = false := by simp; omega
  have q2 : (a == row.length) = false := by simpa using hend
  go_region
  obtain ⟨b2, o2, rfl, hb2, hc0, hc1, hc2⟩ := (Row.xd HROW.out (i := a) (by omega) (0, 0, 0))
  obtain ⟨y, hy⟩ : ∃ y, row.getD a (0, 0, 0) = y := ⟨_, rfl⟩
  rw [hy] at hc0 hc1 hc2
  have HY := Lib.hid hy
  clear hy
  obtain ⟨yk, yc, yb⟩ := y
  dsimp only at hc0 hc1 hc2
  have hal2 : a < row.length := by omega
  have hg1 : g < w1.heap.size := by omega
  go_upto_region 3 with fail
  go_region
  go_upto_region 4 with fail
  have hv2 := rowBad_ok hv hal2
  rw [HY.out] at hv2
  obtain ⟨⟨hk1, hk2⟩, ⟨hcl, hch⟩, _⟩ := doBad_ok hv2
  obtain ⟨n, rfl⟩ : ∃ n : Nat, yc = n := ⟨yc.toNat, by omega⟩
  have hbd := (Box.new w1 40 #[.int .i64 yk, .int .i64 n, .int .i64 yb]).drew.drew
  have hbb2 := (HBB.out.alloc (.cells #[.int .i64 yk, .int .i64 n, .int .i64 yb] 40)).drew.drew
  have hbr2 := (HBR.out.alloc (.cells #[.int .i64 yk, .int .i64 n, .int .i64 yb] 40)).drew.drew
  have hb2 := below_drewN (below_drewN (HB1.out.alloc (by omega) (.cells #[.int .i64 yk, .int .i64 n, .int .i64 yb] 40)) 1) 1
  clear hcell hc0 hc1 hc2 hca HROW hbl
  have HGD := Lib.hid (show g + 1 < w1.heap.size by omega)
  change Below g W (World.drew (World.drew _)) at hb2
  generalize hgd : w1.heap.size = gd at *
  generalize (w1.alloc (.cells #[.int .i64 yk, .int .i64 n, .int .i64 yb] 40)).drew.drew = w2 at *
  have e0 := hbd.cell 0
  have e1 := hbd.cell 1
  have e2 := hbd.cell 2
  simp only [List.getElem?_toArray, List.getElem?_cons_zero, List.getElem?_cons_succ] at e0 e1 e2
  have hn4 : n < 4 := by omega
  have hn4i : (n : Int) < 4 := by omega
  have hz := box_at hbb2 (i := n) (by omega)
  have hh := box_at hbb2 (i := 4 + who) (by omega)
  obtain ⟨z, hze⟩ : ∃ z, s.getD n 0 = z := ⟨_, rfl⟩
  obtain ⟨hn, hne⟩ : ∃ z, s.getD (4 + who) 0 = z := ⟨_, rfl⟩
  rw [hze] at hz
  rw [hne] at hh
  have HZE := Lib.hid hze
  have HNE := Lib.hid hne
  clear hze hne
  have f1 := hbb2.frozen n
  have f2 := hbb2.frozen (4 + who)
  have f3 := hbb2.frozen (8 + who)
  have HBB2 := Lib.hid hbb2
  have HBR2 := Lib.hid hbr2
  have HB2 := Lib.hid hb2
  clear hbb2 hbr2 hb2 hbd hgd HBB HBR HB1
  have HAL := Lib.hid hal2
  by_cases k1 : yk = 1
  · subst k1
    go_upto_region 14 with fail
    obtain ⟨s3, hs3e⟩ : ∃ s3, s.set (4 + who) z = s3 := ⟨_, rfl⟩
    have HS3 := Lib.hid hs3e
    have HA3 := Lib.hid (show s3.getD (8 + who) 0 = a by rw [← hs3e, ← ha, List.getD_eq_getElem?_getD, List.getElem?_set_ne (by omega), ← List.getD_eq_getElem?_getD])
    have HMV := Lib.hid (show moveS (1, (n : Int), yb) who s = s3 by rw [← hs3e]; unfold moveS; rw [if_pos rfl]; simp only [Int.toNat_natCast]; rw [HZE.out])
    have HCAN := Lib.hid (show canS (1, (n : Int), yb) s = true from rfl)
    have hbb3 := box_put HBB2.out (4 + who) z
    have hbr3 := HBR2.out.far (p := ⟨g, 4 + who, none⟩) (by simp) (.int .i64 z)
    have hb3 := HB2.out.setCell (p := ⟨g, 4 + who, none⟩) (Nat.le_refl _) (.int .i64 z)
    rw [hs3e] at hbb3
    clear hs3e hz hh f1 f2 f3
    generalize w2.setCell ⟨g, 4 + who, none⟩ (.int .i64 z) = w3 at *
    have hs3 : s3.length = 12 := by rw [← HS3.out]; simp [hs]
    have hca3 := box_at hbb3 (i := 8 + who) (by omega)
    rw [show s3.getD (8 + who) 0 = a from HA3.out] at hca3
    have f4 := hbb3.frozen (8 + who)
    have HBB4 := Lib.hid (box_put hbb3 (8 + who) ((a : Int) + 1))
    have HBR4 := Lib.hid (hbr3.far (p := ⟨g, 8 + who, none⟩) (by simp) (.int .i64 ((a : Int) + 1)))
    have HB4 := Lib.hid (hb3.setCell (p := ⟨g, 8 + who, none⟩) (Nat.le_refl _) (.int .i64 ((a : Int) + 1)))
    clear hbb3 hbr3 hb3
    go_upto_region 15 with fail
    generalize w3.setCell ⟨g, 8 + who, none⟩ (.int .i64 ((a : Int) + 1)) = w4 at *
    obtain ⟨s4, hs4⟩ : ∃ s4, s3.set (8 + who) ((a : Int) + 1) = s4 := ⟨_, rfl⟩
    have HS4 := Lib.hid hs4
    have hs4l : s4.length = 12 := by rw [← hs4]; simp [hs3]
    rw [hs4] at HBB4
    clear hs4
    have HRNG := Lib.hid (range_st HBB4.out)
    have HSI := Lib.hid (info_st hs4l)
    have HTH := Lib.hid (there_st (s := s4) HBR4.out rfl hs4l)
    have HSI2 := Lib.hid (info_st2 hs4l)
    have HONE := Lib.hid (ints_one s4)
    have hrd := read_st HBR4.out rfl hs4l
    have HB5 := Lib.hid (Below.setCells (g := g + 1) (by omega) (ints s4) 0 w4 HB4.out)
    generalize hS : ints s4 = S at *
    have HSE := Lib.hid hS
    clear hS
    go_wp2_with (first | (guard_target =~ wpList _ _ _ ({ dst := some 85, op := _, type := _, pos := _, after := _, guard := _ } :: _) _ _; refine wpList_load_mid rfl 36 (.tmp 4) rfl g 0 rfl S _ HRNG.out Try.underlying36 rfl HSI.out ?_) | (guard_target =~ wpList _ _ _ ({ dst := none, op := _, type := _, pos := _, after := _, guard := _ } :: _) _ _; refine wpList_store_mid rfl 36 (.tmp 6) (.tmp 85) rfl (g + 1) 0 S.toArray rfl rfl HTH.out HSI2.out HONE.out ?_))
    refine bodyPost_ret (v := .tuple #[.agg S.toArray, .bool true]) (results_cell2 Try.results135 rfl hrd rfl) rfl ?_
    refine ⟨?_, by rw [HGE.out]; exact HB5.out⟩
    have e := HRS.out
    rw [nextS, if_pos HAL.out, HY.out, if_pos HCAN.out, HMV.out, HS4.out] at e
    injection e with e1 e2
    rw [← e1, ← e2, HSE.out]
  by_cases k2 : yk = 2
  · subst k2
    go_upto_region 8 with fail
    go_region
    go_upto_region 14 with fail
    obtain ⟨s3, hs3e⟩ : ∃ s3, s.set n (wrap64 (hn + yb)) = s3 := ⟨_, rfl⟩
    have HS3 := Lib.hid hs3e
    have HA3 := Lib.hid (show s3.getD (8 + who) 0 = a by rw [← hs3e, ← ha, List.getD_eq_getElem?_getD, List.getElem?_set_ne (by omega), ← List.getD_eq_getElem?_getD])
    have HMV := Lib.hid (show moveS (2, (n : Int), yb) who s = s3 by rw [moveS_two, Int.toNat_natCast, HNE.out, hs3e])
    have HCAN := Lib.hid (show canS (2, (n : Int), yb) s = true from rfl)
    have hbb3 := (box_put HBB2.out n (wrap64 (hn + yb))).drew
    have hbr3 := (HBR2.out.far (p := ⟨g, n, none⟩) (by simp) (.int .i64 (wrap64 (hn + yb)))).drew
    have hb3 := below_drewN (HB2.out.setCell (p := ⟨g, n, none⟩) (Nat.le_refl _) (.int .i64 (wrap64 (hn + yb)))) 1
    change Below g W (World.drew _) at hb3
    rw [hs3e] at hbb3
    clear hs3e hz hh f1 f2 f3
    generalize (w2.setCell ⟨g, n, none⟩ (.int .i64 (wrap64 (hn + yb)))).drew = w3 at *
    have hs3 : s3.length = 12 := by rw [← HS3.out]; simp [hs]
    have hca3 := box_at hbb3 (i := 8 + who) (by omega)
    rw [show s3.getD (8 + who) 0 = a from HA3.out] at hca3
    have f4 := hbb3.frozen (8 + who)
    have HBB4 := Lib.hid (box_put hbb3 (8 + who) ((a : Int) + 1))
    have HBR4 := Lib.hid (hbr3.far (p := ⟨g, 8 + who, none⟩) (by simp) (.int .i64 ((a : Int) + 1)))
    have HB4 := Lib.hid (hb3.setCell (p := ⟨g, 8 + who, none⟩) (Nat.le_refl _) (.int .i64 ((a : Int) + 1)))
    clear hbb3 hbr3 hb3
    go_upto_region 15 with fail
    generalize w3.setCell ⟨g, 8 + who, none⟩ (.int .i64 ((a : Int) + 1)) = w4 at *
    obtain ⟨s4, hs4⟩ : ∃ s4, s3.set (8 + who) ((a : Int) + 1) = s4 := ⟨_, rfl⟩
    have HS4 := Lib.hid hs4
    have hs4l : s4.length = 12 := by rw [← hs4]; simp [hs3]
    rw [hs4] at HBB4
    clear hs4
    have HRNG := Lib.hid (range_st HBB4.out)
    have HSI := Lib.hid (info_st hs4l)
    have HTH := Lib.hid (there_st (s := s4) HBR4.out rfl hs4l)
    have HSI2 := Lib.hid (info_st2 hs4l)
    have HONE := Lib.hid (ints_one s4)
    have hrd := read_st HBR4.out rfl hs4l
    have HB5 := Lib.hid (Below.setCells (g := g + 1) (by omega) (ints s4) 0 w4 HB4.out)
    generalize hS : ints s4 = S at *
    have HSE := Lib.hid hS
    clear hS
    go_wp2_with (first | (guard_target =~ wpList _ _ _ ({ dst := some 85, op := _, type := _, pos := _, after := _, guard := _ } :: _) _ _; refine wpList_load_mid rfl 36 (.tmp 4) rfl g 0 rfl S _ HRNG.out Try.underlying36 rfl HSI.out ?_) | (guard_target =~ wpList _ _ _ ({ dst := none, op := _, type := _, pos := _, after := _, guard := _ } :: _) _ _; refine wpList_store_mid rfl 36 (.tmp 6) (.tmp 85) rfl (g + 1) 0 S.toArray rfl rfl HTH.out HSI2.out HONE.out ?_))
    refine bodyPost_ret (v := .tuple #[.agg S.toArray, .bool true]) (results_cell2 Try.results135 rfl hrd rfl) rfl ?_
    refine ⟨?_, by rw [HGE.out]; exact HB5.out⟩
    have e := HRS.out
    rw [nextS, if_pos HAL.out, HY.out, if_pos HCAN.out, HMV.out, HS4.out] at e
    injection e with e1 e2
    rw [← e1, ← e2, HSE.out]
  by_cases k3 : yk = 3
  · subst k3
    go_upto_region 10 with fail
    go_region
    go_upto_region 14 with fail
    obtain ⟨s3, hs3e⟩ : ∃ s3, s.set n (wrap64 (z + yb)) = s3 := ⟨_, rfl⟩
    have HS3 := Lib.hid hs3e
    have HA3 := Lib.hid (show s3.getD (8 + who) 0 = a by rw [← hs3e, ← ha, List.getD_eq_getElem?_getD, List.getElem?_set_ne (by omega), ← List.getD_eq_getElem?_getD])
    have HMV := Lib.hid (show moveS (3, (n : Int), yb) who s = s3 by rw [moveS_three, Int.toNat_natCast, HZE.out, hs3e])
    have HCAN := Lib.hid (show canS (3, (n : Int), yb) s = true from rfl)
    have hbb3 := (box_put HBB2.out n (wrap64 (z + yb))).drew
    have hbr3 := (HBR2.out.far (p := ⟨g, n, none⟩) (by simp) (.int .i64 (wrap64 (z + yb)))).drew
    have hb3 := below_drewN (HB2.out.setCell (p := ⟨g, n, none⟩) (Nat.le_refl _) (.int .i64 (wrap64 (z + yb)))) 1
    change Below g W (World.drew _) at hb3
    rw [hs3e] at hbb3
    clear hs3e hz hh f1 f2 f3
    generalize (w2.setCell ⟨g, n, none⟩ (.int .i64 (wrap64 (z + yb)))).drew = w3 at *
    have hs3 : s3.length = 12 := by rw [← HS3.out]; simp [hs]
    have hca3 := box_at hbb3 (i := 8 + who) (by omega)
    rw [show s3.getD (8 + who) 0 = a from HA3.out] at hca3
    have f4 := hbb3.frozen (8 + who)
    have HBB4 := Lib.hid (box_put hbb3 (8 + who) ((a : Int) + 1))
    have HBR4 := Lib.hid (hbr3.far (p := ⟨g, 8 + who, none⟩) (by simp) (.int .i64 ((a : Int) + 1)))
    have HB4 := Lib.hid (hb3.setCell (p := ⟨g, 8 + who, none⟩) (Nat.le_refl _) (.int .i64 ((a : Int) + 1)))
    clear hbb3 hbr3 hb3
    go_upto_region 15 with fail
    generalize w3.setCell ⟨g, 8 + who, none⟩ (.int .i64 ((a : Int) + 1)) = w4 at *
    obtain ⟨s4, hs4⟩ : ∃ s4, s3.set (8 + who) ((a : Int) + 1) = s4 := ⟨_, rfl⟩
    have HS4 := Lib.hid hs4
    have hs4l : s4.length = 12 := by rw [← hs4]; simp [hs3]
    rw [hs4] at HBB4
    clear hs4
    have HRNG := Lib.hid (range_st HBB4.out)
    have HSI := Lib.hid (info_st hs4l)
    have HTH := Lib.hid (there_st (s := s4) HBR4.out rfl hs4l)
    have HSI2 := Lib.hid (info_st2 hs4l)
    have HONE := Lib.hid (ints_one s4)
    have hrd := read_st HBR4.out rfl hs4l
    have HB5 := Lib.hid (Below.setCells (g := g + 1) (by omega) (ints s4) 0 w4 HB4.out)
    generalize hS : ints s4 = S at *
    have HSE := Lib.hid hS
    clear hS
    go_wp2_with (first | (guard_target =~ wpList _ _ _ ({ dst := some 85, op := _, type := _, pos := _, after := _, guard := _ } :: _) _ _; refine wpList_load_mid rfl 36 (.tmp 4) rfl g 0 rfl S _ HRNG.out Try.underlying36 rfl HSI.out ?_) | (guard_target =~ wpList _ _ _ ({ dst := none, op := _, type := _, pos := _, after := _, guard := _ } :: _) _ _; refine wpList_store_mid rfl 36 (.tmp 6) (.tmp 85) rfl (g + 1) 0 S.toArray rfl rfl HTH.out HSI2.out HONE.out ?_))
    refine bodyPost_ret (v := .tuple #[.agg S.toArray, .bool true]) (results_cell2 Try.results135 rfl hrd rfl) rfl ?_
    refine ⟨?_, by rw [HGE.out]; exact HB5.out⟩
    have e := HRS.out
    rw [nextS, if_pos HAL.out, HY.out, if_pos HCAN.out, HMV.out, HS4.out] at e
    injection e with e1 e2
    rw [← e1, ← e2, HSE.out]
  obtain rfl : yk = 4 := by omega
  by_cases hzb : z = yb
  · have qz : (z != yb) = false := by simp [hzb]
    go_upto_region 12 with fail
    go_region
    go_upto_region 14 with fail
    obtain ⟨s3, hs3e⟩ : ∃ s3, s = s3 := ⟨_, rfl⟩
    have HS3 := Lib.hid hs3e
    have HA3 := Lib.hid (show s3.getD (8 + who) 0 = a by rw [← hs3e, ← ha])
    have HMV := Lib.hid (show moveS (4, (n : Int), yb) who s = s3 by rw [moveS_four, hs3e])
    have HCAN := Lib.hid (show canS (4, (n : Int), yb) s = true by rw [canS_four, Int.toNat_natCast, HZE.out]; exact decide_eq_true hzb)
    have hbb3 := HBB2.out.drew
    have hbr3 := HBR2.out.drew
    have hb3 := below_drewN HB2.out 1
    change Below g W (World.drew _) at hb3
    rw [hs3e] at hbb3
    clear hs3e hz hh f1 f2 f3
    generalize w2.drew = w3 at *
    have hs3 : s3.length = 12 := by rw [← HS3.out]; simp [hs]
    have hca3 := box_at hbb3 (i := 8 + who) (by omega)
    rw [show s3.getD (8 + who) 0 = a from HA3.out] at hca3
    have f4 := hbb3.frozen (8 + who)
    have HBB4 := Lib.hid (box_put hbb3 (8 + who) ((a : Int) + 1))
    have HBR4 := Lib.hid (hbr3.far (p := ⟨g, 8 + who, none⟩) (by simp) (.int .i64 ((a : Int) + 1)))
    have HB4 := Lib.hid (hb3.setCell (p := ⟨g, 8 + who, none⟩) (Nat.le_refl _) (.int .i64 ((a : Int) + 1)))
    clear hbb3 hbr3 hb3
    go_upto_region 15 with fail
    generalize w3.setCell ⟨g, 8 + who, none⟩ (.int .i64 ((a : Int) + 1)) = w4 at *
    obtain ⟨s4, hs4⟩ : ∃ s4, s3.set (8 + who) ((a : Int) + 1) = s4 := ⟨_, rfl⟩
    have HS4 := Lib.hid hs4
    have hs4l : s4.length = 12 := by rw [← hs4]; simp [hs3]
    rw [hs4] at HBB4
    clear hs4
    have HRNG := Lib.hid (range_st HBB4.out)
    have HSI := Lib.hid (info_st hs4l)
    have HTH := Lib.hid (there_st (s := s4) HBR4.out rfl hs4l)
    have HSI2 := Lib.hid (info_st2 hs4l)
    have HONE := Lib.hid (ints_one s4)
    have hrd := read_st HBR4.out rfl hs4l
    have HB5 := Lib.hid (Below.setCells (g := g + 1) (by omega) (ints s4) 0 w4 HB4.out)
    generalize hS : ints s4 = S at *
    have HSE := Lib.hid hS
    clear hS
    go_wp2_with (first | (guard_target =~ wpList _ _ _ ({ dst := some 85, op := _, type := _, pos := _, after := _, guard := _ } :: _) _ _; refine wpList_load_mid rfl 36 (.tmp 4) rfl g 0 rfl S _ HRNG.out Try.underlying36 rfl HSI.out ?_) | (guard_target =~ wpList _ _ _ ({ dst := none, op := _, type := _, pos := _, after := _, guard := _ } :: _) _ _; refine wpList_store_mid rfl 36 (.tmp 6) (.tmp 85) rfl (g + 1) 0 S.toArray rfl rfl HTH.out HSI2.out HONE.out ?_))
    refine bodyPost_ret (v := .tuple #[.agg S.toArray, .bool true]) (results_cell2 Try.results135 rfl hrd rfl) rfl ?_
    refine ⟨?_, by rw [HGE.out]; exact HB5.out⟩
    have e := HRS.out
    rw [nextS, if_pos HAL.out, HY.out, if_pos HCAN.out, HMV.out, HS4.out] at e
    injection e with e1 e2
    rw [← e1, ← e2, HSE.out]
  · have qz : (z != yb) = true := by rw [bne_iff_ne]; exact hzb
    have HCAN := Lib.hid (show ¬ canS (4, (n : Int), yb) s = true by rw [canS_four, Int.toNat_natCast, HZE.out, decide_eq_false hzb]; decide)
    go_upto_region 12 with fail
    go_region
    go_upto_region 13 with fail
    have HRNG := Lib.hid (range_st HBB2.out.drew)
    have HSI := Lib.hid (info_st hs)
    have HTH := Lib.hid (there_st (s := s) HBR2.out.drew rfl hs)
    have HSI2 := Lib.hid (info_st2 hs)
    have HONE := Lib.hid (ints_one s)
    have hrd := read_st HBR2.out.drew rfl hs
    have HB5 := Lib.hid (Below.setCells (g := g + 1) (by omega) (ints s) 0 w2.drew (below_drewN HB2.out 1))
    generalize hS : ints s = S at *
    have HSE := Lib.hid hS
    clear hS hz hh
    go_wp2_with (first | (guard_target =~ wpList _ _ _ ({ dst := some 77, op := _, type := _, pos := _, after := _, guard := _ } :: _) _ _; refine wpList_load_mid rfl 36 (.tmp 4) rfl g 0 rfl S _ HRNG.out Try.underlying36 rfl HSI.out ?_) | (guard_target =~ wpList _ _ _ ({ dst := none, op := _, type := _, pos := _, after := _, guard := _ } :: _) _ _; refine wpList_store_mid rfl 36 (.tmp 6) (.tmp 77) rfl (g + 1) 0 S.toArray rfl rfl HTH.out HSI2.out HONE.out ?_))
    refine bodyPost_ret (v := .tuple #[.agg S.toArray, .bool false]) (results_cell2 Try.results135 rfl hrd rfl) rfl ?_
    refine ⟨?_, by rw [HGE.out]; exact HB5.out⟩
    have e := HRS.out
    rw [nextS, if_pos HAL.out, HY.out, if_neg HCAN.out] at e
    injection e with e1 e2
    rw [← e1, ← e2, HSE.out]
end Go.Proofs.Ytcmkkfpcdebfkaa
