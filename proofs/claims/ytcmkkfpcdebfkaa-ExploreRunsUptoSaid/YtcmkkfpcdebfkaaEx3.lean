/-
  May a program do its next step (roadref4.State.Can).
-/
import Derived.Test.YtcmkkfpcdebfkaaEx2
import Derived.BigQuiet
namespace Go.Proofs.Ytcmkkfpcdebfkaa
open Go.RowKit

set_option maxRecDepth 100000 in
set_option maxHeartbeats 4000000 in
theorem canR (A : Option Addr) (c who a : Nat) (l : List (List Do)) (s : List Int) (W : World) (h : PIn W A c l) (hw : who < l.length) (hw4 : l.length ≤ 4) (hs : s.length = 12) (ha : s.getD (8 + who) 0 = a) (hal : a ≤ (l.getD who []).length) (hv : rowBad (l.getD who []) = 0) :
    Calls Try.prog 24 #[.agg (ints s).toArray, .slice A l.length c, .int .i64 who] W fun e w' => e = .returned (.bool (nextS (l.getD who []) who s a).2) ∧ Below W.heap.size W w' := by
  have HP := Lib.hid h
  obtain ⟨r2, hr⟩ : ∃ r2, (nextS (l.getD who []) who s a).2 = r2 := ⟨_, rfl⟩
  rw [hr]
  have HRS := Lib.hid hr
  clear hr
  have HBB := Lib.hid (Box.new W 49 (ints s).toArray)
  have HB1 := Lib.hid ((Below.refl W.heap.size W).alloc (Nat.le_refl _) (.cells (ints s).toArray 49))
  clear h
  go_enter Try.func24, Try.ntmps24
  go_upto_region 1 with fail
  generalize W.alloc (.cells (ints s).toArray 49) = w1 at *
  obtain ⟨b, o, B, d, rfl, hbl, hcell, hrow, hd1, hd2, hd3⟩ := (HP.out.below HB1.out).each who hw
  have HROW := Lib.hid hrow
  have hca := box_at HBB.out (i := 8 + who) (by omega)
  rw [ha] at hca
  have hg1 : W.heap.size < w1.heap.size := HBB.out.lt
  obtain ⟨row, hrw⟩ : ∃ row, l.getD who [] = row := ⟨_, rfl⟩
  rw [hrw] at hcell HROW hd1 hal hv
  have HGR := Lib.hid hrw
  rw [hrw] at HRS
  have hm : row.length ≤ 9223372036854775807 := by unfold maxLen at hd2; omega
  have hw4' : who < 4 := by omega
  clear hrw hrow
  have hw4i : (who : Int) < 4 := by omega
  generalize hge : W.heap.size = g at *
  have HGE := Lib.hid hge
  clear hge
  by_cases hend : a = row.length
  · have q1 : decide ((row.length : Int) ≤ (a : Int)) = true := decide_eq_true (by omega)
    have q2 : decide (row.length ≤ a) = true := decide_eq_true (by omega)
    have HE := Lib.hid (show r2 = false by rw [← HRS.out, nextS, if_neg (by omega)])
    clear hend
    go_region
    go_wp2_with fail
    go_ret
    exact ⟨by rw [HE.out]; rfl, by rw [HGE.out]; exact below_drewN HB1.out 1⟩
  have hal2 : a < row.length := by omega
  have q1 : decide ((row.length : Int) ≤ (a : Int)) = false := decide_eq_false (by omega)
  have q2 : decide (row.length ≤ a) = false := decide_eq_false (by omega)
  go_region
  obtain ⟨b2, o2, rfl, hb2, hc0, hc1, hc2⟩ := (Row.xd HROW.out (i := a) (by omega) (0, 0, 0))
  obtain ⟨y, hy⟩ : ∃ y, row.getD a (0, 0, 0) = y := ⟨_, rfl⟩
  rw [hy] at hc0 hc1 hc2
  have hv2 := rowBad_ok hv hal2
  rw [hy] at hv2
  have HY := Lib.hid hy
  clear hy
  obtain ⟨yk, yc, yb⟩ := y
  dsimp only at hc0 hc1 hc2
  go_upto_region 3 with fail
  go_region
  go_upto_region 4 with fail
  obtain ⟨⟨hk1, hk2⟩, ⟨hcl, hch⟩, _⟩ := doBad_ok hv2
  obtain ⟨n, rfl⟩ : ∃ n : Nat, yc = n := ⟨yc.toNat, by omega⟩
  have hbd := (Box.new w1 57 #[.int .i64 yk, .int .i64 n, .int .i64 yb]).drew.drew
  have hbb2 := (HBB.out.alloc (.cells #[.int .i64 yk, .int .i64 n, .int .i64 yb] 57)).drew.drew
  have hb2 := below_drewN (below_drewN (HB1.out.alloc (by omega) (.cells #[.int .i64 yk, .int .i64 n, .int .i64 yb] 57)) 1) 1
  clear hcell hc0 hc1 hc2 hca HROW hbl
  change Below g W (World.drew (World.drew _)) at hb2
  generalize hgd : w1.heap.size = gd at *
  generalize (w1.alloc (.cells #[.int .i64 yk, .int .i64 n, .int .i64 yb] 57)).drew.drew = w2 at *
  have e0 := hbd.cell 0
  have e1 := hbd.cell 1
  have e2 := hbd.cell 2
  simp only [List.getElem?_toArray, List.getElem?_cons_zero, List.getElem?_cons_succ] at e0 e1 e2
  have hn4 : n < 4 := by omega
  have hn4i : (n : Int) < 4 := by omega
  have hz := box_at hbb2 (i := n) (by omega)
  obtain ⟨z, hze⟩ : ∃ z, s.getD n 0 = z := ⟨_, rfl⟩
  rw [hze] at hz
  have HZE := Lib.hid hze
  have HB2 := Lib.hid hb2
  clear hze hbb2 hb2 hbd hgd HBB HB1
  have HE := Lib.hid (show canS (yk, (n : Int), yb) s = r2 by
    have e := HRS.out
    rw [nextS, if_pos hal2, HY.out] at e
    rw [← e]
    cases canS (yk, (n : Int), yb) s <;> rfl)
  by_cases k4 : yk < 4
  · have d1 : decide (yk < 4) = true := decide_eq_true k4
    have HF := Lib.hid (show r2 = true by rw [← HE.out, canS, d1, Bool.true_or])
    go_quiet (fail)
    go_wp2_with fail
    go_ret
    exact ⟨by rw [HF.out]; rfl, by rw [HGE.out]; exact below_drewN HB2.out _⟩
  · obtain rfl : yk = 4 := by omega
    have HF := Lib.hid (show r2 = decide (z = yb) by rw [← HE.out, canS_four, Int.toNat_natCast, HZE.out])
    by_cases hzb : z = yb
    · have qz : (z == yb) = true := by simp [hzb]
      go_quiet (fail)
      go_wp2_with fail
      go_ret
      exact ⟨by rw [HF.out, decide_eq_true hzb]; rfl, by rw [HGE.out]; exact below_drewN HB2.out _⟩
    · have qz : (z == yb) = false := by simpa using hzb
      go_quiet (fail)
      go_wp2_with fail
      go_ret
      exact ⟨by rw [HF.out, decide_eq_false hzb]; rfl, by rw [HGE.out]; exact below_drewN HB2.out _⟩
end Go.Proofs.Ytcmkkfpcdebfkaa
