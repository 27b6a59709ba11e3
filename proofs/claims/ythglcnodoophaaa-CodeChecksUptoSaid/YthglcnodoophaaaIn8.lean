
/-
  The reference's Next.
-/
import Derived.Test.YthglcnodoophaaaIn7
namespace Go.Proofs.Ythglcnodoophaaa
open Go.RowKit

theorem ends_else {op : Int} (h15 : op ≠ 15) (h17 : op ≠ 17) (h18 : op ≠ 18) (h25 : op ≠ 25) : (shapeF op).ends = false := by
  unfold shapeF
  simp only [List.mem_cons, List.not_mem_nil, or_false, h15, h17, h18, h25, if_false]
  repeat' split
  all_goals rfl
theorem own_lit1 {w w1 : World} (h : w.heap.size ≤ w1.heap.size) (b : Int) : OwnAt (w1.alloc (.cells #[.int .i64 b] 3)) w.heap.size 3 1 (some ⟨w1.heap.size, 0, none⟩) 1 1 (ints [b]) := by
  have ho := World.ownsRow_lit (base := w.heap.size) (e := 3) (size := 1) w1 #[.int .i64 b] 1 h (by unfold maxLen; decide) rfl
  obtain ⟨A', c', hv, hq⟩ := OwnAt.of_own ho
  injection hv with e1 e2 e3
  subst e1 e3
  exact hq
theorem isRow_lit1 {w w1 : World} (h : Below w.heap.size w w1) (zs : List Int) (hz : zs.length ≤ 1000 := by simp) : IsRow w zs (.returned (.slice (some ⟨w1.heap.size, 0, none⟩) zs.length zs.length)) (w1.alloc (.cells (ints zs).toArray 3)) :=
  ⟨_, _, rfl, own_new w w1 h.size zs hz, h.alloc h.size _⟩

set_option maxRecDepth 100000 in
set_option maxHeartbeats 4000000 in
theorem rnext_any (x : InC) (t : Int) (B : Nat) (w : World) (hok : InOk w B x) (ht0 : 0 ≤ t) (ht1 : t ≤ 1099511627776) : Calls Try.prog 13 #[inV x, .int .i64 t] w (IsRow w (nextT x t)) := by
  obtain ⟨i1, hi1, hy0, hy1, hy2⟩ := int_partsI
  obtain ⟨X, hX⟩ : ∃ X, Hid (X = x) := ⟨_, rfl⟩
  have HLA : Hid (X.args.length ≤ 1048576) := by show _ ≤ _; rw [hX.out]; exact hok.len
  obtain ⟨op, a, b, c, A, cap, args⟩ := x
  unfold inV
  simp only
  by_cases h3 : op = 3
  · subst h3
    rw [show nextT ⟨3, a, b, c, A, cap, args⟩ t = [a] by simp [nextT]]
    clear hok
    go_enter Try.func13, Try.ntmps13
    go_wp2_with fail
    go_ret
    exact isRow_lit w (.cells #[.int .i64 3, .int .i64 a, .int .i64 b, .int .i64 c, .slice A args.length cap] 33) [a]
  have e3 : (op == 3) = false := by simp [h3]
  by_cases h4 : op = 4
  · subst h4
    rw [show nextT ⟨4, a, b, c, A, cap, args⟩ t = [t + 1, b] by simp [nextT]]
    clear hok
    go_enter Try.func13, Try.ntmps13
    go_wp2_with fail
    go_ret
    exact isRow_lit w (.cells #[.int .i64 4, .int .i64 a, .int .i64 b, .int .i64 c, .slice A args.length cap] 33) [t + 1, b]
  have e4 : (op == 4) = false := by simp [h4]
  by_cases h27 : op = 27
  · subst h27
    rw [show nextT ⟨27, a, b, c, A, cap, args⟩ t = [t + 1, c] by simp [nextT]]
    clear hok
    go_enter Try.func13, Try.ntmps13
    go_wp2_with fail
    go_ret
    exact isRow_lit w (.cells #[.int .i64 27, .int .i64 a, .int .i64 b, .int .i64 c, .slice A args.length cap] 33) [t + 1, c]
  have e27 : (op == 27) = false := by simp [h27]
  by_cases h15 : op = 15
  · subst h15
    rw [show nextT ⟨15, a, b, c, A, cap, args⟩ t = [] by simp [nextT]]
    clear hok
    have HS := Lib.hid (shapes_any 15 (w.alloc (.cells #[.int .i64 15, .int .i64 a, .int .i64 b, .int .i64 c, .slice A args.length cap] 33)))
    rw [shape_15] at HS
    have HB := Lib.hid ((Below.refl w.heap.size w).alloc (Nat.le_refl _) (.cells #[.int .i64 15, .int .i64 a, .int .i64 b, .int .i64 c, .slice A args.length cap] 33))
    have HBX := Lib.hid (Box.new w 33 #[.int .i64 15, .int .i64 a, .int .i64 b, .int .i64 c, .slice A args.length cap])
    have HSZ : Hid (w.heap.size < (w.alloc (.cells #[.int .i64 15, .int .i64 a, .int .i64 b, .int .i64 c, .slice A args.length cap] 33)).heap.size) := by show _ < _; simp
    go_enter Try.func13, Try.ntmps13
    go_wp2_with fail
    refine HS.out.mono ?_
    rintro e w1 ⟨rfl, hb⟩
    have HB1 := Lib.hid (HB.out.trans (hb.mono HB.out.size))
    have HLT1 : Hid (w.heap.size < w1.heap.size) := Nat.lt_of_lt_of_le HSZ.out hb.size
    have hbx := HBX.out.below hb HSZ.out
    have HBX1 := Lib.hid hbx
    have n0 : w1.cell? ⟨w.heap.size, 0, none⟩ = some (.int .i64 15) := hbx.cell 0
    have n1 : w1.cell? ⟨w.heap.size, 1, none⟩ = some (.int .i64 a) := hbx.cell 1
    have n2 : w1.cell? ⟨w.heap.size, 2, none⟩ = some (.int .i64 b) := hbx.cell 2
    have n3 : w1.cell? ⟨w.heap.size, 3, none⟩ = some (.int .i64 c) := hbx.cell 3
    have n4 : w1.cell? ⟨w.heap.size, 4, none⟩ = some (.slice A args.length cap) := hbx.cell 4
    have hf2 := field2 ⟨#[42]⟩ false true w1
    clear hb hbx
    go_wp2_with fail
    go_ret
    exact isRow_nil HB1.out
  have e15 : (op == 15) = false := by simp [h15]
  by_cases h17 : op = 17
  · subst h17
    rw [show nextT ⟨17, a, b, c, A, cap, args⟩ t = [] by simp [nextT]]
    clear hok
    have HS := Lib.hid (shapes_any 17 (w.alloc (.cells #[.int .i64 17, .int .i64 a, .int .i64 b, .int .i64 c, .slice A args.length cap] 33)))
    rw [shape_17] at HS
    have HB := Lib.hid ((Below.refl w.heap.size w).alloc (Nat.le_refl _) (.cells #[.int .i64 17, .int .i64 a, .int .i64 b, .int .i64 c, .slice A args.length cap] 33))
    have HBX := Lib.hid (Box.new w 33 #[.int .i64 17, .int .i64 a, .int .i64 b, .int .i64 c, .slice A args.length cap])
    have HSZ : Hid (w.heap.size < (w.alloc (.cells #[.int .i64 17, .int .i64 a, .int .i64 b, .int .i64 c, .slice A args.length cap] 33)).heap.size) := by show _ < _; simp
    go_enter Try.func13, Try.ntmps13
    go_wp2_with fail
    refine HS.out.mono ?_
    rintro e w1 ⟨rfl, hb⟩
    have HB1 := Lib.hid (HB.out.trans (hb.mono HB.out.size))
    have HLT1 : Hid (w.heap.size < w1.heap.size) := Nat.lt_of_lt_of_le HSZ.out hb.size
    have hbx := HBX.out.below hb HSZ.out
    have HBX1 := Lib.hid hbx
    have n0 : w1.cell? ⟨w.heap.size, 0, none⟩ = some (.int .i64 17) := hbx.cell 0
    have n1 : w1.cell? ⟨w.heap.size, 1, none⟩ = some (.int .i64 a) := hbx.cell 1
    have n2 : w1.cell? ⟨w.heap.size, 2, none⟩ = some (.int .i64 b) := hbx.cell 2
    have n3 : w1.cell? ⟨w.heap.size, 3, none⟩ = some (.int .i64 c) := hbx.cell 3
    have n4 : w1.cell? ⟨w.heap.size, 4, none⟩ = some (.slice A args.length cap) := hbx.cell 4
    have hf2 := field2 ⟨#[]⟩ false true w1
    clear hb hbx
    go_wp2_with fail
    go_ret
    exact isRow_nil HB1.out
  have e17 : (op == 17) = false := by simp [h17]
  by_cases h18 : op = 18
  · subst h18
    rw [show nextT ⟨18, a, b, c, A, cap, args⟩ t = [] by simp [nextT]]
    clear hok
    have HS := Lib.hid (shapes_any 18 (w.alloc (.cells #[.int .i64 18, .int .i64 a, .int .i64 b, .int .i64 c, .slice A args.length cap] 33)))
    rw [shape_18] at HS
    have HB := Lib.hid ((Below.refl w.heap.size w).alloc (Nat.le_refl _) (.cells #[.int .i64 18, .int .i64 a, .int .i64 b, .int .i64 c, .slice A args.length cap] 33))
    have HBX := Lib.hid (Box.new w 33 #[.int .i64 18, .int .i64 a, .int .i64 b, .int .i64 c, .slice A args.length cap])
    have HSZ : Hid (w.heap.size < (w.alloc (.cells #[.int .i64 18, .int .i64 a, .int .i64 b, .int .i64 c, .slice A args.length cap] 33)).heap.size) := by show _ < _; simp
    go_enter Try.func13, Try.ntmps13
    go_wp2_with fail
    refine HS.out.mono ?_
    rintro e w1 ⟨rfl, hb⟩
    have HB1 := Lib.hid (HB.out.trans (hb.mono HB.out.size))
    have HLT1 : Hid (w.heap.size < w1.heap.size) := Nat.lt_of_lt_of_le HSZ.out hb.size
    have hbx := HBX.out.below hb HSZ.out
    have HBX1 := Lib.hid hbx
    have n0 : w1.cell? ⟨w.heap.size, 0, none⟩ = some (.int .i64 18) := hbx.cell 0
    have n1 : w1.cell? ⟨w.heap.size, 1, none⟩ = some (.int .i64 a) := hbx.cell 1
    have n2 : w1.cell? ⟨w.heap.size, 2, none⟩ = some (.int .i64 b) := hbx.cell 2
    have n3 : w1.cell? ⟨w.heap.size, 3, none⟩ = some (.int .i64 c) := hbx.cell 3
    have n4 : w1.cell? ⟨w.heap.size, 4, none⟩ = some (.slice A args.length cap) := hbx.cell 4
    have hf2 := field2 ⟨#[97]⟩ false true w1
    clear hb hbx
    go_wp2_with fail
    go_ret
    exact isRow_nil HB1.out
  have e18 : (op == 18) = false := by simp [h18]
  by_cases h25 : op = 25
  · subst h25
    rw [show nextT ⟨25, a, b, c, A, cap, args⟩ t = [] by simp [nextT]]
    clear hok
    have HS := Lib.hid (shapes_any 25 (w.alloc (.cells #[.int .i64 25, .int .i64 a, .int .i64 b, .int .i64 c, .slice A args.length cap] 33)))
    rw [shape_25] at HS
    have HB := Lib.hid ((Below.refl w.heap.size w).alloc (Nat.le_refl _) (.cells #[.int .i64 25, .int .i64 a, .int .i64 b, .int .i64 c, .slice A args.length cap] 33))
    have HBX := Lib.hid (Box.new w 33 #[.int .i64 25, .int .i64 a, .int .i64 b, .int .i64 c, .slice A args.length cap])
    have HSZ : Hid (w.heap.size < (w.alloc (.cells #[.int .i64 25, .int .i64 a, .int .i64 b, .int .i64 c, .slice A args.length cap] 33)).heap.size) := by show _ < _; simp
    go_enter Try.func13, Try.ntmps13
    go_wp2_with fail
    refine HS.out.mono ?_
    rintro e w1 ⟨rfl, hb⟩
    have HB1 := Lib.hid (HB.out.trans (hb.mono HB.out.size))
    have HLT1 : Hid (w.heap.size < w1.heap.size) := Nat.lt_of_lt_of_le HSZ.out hb.size
    have hbx := HBX.out.below hb HSZ.out
    have HBX1 := Lib.hid hbx
    have n0 : w1.cell? ⟨w.heap.size, 0, none⟩ = some (.int .i64 25) := hbx.cell 0
    have n1 : w1.cell? ⟨w.heap.size, 1, none⟩ = some (.int .i64 a) := hbx.cell 1
    have n2 : w1.cell? ⟨w.heap.size, 2, none⟩ = some (.int .i64 b) := hbx.cell 2
    have n3 : w1.cell? ⟨w.heap.size, 3, none⟩ = some (.int .i64 c) := hbx.cell 3
    have n4 : w1.cell? ⟨w.heap.size, 4, none⟩ = some (.slice A args.length cap) := hbx.cell 4
    have hf2 := field2 ⟨#[97]⟩ false true w1
    clear hb hbx
    go_wp2_with fail
    go_ret
    exact isRow_nil HB1.out
  have e25 : (op == 25) = false := by simp [h25]
  by_cases h11 : op = 11
  · subst h11
    rw [show nextT ⟨11, a, b, c, A, cap, args⟩ t = [] ++ pcs (armsT X) by rw [hX.out]; simp [nextT]]

    have HA := Lib.hid (fun w1 (hw : InOk w1 B ⟨11, a, b, c, A, cap, args⟩) => rarms_any ⟨11, a, b, c, A, cap, args⟩ B w1 hw)
    rw [show armsT ⟨11, a, b, c, A, cap, args⟩ = armsT X by rw [hX.out]] at HA
    have HOKW := Lib.hid hok
    have hsm := armsT_small X HLA.out
    obtain ⟨vs, hvs⟩ : ∃ vs, Hid (armsT X = vs) := ⟨_, rfl⟩
    rw [hvs.out] at HA hsm ⊢
    have HPR : Hid (([] : List Int).length + vs.length ≤ 1048577) := by show _ ≤ _; have := hsm.1; simp; omega
    unfold inV at HA
    simp only at HA
    clear hok hsm
    have HS := Lib.hid (shapes_any 11 (w.alloc (.cells #[.int .i64 11, .int .i64 a, .int .i64 b, .int .i64 c, .slice A args.length cap] 33)))
    rw [shape_11] at HS
    have HB := Lib.hid ((Below.refl w.heap.size w).alloc (Nat.le_refl _) (.cells #[.int .i64 11, .int .i64 a, .int .i64 b, .int .i64 c, .slice A args.length cap] 33))
    have HBX := Lib.hid (Box.new w 33 #[.int .i64 11, .int .i64 a, .int .i64 b, .int .i64 c, .slice A args.length cap])
    have HSZ : Hid (w.heap.size < (w.alloc (.cells #[.int .i64 11, .int .i64 a, .int .i64 b, .int .i64 c, .slice A args.length cap] 33)).heap.size) := by show _ < _; simp
    go_enter Try.func13, Try.ntmps13
    go_wp2_with fail
    refine HS.out.mono ?_
    rintro e w1 ⟨rfl, hb⟩
    have HB1 := Lib.hid (HB.out.trans (hb.mono HB.out.size))
    have HLT1 : Hid (w.heap.size < w1.heap.size) := Nat.lt_of_lt_of_le HSZ.out hb.size
    have hbx := HBX.out.below hb HSZ.out
    have HBX1 := Lib.hid hbx
    have n0 : w1.cell? ⟨w.heap.size, 0, none⟩ = some (.int .i64 11) := hbx.cell 0
    have n1 : w1.cell? ⟨w.heap.size, 1, none⟩ = some (.int .i64 a) := hbx.cell 1
    have n2 : w1.cell? ⟨w.heap.size, 2, none⟩ = some (.int .i64 b) := hbx.cell 2
    have n3 : w1.cell? ⟨w.heap.size, 3, none⟩ = some (.int .i64 c) := hbx.cell 3
    have n4 : w1.cell? ⟨w.heap.size, 4, none⟩ = some (.slice A args.length cap) := hbx.cell 4
    have hf2 := field2 ⟨#[97]⟩ false false w1
    clear hb hbx
    have HB0 := HB1
    have HOUT := Lib.hid (OwnAt.nil (w := w1) (base := w.heap.size) (e := 3) (size := 1))
    have HOB : Hid (∀ b', (none : Option Addr).map (·.block) = some b' → b' < w1.heap.size) := fun b' h => by cases h
    go_wp2_with fail
    refine (HA.out _ (HOKW.out.below HB1.out)).mono ?_

    rintro e w2 ⟨v2, rfl, A1, c1, l, rfl, ha, hb2, hblk, -⟩
    have HB1 := Lib.hid (HB0.out.trans (hb2.mono HB0.out.size))
    have HO1 := Lib.hid (HOUT.out.below hb2)
    have HR1 := Lib.hid (rowS_of ha.2.1 (fun b hb => (fun e => by have h1 := hblk b hb; have h2 := HOB.out b e; omega)) (A2 := none) )
    have HPC := Lib.hid (fun k (hk : k < l.length) => (ha.2.2 k hk).1)
    have HLL := Lib.hid ha.1
    clear ha hb2 hblk

    go_wp2_with fail
    go_loopg [71, 5] vs.length (fun gk i q wr => ∃ (k : Nat) (A2 : Option Addr) (c2 : Nat), gk = vs.length - k ∧ k ≤ vs.length ∧ i = .int .i64 k ∧ q = .slice A2 (([] : List Int).length + k) c2 ∧ OwnAt wr w.heap.size 3 1 A2 (([] : List Int).length + k) c2 (ints (([] : List Int) ++ pcs (vs.take k))) ∧ Below w.heap.size w wr ∧ RowS wr (fun b => A2.map (·.block) ≠ some b) A1 (flat arC l))
    case atStart => exact ⟨0, _, _, rfl, Nat.zero_le _, rfl, rfl, by simpa [pcs, ints] using HO1.out, HB1.out, HR1.out⟩
    case round =>
      obtain ⟨k, A2, c2, hgk, hk, rfl, rfl, ho2, hb2, hr2⟩ := hrel
      have HK := Lib.hid hgk
      clear hgk
      by_cases hlt : k < vs.length
      · have hkl : k < l.length := by have := HLL.out; omega
        have hkb : k ≤ 1048577 := by have := HPR.out; simp at this; omega
        obtain ⟨bb, oo, rfl, hbl, z0, z1⟩ := Row.ar hr2.all hkl arc0
        have hpc := HPC.out k hkl
        have HTK := Lib.hid (pcs_take [] vs hlt)
        generalize l.getD k arc0 = y at *
        generalize (vs.getD k arv0).1 = pc at *
        obtain ⟨ypc, yA, yl, yc⟩ := y
        simp only at hpc z0 z1
        subst hpc
        have hbA : Below wr.heap.size wr ((wr.alloc (.cells #[.int .i64 ypc, .slice yA yl yc] 60)).alloc (.cells #[.int .i64 ypc] 3)) := ((Below.refl _ _).alloc (Nat.le_refl _) _).alloc (by simp) _
        have HOW := Lib.hid (ho2.below hbA)
        have HRW := Lib.hid (rowS_below hr2 hbA)
        have HBW := Lib.hid (hb2.trans (hbA.mono hb2.size))
        have HLT : Hid (((wr.alloc (.cells #[.int .i64 ypc, .slice yA yl yc] 60)).alloc (.cells #[.int .i64 ypc] 3)).cell? ⟨wr.heap.size + 1, 0, none⟩ = some (.int .i64 ypc)) := by
          have h := (Box.new (wr.alloc (.cells #[.int .i64 ypc, .slice yA yl yc] 60)) 3 #[.int .i64 ypc]).cell 0
          rw [show (wr.alloc (.cells #[.int .i64 ypc, .slice yA yl yc] 60)).heap.size = wr.heap.size + 1 by simp] at h
          exact h
        have HM1 : Hid (([] : List Int).length + k + 1 ≤ maxLen) := by show _ ≤ _; have := HPR.out; unfold maxLen; omega
        have HM2 : Hid ((([] : List Int).length + k + 1) * 8 ≤ 140737488355328) := by show _ ≤ _; have := HPR.out; omega
        have HMS : Hid (vs.length - (k + 1) < gk) := by have := HK.out; show _ < _; omega
        have HBS := Lib.hid hb2.size
        have HAB : Hid (∀ kk, A2.map (·.block) = some kk → w.heap.size ≤ kk) := fun kk hkk => by
          rcases ho2.form with ⟨rfl, _⟩ | ⟨g1, o1, rfl⟩
          · cases hkk
          · simp at hkk; subst hkk; exact ho2.lt.1
        clear ho2 hb2 hr2 hbA
        go_wp2_with (at_builtin; refine wpList_append_q rfl (.tmp 75) (.tmp 78) 23 rfl w.heap.size 3 i1 (.int .i64 0) 1 8 Try.underlying23 hi1 hy0 hy1 hy2 rfl (by decide) A2 (([] : List Int).length + k) c2 (ints (([] : List Int) ++ pcs (vs.take k))) rfl HOW.out ⟨wr.heap.size + 1, 0, none⟩ 1 1 (ints [ypc]) rfl rfl (lit_intC HLT.out) (ints_oneI _) HM1.out HM2.out HBW.out.size (by decide) ?_; intro g9 o9 d9 w9 j1 j2 j3; have H9 := Lib.hid (And.intro j1 (And.intro (HBW.out.grown j2 HBW.out.size HAB.out) (rowS_grown (o := o9) HRW.out j2 j3))); clear j1 j2 j3)
        go_roundg (vs.length - (k + 1))
        case measure => exact HMS.out
        case rel => exact ⟨k + 1, some ⟨g9, o9, none⟩, d9, rfl, hlt, by go_num, by first | rfl | (simp; done) | (simp; omega), by have := H9.out.1; rw [← Nat.add_assoc, ← HTK.out]; simpa [ints] using this, H9.out.2.1, H9.out.2.2⟩
      · obtain rfl : k = vs.length := by omega
        rw [List.take_length] at ho2
        have hnl : decide (vs.length < l.length) = false := by have := HLL.out; simp; omega
        have hnl' : decide ((vs.length : Int) < (l.length : Int)) = false := by have := HLL.out; simp; omega
        have hle : (([] : List Int) ++ pcs vs).length = ([] : List Int).length + vs.length := by simp [pcs, Nat.add_comm]
        clear HK
        go_wp2_with fail
        go_ret
        rw [← hle]
        exact ⟨_, _, rfl, by rw [← hle] at ho2; exact ho2, hb2⟩
  have e11 : (op == 11) = false := by simp [h11]
  by_cases h16 : op = 16
  case neg =>
    have e16 : (op == 16) = false := by simp [h16]
    rw [show nextT ⟨op, a, b, c, A, cap, args⟩ t = [t + 1] by simp [nextT, h3, h4, h27, h15, h17, h18, h25, h11, h16]]
    have hse := ends_else h15 h17 h18 h25
    clear hok hX h3 h4 h27 h15 h17 h18 h25 h11 h16
    have HS := Lib.hid (shapes_any op (w.alloc (.cells #[.int .i64 op, .int .i64 a, .int .i64 b, .int .i64 c, .slice A args.length cap] 33)))
    generalize shapeF op = s at *
    obtain ⟨st, sw, se⟩ := s
    simp only at HS hse
    subst hse
    have HB := Lib.hid ((Below.refl w.heap.size w).alloc (Nat.le_refl _) (.cells #[.int .i64 op, .int .i64 a, .int .i64 b, .int .i64 c, .slice A args.length cap] 33))
    have HBX := Lib.hid (Box.new w 33 #[.int .i64 op, .int .i64 a, .int .i64 b, .int .i64 c, .slice A args.length cap])
    have HSZ : Hid (w.heap.size < (w.alloc (.cells #[.int .i64 op, .int .i64 a, .int .i64 b, .int .i64 c, .slice A args.length cap] 33)).heap.size) := by show _ < _; simp
    go_enter Try.func13, Try.ntmps13
    go_wp2_with fail
    refine HS.out.mono ?_
    rintro e w1 ⟨rfl, hb⟩
    have HB1 := Lib.hid (HB.out.trans (hb.mono HB.out.size))
    have HLT1 : Hid (w.heap.size < w1.heap.size) := Nat.lt_of_lt_of_le HSZ.out hb.size
    have hbx := HBX.out.below hb HSZ.out
    have HBX1 := Lib.hid hbx
    have n0 : w1.cell? ⟨w.heap.size, 0, none⟩ = some (.int .i64 op) := hbx.cell 0
    have n1 : w1.cell? ⟨w.heap.size, 1, none⟩ = some (.int .i64 a) := hbx.cell 1
    have n2 : w1.cell? ⟨w.heap.size, 2, none⟩ = some (.int .i64 b) := hbx.cell 2
    have n3 : w1.cell? ⟨w.heap.size, 3, none⟩ = some (.int .i64 c) := hbx.cell 3
    have n4 : w1.cell? ⟨w.heap.size, 4, none⟩ = some (.slice A args.length cap) := hbx.cell 4
    have hf2 := field2 st sw false w1
    clear hb hbx
    go_wp2_with fail
    go_ret
    exact isRow_lit1 HB1.out [t + 1]
  subst h16
  clear h3 h4 h27 h15 h17 h18 h25 h11 e3 e4 e27 e15 e17 e18 e25 e11
  rcases args with _ | ⟨y, ys⟩
  · rw [show nextT ⟨16, a, b, c, A, cap, []⟩ t = [] ++ pcs (armsT X) by rw [hX.out]; simp [nextT, pre16]]

    have HA := Lib.hid (fun w1 (hw : InOk w1 B ⟨16, a, b, c, A, cap, []⟩) => rarms_any ⟨16, a, b, c, A, cap, []⟩ B w1 hw)
    rw [show armsT ⟨16, a, b, c, A, cap, []⟩ = armsT X by rw [hX.out]] at HA
    have HOKW := Lib.hid hok
    have hsm := armsT_small X HLA.out
    obtain ⟨vs, hvs⟩ : ∃ vs, Hid (armsT X = vs) := ⟨_, rfl⟩
    rw [hvs.out] at HA hsm ⊢
    have HPR : Hid (([] : List Int).length + vs.length ≤ 1048577) := by show _ ≤ _; have := hsm.1; simp; omega
    unfold inV at HA
    simp only at HA
    clear hok hsm
    have HS := Lib.hid (shapes_any 16 (w.alloc (.cells #[.int .i64 16, .int .i64 a, .int .i64 b, .int .i64 c, .slice A 0 cap] 33)))
    rw [shape_16] at HS
    have HB := Lib.hid ((Below.refl w.heap.size w).alloc (Nat.le_refl _) (.cells #[.int .i64 16, .int .i64 a, .int .i64 b, .int .i64 c, .slice A 0 cap] 33))
    have HBX := Lib.hid (Box.new w 33 #[.int .i64 16, .int .i64 a, .int .i64 b, .int .i64 c, .slice A 0 cap])
    have HSZ : Hid (w.heap.size < (w.alloc (.cells #[.int .i64 16, .int .i64 a, .int .i64 b, .int .i64 c, .slice A 0 cap] 33)).heap.size) := by show _ < _; simp
    go_enter Try.func13, Try.ntmps13
    go_wp2_with fail
    refine HS.out.mono ?_
    rintro e w1 ⟨rfl, hb⟩
    have HB1 := Lib.hid (HB.out.trans (hb.mono HB.out.size))
    have HLT1 : Hid (w.heap.size < w1.heap.size) := Nat.lt_of_lt_of_le HSZ.out hb.size
    have hbx := HBX.out.below hb HSZ.out
    have HBX1 := Lib.hid hbx
    have n0 : w1.cell? ⟨w.heap.size, 0, none⟩ = some (.int .i64 16) := hbx.cell 0
    have n1 : w1.cell? ⟨w.heap.size, 1, none⟩ = some (.int .i64 a) := hbx.cell 1
    have n2 : w1.cell? ⟨w.heap.size, 2, none⟩ = some (.int .i64 b) := hbx.cell 2
    have n3 : w1.cell? ⟨w.heap.size, 3, none⟩ = some (.int .i64 c) := hbx.cell 3
    have n4 : w1.cell? ⟨w.heap.size, 4, none⟩ = some (.slice A 0 cap) := hbx.cell 4
    have hf2 := field2 ⟨#[]⟩ false false w1
    clear hb hbx
    have HB0 := HB1
    have HOUT := Lib.hid (OwnAt.nil (w := w1) (base := w.heap.size) (e := 3) (size := 1))
    have HOB : Hid (∀ b', (none : Option Addr).map (·.block) = some b' → b' < w1.heap.size) := fun b' h => by cases h
    go_wp2_with fail
    refine (HA.out _ (HOKW.out.below HB1.out)).mono ?_

    rintro e w2 ⟨v2, rfl, A1, c1, l, rfl, ha, hb2, hblk, -⟩
    have HB1 := Lib.hid (HB0.out.trans (hb2.mono HB0.out.size))
    have HO1 := Lib.hid (HOUT.out.below hb2)
    have HR1 := Lib.hid (rowS_of ha.2.1 (fun b hb => (fun e => by have h1 := hblk b hb; have h2 := HOB.out b e; omega)) (A2 := none) )
    have HPC := Lib.hid (fun k (hk : k < l.length) => (ha.2.2 k hk).1)
    have HLL := Lib.hid ha.1
    clear ha hb2 hblk

    go_wp2_with fail
    go_loopg [71, 5] vs.length (fun gk i q wr => ∃ (k : Nat) (A2 : Option Addr) (c2 : Nat), gk = vs.length - k ∧ k ≤ vs.length ∧ i = .int .i64 k ∧ q = .slice A2 (([] : List Int).length + k) c2 ∧ OwnAt wr w.heap.size 3 1 A2 (([] : List Int).length + k) c2 (ints (([] : List Int) ++ pcs (vs.take k))) ∧ Below w.heap.size w wr ∧ RowS wr (fun b => A2.map (·.block) ≠ some b) A1 (flat arC l))
    case atStart => exact ⟨0, _, _, rfl, Nat.zero_le _, rfl, rfl, by simpa [pcs, ints] using HO1.out, HB1.out, HR1.out⟩
    case round =>
      obtain ⟨k, A2, c2, hgk, hk, rfl, rfl, ho2, hb2, hr2⟩ := hrel
      have HK := Lib.hid hgk
      clear hgk
      by_cases hlt : k < vs.length
      · have hkl : k < l.length := by have := HLL.out; omega
        have hkb : k ≤ 1048577 := by have := HPR.out; simp at this; omega
        obtain ⟨bb, oo, rfl, hbl, z0, z1⟩ := Row.ar hr2.all hkl arc0
        have hpc := HPC.out k hkl
        have HTK := Lib.hid (pcs_take [] vs hlt)
        generalize l.getD k arc0 = y at *
        generalize (vs.getD k arv0).1 = pc at *
        obtain ⟨ypc, yA, yl, yc⟩ := y
        simp only at hpc z0 z1
        subst hpc
        have hbA : Below wr.heap.size wr ((wr.alloc (.cells #[.int .i64 ypc, .slice yA yl yc] 60)).alloc (.cells #[.int .i64 ypc] 3)) := ((Below.refl _ _).alloc (Nat.le_refl _) _).alloc (by simp) _
        have HOW := Lib.hid (ho2.below hbA)
        have HRW := Lib.hid (rowS_below hr2 hbA)
        have HBW := Lib.hid (hb2.trans (hbA.mono hb2.size))
        have HLT : Hid (((wr.alloc (.cells #[.int .i64 ypc, .slice yA yl yc] 60)).alloc (.cells #[.int .i64 ypc] 3)).cell? ⟨wr.heap.size + 1, 0, none⟩ = some (.int .i64 ypc)) := by
          have h := (Box.new (wr.alloc (.cells #[.int .i64 ypc, .slice yA yl yc] 60)) 3 #[.int .i64 ypc]).cell 0
          rw [show (wr.alloc (.cells #[.int .i64 ypc, .slice yA yl yc] 60)).heap.size = wr.heap.size + 1 by simp] at h
          exact h
        have HM1 : Hid (([] : List Int).length + k + 1 ≤ maxLen) := by show _ ≤ _; have := HPR.out; unfold maxLen; omega
        have HM2 : Hid ((([] : List Int).length + k + 1) * 8 ≤ 140737488355328) := by show _ ≤ _; have := HPR.out; omega
        have HMS : Hid (vs.length - (k + 1) < gk) := by have := HK.out; show _ < _; omega
        have HBS := Lib.hid hb2.size
        have HAB : Hid (∀ kk, A2.map (·.block) = some kk → w.heap.size ≤ kk) := fun kk hkk => by
          rcases ho2.form with ⟨rfl, _⟩ | ⟨g1, o1, rfl⟩
          · cases hkk
          · simp at hkk; subst hkk; exact ho2.lt.1
        clear ho2 hb2 hr2 hbA
        go_wp2_with (at_builtin; refine wpList_append_q rfl (.tmp 75) (.tmp 78) 23 rfl w.heap.size 3 i1 (.int .i64 0) 1 8 Try.underlying23 hi1 hy0 hy1 hy2 rfl (by decide) A2 (([] : List Int).length + k) c2 (ints (([] : List Int) ++ pcs (vs.take k))) rfl HOW.out ⟨wr.heap.size + 1, 0, none⟩ 1 1 (ints [ypc]) rfl rfl (lit_intC HLT.out) (ints_oneI _) HM1.out HM2.out HBW.out.size (by decide) ?_; intro g9 o9 d9 w9 j1 j2 j3; have H9 := Lib.hid (And.intro j1 (And.intro (HBW.out.grown j2 HBW.out.size HAB.out) (rowS_grown (o := o9) HRW.out j2 j3))); clear j1 j2 j3)
        go_roundg (vs.length - (k + 1))
        case measure => exact HMS.out
        case rel => exact ⟨k + 1, some ⟨g9, o9, none⟩, d9, rfl, hlt, by go_num, by first | rfl | (simp; done) | (simp; omega), by have := H9.out.1; rw [← Nat.add_assoc, ← HTK.out]; simpa [ints] using this, H9.out.2.1, H9.out.2.2⟩
      · obtain rfl : k = vs.length := by omega
        rw [List.take_length] at ho2
        have hnl : decide (vs.length < l.length) = false := by have := HLL.out; simp; omega
        have hnl' : decide ((vs.length : Int) < (l.length : Int)) = false := by have := HLL.out; simp; omega
        have hle : (([] : List Int) ++ pcs vs).length = ([] : List Int).length + vs.length := by simp [pcs, Nat.add_comm]
        clear HK
        go_wp2_with fail
        go_ret
        rw [← hle]
        exact ⟨_, _, rfl, by rw [← hle] at ho2; exact ho2, hb2⟩
  have Q0 : ∃ b1 o1, A = some ⟨b1, o1, none⟩ ∧ w.cell? ⟨b1, o1, none⟩ = some (.int .i64 y) := by
    obtain ⟨b1, o1, hAe, _, hc1⟩ := hok.row (by simp [ints])
    exact ⟨b1, o1, hAe, by simpa using hc1 0 (.int .i64 y) rfl⟩
  obtain ⟨b1, o1, rfl, Q0⟩ := Q0
  have Q0 := Lib.hid Q0
  by_cases hy : y < 0
  · have hyp : ¬ 0 ≤ y := by omega
    have dy : decide (-1 < y) = false := by simp; omega
    rw [show nextT ⟨16, a, b, c, (some ⟨b1, o1, none⟩), cap, y :: ys⟩ t = [] ++ pcs (armsT X) by rw [hX.out]; simp [nextT, pre16, hyp]]

    have HA := Lib.hid (fun w1 (hw : InOk w1 B ⟨16, a, b, c, (some ⟨b1, o1, none⟩), cap, (y :: ys)⟩) => rarms_any ⟨16, a, b, c, (some ⟨b1, o1, none⟩), cap, (y :: ys)⟩ B w1 hw)
    rw [show armsT ⟨16, a, b, c, (some ⟨b1, o1, none⟩), cap, (y :: ys)⟩ = armsT X by rw [hX.out]] at HA
    have HOKW := Lib.hid hok
    have hsm := armsT_small X HLA.out
    obtain ⟨vs, hvs⟩ : ∃ vs, Hid (armsT X = vs) := ⟨_, rfl⟩
    rw [hvs.out] at HA hsm ⊢
    have HPR : Hid (([] : List Int).length + vs.length ≤ 1048577) := by show _ ≤ _; have := hsm.1; simp; omega
    unfold inV at HA
    simp only at HA
    clear hok hsm
    have HS := Lib.hid (shapes_any 16 (w.alloc (.cells #[.int .i64 16, .int .i64 a, .int .i64 b, .int .i64 c, .slice (some ⟨b1, o1, none⟩) (ys.length + 1) cap] 33)))
    rw [shape_16] at HS
    have HB := Lib.hid ((Below.refl w.heap.size w).alloc (Nat.le_refl _) (.cells #[.int .i64 16, .int .i64 a, .int .i64 b, .int .i64 c, .slice (some ⟨b1, o1, none⟩) (ys.length + 1) cap] 33))
    have HBX := Lib.hid (Box.new w 33 #[.int .i64 16, .int .i64 a, .int .i64 b, .int .i64 c, .slice (some ⟨b1, o1, none⟩) (ys.length + 1) cap])
    have HSZ : Hid (w.heap.size < (w.alloc (.cells #[.int .i64 16, .int .i64 a, .int .i64 b, .int .i64 c, .slice (some ⟨b1, o1, none⟩) (ys.length + 1) cap] 33)).heap.size) := by show _ < _; simp
    go_enter Try.func13, Try.ntmps13
    go_wp2_with fail
    refine HS.out.mono ?_
    rintro e w1 ⟨rfl, hb⟩
    have HB1 := Lib.hid (HB.out.trans (hb.mono HB.out.size))
    have HLT1 : Hid (w.heap.size < w1.heap.size) := Nat.lt_of_lt_of_le HSZ.out hb.size
    have hbx := HBX.out.below hb HSZ.out
    have HBX1 := Lib.hid hbx
    have n0 : w1.cell? ⟨w.heap.size, 0, none⟩ = some (.int .i64 16) := hbx.cell 0
    have n1 : w1.cell? ⟨w.heap.size, 1, none⟩ = some (.int .i64 a) := hbx.cell 1
    have n2 : w1.cell? ⟨w.heap.size, 2, none⟩ = some (.int .i64 b) := hbx.cell 2
    have n3 : w1.cell? ⟨w.heap.size, 3, none⟩ = some (.int .i64 c) := hbx.cell 3
    have n4 : w1.cell? ⟨w.heap.size, 4, none⟩ = some (.slice (some ⟨b1, o1, none⟩) (ys.length + 1) cap) := hbx.cell 4
    have hf2 := field2 ⟨#[]⟩ false false w1
    clear hb hbx
    have q0 := (HB1.out.cell (p := ⟨b1, o1, none⟩) (lt_of_cell Q0.out)).trans Q0.out
    have hlt0 : 0 < ys.length + 1 := by simp
    have hlt1 : decide (0 < ys.length + 1) = true := by simp
    have hlt2 : decide ((0 : Int) < ((ys.length : Int) + 1)) = true := by simp; try omega
    have HB0 := HB1
    have HOUT := Lib.hid (OwnAt.nil (w := w1) (base := w.heap.size) (e := 3) (size := 1))
    have HOB : Hid (∀ b', (none : Option Addr).map (·.block) = some b' → b' < w1.heap.size) := fun b' h => by cases h
    go_wp2_with fail
    refine (HA.out _ (HOKW.out.below HB1.out)).mono ?_

    rintro e w2 ⟨v2, rfl, A1, c1, l, rfl, ha, hb2, hblk, -⟩
    have HB1 := Lib.hid (HB0.out.trans (hb2.mono HB0.out.size))
    have HO1 := Lib.hid (HOUT.out.below hb2)
    have HR1 := Lib.hid (rowS_of ha.2.1 (fun b hb => (fun e => by have h1 := hblk b hb; have h2 := HOB.out b e; omega)) (A2 := none) )
    have HPC := Lib.hid (fun k (hk : k < l.length) => (ha.2.2 k hk).1)
    have HLL := Lib.hid ha.1
    clear ha hb2 hblk

    go_wp2_with fail
    go_loopg [71, 5] vs.length (fun gk i q wr => ∃ (k : Nat) (A2 : Option Addr) (c2 : Nat), gk = vs.length - k ∧ k ≤ vs.length ∧ i = .int .i64 k ∧ q = .slice A2 (([] : List Int).length + k) c2 ∧ OwnAt wr w.heap.size 3 1 A2 (([] : List Int).length + k) c2 (ints (([] : List Int) ++ pcs (vs.take k))) ∧ Below w.heap.size w wr ∧ RowS wr (fun b => A2.map (·.block) ≠ some b) A1 (flat arC l))
    case atStart => exact ⟨0, _, _, rfl, Nat.zero_le _, rfl, rfl, by simpa [pcs, ints] using HO1.out, HB1.out, HR1.out⟩
    case round =>
      obtain ⟨k, A2, c2, hgk, hk, rfl, rfl, ho2, hb2, hr2⟩ := hrel
      have HK := Lib.hid hgk
      clear hgk
      by_cases hlt : k < vs.length
      · have hkl : k < l.length := by have := HLL.out; omega
        have hkb : k ≤ 1048577 := by have := HPR.out; simp at this; omega
        obtain ⟨bb, oo, rfl, hbl, z0, z1⟩ := Row.ar hr2.all hkl arc0
        have hpc := HPC.out k hkl
        have HTK := Lib.hid (pcs_take [] vs hlt)
        generalize l.getD k arc0 = y at *
        generalize (vs.getD k arv0).1 = pc at *
        obtain ⟨ypc, yA, yl, yc⟩ := y
        simp only at hpc z0 z1
        subst hpc
        have hbA : Below wr.heap.size wr ((wr.alloc (.cells #[.int .i64 ypc, .slice yA yl yc] 60)).alloc (.cells #[.int .i64 ypc] 3)) := ((Below.refl _ _).alloc (Nat.le_refl _) _).alloc (by simp) _
        have HOW := Lib.hid (ho2.below hbA)
        have HRW := Lib.hid (rowS_below hr2 hbA)
        have HBW := Lib.hid (hb2.trans (hbA.mono hb2.size))
        have HLT : Hid (((wr.alloc (.cells #[.int .i64 ypc, .slice yA yl yc] 60)).alloc (.cells #[.int .i64 ypc] 3)).cell? ⟨wr.heap.size + 1, 0, none⟩ = some (.int .i64 ypc)) := by
          have h := (Box.new (wr.alloc (.cells #[.int .i64 ypc, .slice yA yl yc] 60)) 3 #[.int .i64 ypc]).cell 0
          rw [show (wr.alloc (.cells #[.int .i64 ypc, .slice yA yl yc] 60)).heap.size = wr.heap.size + 1 by simp] at h
          exact h
        have HM1 : Hid (([] : List Int).length + k + 1 ≤ maxLen) := by show _ ≤ _; have := HPR.out; unfold maxLen; omega
        have HM2 : Hid ((([] : List Int).length + k + 1) * 8 ≤ 140737488355328) := by show _ ≤ _; have := HPR.out; omega
        have HMS : Hid (vs.length - (k + 1) < gk) := by have := HK.out; show _ < _; omega
        have HBS := Lib.hid hb2.size
        have HAB : Hid (∀ kk, A2.map (·.block) = some kk → w.heap.size ≤ kk) := fun kk hkk => by
          rcases ho2.form with ⟨rfl, _⟩ | ⟨g1, o1, rfl⟩
          · cases hkk
          · simp at hkk; subst hkk; exact ho2.lt.1
        clear ho2 hb2 hr2 hbA
        go_wp2_with (at_builtin; refine wpList_append_q rfl (.tmp 75) (.tmp 78) 23 rfl w.heap.size 3 i1 (.int .i64 0) 1 8 Try.underlying23 hi1 hy0 hy1 hy2 rfl (by decide) A2 (([] : List Int).length + k) c2 (ints (([] : List Int) ++ pcs (vs.take k))) rfl HOW.out ⟨wr.heap.size + 1, 0, none⟩ 1 1 (ints [ypc]) rfl rfl (lit_intC HLT.out) (ints_oneI _) HM1.out HM2.out HBW.out.size (by decide) ?_; intro g9 o9 d9 w9 j1 j2 j3; have H9 := Lib.hid (And.intro j1 (And.intro (HBW.out.grown j2 HBW.out.size HAB.out) (rowS_grown (o := o9) HRW.out j2 j3))); clear j1 j2 j3)
        go_roundg (vs.length - (k + 1))
        case measure => exact HMS.out
        case rel => exact ⟨k + 1, some ⟨g9, o9, none⟩, d9, rfl, hlt, by go_num, by first | rfl | (simp; done) | (simp; omega), by have := H9.out.1; rw [← Nat.add_assoc, ← HTK.out]; simpa [ints] using this, H9.out.2.1, H9.out.2.2⟩
      · obtain rfl : k = vs.length := by omega
        rw [List.take_length] at ho2
        have hnl : decide (vs.length < l.length) = false := by have := HLL.out; simp; omega
        have hnl' : decide ((vs.length : Int) < (l.length : Int)) = false := by have := HLL.out; simp; omega
        have hle : (([] : List Int) ++ pcs vs).length = ([] : List Int).length + vs.length := by simp [pcs, Nat.add_comm]
        clear HK
        go_wp2_with fail
        go_ret
        rw [← hle]
        exact ⟨_, _, rfl, by rw [← hle] at ho2; exact ho2, hb2⟩
  · have hyp : 0 ≤ y := by omega
    have dy : decide (-1 < y) = true := by simp; omega
    rw [show nextT ⟨16, a, b, c, (some ⟨b1, o1, none⟩), cap, y :: ys⟩ t = [y] ++ pcs (armsT X) by rw [hX.out]; simp [nextT, pre16, hyp]]

    have HA := Lib.hid (fun w1 (hw : InOk w1 B ⟨16, a, b, c, (some ⟨b1, o1, none⟩), cap, (y :: ys)⟩) => rarms_any ⟨16, a, b, c, (some ⟨b1, o1, none⟩), cap, (y :: ys)⟩ B w1 hw)
    rw [show armsT ⟨16, a, b, c, (some ⟨b1, o1, none⟩), cap, (y :: ys)⟩ = armsT X by rw [hX.out]] at HA
    have HOKW := Lib.hid hok
    have hsm := armsT_small X HLA.out
    obtain ⟨vs, hvs⟩ : ∃ vs, Hid (armsT X = vs) := ⟨_, rfl⟩
    rw [hvs.out] at HA hsm ⊢
    have HPR : Hid (([y] : List Int).length + vs.length ≤ 1048577) := by show _ ≤ _; have := hsm.1; simp; omega
    unfold inV at HA
    simp only at HA
    clear hok hsm
    have HS := Lib.hid (shapes_any 16 (w.alloc (.cells #[.int .i64 16, .int .i64 a, .int .i64 b, .int .i64 c, .slice (some ⟨b1, o1, none⟩) (ys.length + 1) cap] 33)))
    rw [shape_16] at HS
    have HB := Lib.hid ((Below.refl w.heap.size w).alloc (Nat.le_refl _) (.cells #[.int .i64 16, .int .i64 a, .int .i64 b, .int .i64 c, .slice (some ⟨b1, o1, none⟩) (ys.length + 1) cap] 33))
    have HBX := Lib.hid (Box.new w 33 #[.int .i64 16, .int .i64 a, .int .i64 b, .int .i64 c, .slice (some ⟨b1, o1, none⟩) (ys.length + 1) cap])
    have HSZ : Hid (w.heap.size < (w.alloc (.cells #[.int .i64 16, .int .i64 a, .int .i64 b, .int .i64 c, .slice (some ⟨b1, o1, none⟩) (ys.length + 1) cap] 33)).heap.size) := by show _ < _; simp
    go_enter Try.func13, Try.ntmps13
    go_wp2_with fail
    refine HS.out.mono ?_
    rintro e w1 ⟨rfl, hb⟩
    have HB1 := Lib.hid (HB.out.trans (hb.mono HB.out.size))
    have HLT1 : Hid (w.heap.size < w1.heap.size) := Nat.lt_of_lt_of_le HSZ.out hb.size
    have hbx := HBX.out.below hb HSZ.out
    have HBX1 := Lib.hid hbx
    have n0 : w1.cell? ⟨w.heap.size, 0, none⟩ = some (.int .i64 16) := hbx.cell 0
    have n1 : w1.cell? ⟨w.heap.size, 1, none⟩ = some (.int .i64 a) := hbx.cell 1
    have n2 : w1.cell? ⟨w.heap.size, 2, none⟩ = some (.int .i64 b) := hbx.cell 2
    have n3 : w1.cell? ⟨w.heap.size, 3, none⟩ = some (.int .i64 c) := hbx.cell 3
    have n4 : w1.cell? ⟨w.heap.size, 4, none⟩ = some (.slice (some ⟨b1, o1, none⟩) (ys.length + 1) cap) := hbx.cell 4
    have hf2 := field2 ⟨#[]⟩ false false w1
    clear hb hbx
    have q0 := (HB1.out.cell (p := ⟨b1, o1, none⟩) (lt_of_cell Q0.out)).trans Q0.out
    have hlt0 : 0 < ys.length + 1 := by simp
    have hlt1 : decide (0 < ys.length + 1) = true := by simp
    have hlt2 : decide ((0 : Int) < ((ys.length : Int) + 1)) = true := by simp; try omega
    have HOUT := Lib.hid (own_lit1 HB1.out.size y)
    have HB0 := Lib.hid (HB1.out.alloc HB1.out.size (.cells #[.int .i64 y] 3))
    have HOB : Hid (∀ b', (some (⟨w1.heap.size, 0, none⟩ : Addr)).map (·.block) = some b' → b' < (w1.alloc (.cells #[.int .i64 y] 3)).heap.size) := fun b' h => by simp at h; subst h; simp
    have hbx := HBX1.out.alloc (.cells #[.int .i64 y] 3)
    have m0 : (w1.alloc (.cells #[.int .i64 y] 3)).cell? ⟨w.heap.size, 0, none⟩ = some (.int .i64 16) := hbx.cell 0
    have m1 : (w1.alloc (.cells #[.int .i64 y] 3)).cell? ⟨w.heap.size, 1, none⟩ = some (.int .i64 a) := hbx.cell 1
    have m2 : (w1.alloc (.cells #[.int .i64 y] 3)).cell? ⟨w.heap.size, 2, none⟩ = some (.int .i64 b) := hbx.cell 2
    have m3 : (w1.alloc (.cells #[.int .i64 y] 3)).cell? ⟨w.heap.size, 3, none⟩ = some (.int .i64 c) := hbx.cell 3
    have m4 : (w1.alloc (.cells #[.int .i64 y] 3)).cell? ⟨w.heap.size, 4, none⟩ = some (.slice (some ⟨b1, o1, none⟩) (ys.length + 1) cap) := hbx.cell 4
    clear hbx
    go_wp2_with fail
    refine (HA.out _ (HOKW.out.below HB0.out)).mono ?_

    rintro e w2 ⟨v2, rfl, A1, c1, l, rfl, ha, hb2, hblk, -⟩
    have HB1 := Lib.hid (HB0.out.trans (hb2.mono HB0.out.size))
    have HO1 := Lib.hid (HOUT.out.below hb2)
    have HR1 := Lib.hid (rowS_of ha.2.1 (fun b hb => (fun e => by have h1 := hblk b hb; have h2 := HOB.out b e; omega)) (A2 := some ⟨w1.heap.size, 0, none⟩) )
    have HPC := Lib.hid (fun k (hk : k < l.length) => (ha.2.2 k hk).1)
    have HLL := Lib.hid ha.1
    clear ha hb2 hblk

    go_wp2_with fail
    go_loopg [71, 5] vs.length (fun gk i q wr => ∃ (k : Nat) (A2 : Option Addr) (c2 : Nat), gk = vs.length - k ∧ k ≤ vs.length ∧ i = .int .i64 k ∧ q = .slice A2 (([y] : List Int).length + k) c2 ∧ OwnAt wr w.heap.size 3 1 A2 (([y] : List Int).length + k) c2 (ints (([y] : List Int) ++ pcs (vs.take k))) ∧ Below w.heap.size w wr ∧ RowS wr (fun b => A2.map (·.block) ≠ some b) A1 (flat arC l))
    case atStart => exact ⟨0, _, _, rfl, Nat.zero_le _, rfl, rfl, by simpa [pcs, ints] using HO1.out, HB1.out, HR1.out⟩
    case round =>
      obtain ⟨k, A2, c2, hgk, hk, rfl, rfl, ho2, hb2, hr2⟩ := hrel
      have HK := Lib.hid hgk
      clear hgk
      by_cases hlt : k < vs.length
      · have hkl : k < l.length := by have := HLL.out; omega
        have hkb : k ≤ 1048577 := by have := HPR.out; simp at this; omega
        obtain ⟨bb, oo, rfl, hbl, z0, z1⟩ := Row.ar hr2.all hkl arc0
        have hpc := HPC.out k hkl
        have HTK := Lib.hid (pcs_take [y] vs hlt)
        generalize l.getD k arc0 = y at *
        generalize (vs.getD k arv0).1 = pc at *
        obtain ⟨ypc, yA, yl, yc⟩ := y
        simp only at hpc z0 z1
        subst hpc
        have hbA : Below wr.heap.size wr ((wr.alloc (.cells #[.int .i64 ypc, .slice yA yl yc] 60)).alloc (.cells #[.int .i64 ypc] 3)) := ((Below.refl _ _).alloc (Nat.le_refl _) _).alloc (by simp) _
        have HOW := Lib.hid (ho2.below hbA)
        have HRW := Lib.hid (rowS_below hr2 hbA)
        have HBW := Lib.hid (hb2.trans (hbA.mono hb2.size))
        have HLT : Hid (((wr.alloc (.cells #[.int .i64 ypc, .slice yA yl yc] 60)).alloc (.cells #[.int .i64 ypc] 3)).cell? ⟨wr.heap.size + 1, 0, none⟩ = some (.int .i64 ypc)) := by
          have h := (Box.new (wr.alloc (.cells #[.int .i64 ypc, .slice yA yl yc] 60)) 3 #[.int .i64 ypc]).cell 0
          rw [show (wr.alloc (.cells #[.int .i64 ypc, .slice yA yl yc] 60)).heap.size = wr.heap.size + 1 by simp] at h
          exact h
        have HM1 : Hid (([y] : List Int).length + k + 1 ≤ maxLen) := by show _ ≤ _; have := HPR.out; unfold maxLen; omega
        have HM2 : Hid ((([y] : List Int).length + k + 1) * 8 ≤ 140737488355328) := by show _ ≤ _; have := HPR.out; omega
        have HMS : Hid (vs.length - (k + 1) < gk) := by have := HK.out; show _ < _; omega
        have HBS := Lib.hid hb2.size
        have HAB : Hid (∀ kk, A2.map (·.block) = some kk → w.heap.size ≤ kk) := fun kk hkk => by
          rcases ho2.form with ⟨rfl, _⟩ | ⟨g1, o1, rfl⟩
          · cases hkk
          · simp at hkk; subst hkk; exact ho2.lt.1
        clear ho2 hb2 hr2 hbA
        go_wp2_with (at_builtin; refine wpList_append_q rfl (.tmp 75) (.tmp 78) 23 rfl w.heap.size 3 i1 (.int .i64 0) 1 8 Try.underlying23 hi1 hy0 hy1 hy2 rfl (by decide) A2 (([y] : List Int).length + k) c2 (ints (([y] : List Int) ++ pcs (vs.take k))) rfl HOW.out ⟨wr.heap.size + 1, 0, none⟩ 1 1 (ints [ypc]) rfl rfl (lit_intC HLT.out) (ints_oneI _) HM1.out HM2.out HBW.out.size (by decide) ?_; intro g9 o9 d9 w9 j1 j2 j3; have H9 := Lib.hid (And.intro j1 (And.intro (HBW.out.grown j2 HBW.out.size HAB.out) (rowS_grown (o := o9) HRW.out j2 j3))); clear j1 j2 j3)
        go_roundg (vs.length - (k + 1))
        case measure => exact HMS.out
        case rel => exact ⟨k + 1, some ⟨g9, o9, none⟩, d9, rfl, hlt, by go_num, by first | rfl | (simp; done) | (simp; omega), by have := H9.out.1; rw [← Nat.add_assoc, ← HTK.out]; simpa [ints] using this, H9.out.2.1, H9.out.2.2⟩
      · obtain rfl : k = vs.length := by omega
        rw [List.take_length] at ho2
        have hnl : decide (vs.length < l.length) = false := by have := HLL.out; simp; omega
        have hnl' : decide ((vs.length : Int) < (l.length : Int)) = false := by have := HLL.out; simp; omega
        have hle : (([y] : List Int) ++ pcs vs).length = ([y] : List Int).length + vs.length := by simp [pcs, Nat.add_comm]
        clear HK
        go_wp2_with fail
        go_ret
        rw [← hle]
        exact ⟨_, _, rfl, by rw [← hle] at ho2; exact ho2, hb2⟩
end Go.Proofs.Ythglcnodoophaaa
