
/-
  Next on both sides.
-/
import Derived.Test.YthglcnodoophaaaIn3
import Derived.Test.YthglcnodoophaaaIn5
namespace Go.Proofs.Ythglcnodoophaaa
open Go.RowKit

def pcs (vs : List ArV) : List Int := vs.map (·.1)
theorem pcs_take (pre : List Int) (vs : List ArV) {k : Nat} (h : k < vs.length) : (pre ++ pcs (vs.take k)) ++ [(vs.getD k arv0).1] = pre ++ pcs (vs.take (k + 1)) := by
  rw [List.take_add_one, List.getD_eq_getElem?_getD, List.getElem?_eq_getElem h]
  show (pre ++ (vs.take k).map (fun v : ArV => v.1)) ++ [_] = pre ++ (vs.take k ++ [_]).map (fun v : ArV => v.1)
  rw [List.map_append, List.append_assoc]
  rfl
theorem rowS_below {w w' : World} {S : Nat → Prop} {A : Option Addr} {xs : List Value} (h : RowS w S A xs) (hb : Below w.heap.size w w') : RowS w' S A xs := fun hp => by
  obtain ⟨b, o, e, hs, hc⟩ := h hp
  exact ⟨b, o, e, hs, fun i v hv => (hb.cell (p := ⟨b, o + i, none⟩) (lt_of_cell (hc i v hv))).trans (hc i v hv)⟩
theorem rowS_grown {w w' : World} {A A1 : Option Addr} {xs : List Value} {g o : Nat} (h : RowS w (fun b => A.map (·.block) ≠ some b) A1 xs) (k2 : w.grownBy w' (A.map (·.block))) (k3 : A.map (·.block) = some g ∨ g = w.heap.size) : RowS w' (fun b => (some (⟨g, o, none⟩ : Addr)).map (·.block) ≠ some b) A1 xs := fun hp => by
  obtain ⟨b, o2, e, hs, hc⟩ := h hp
  have hlt : b < w.heap.size := lt_of_cell (hc 0 _ (List.getElem?_eq_getElem hp))
  refine ⟨b, o2, e, fun e2 => ?_, fun i v hv => ?_⟩
  · simp at e2
    subst e2
    rcases k3 with k3 | k3
    · exact hs k3
    · omega
  · have := k2.block b hlt (fun e3 => hs e3.symm)
    have hv' := hc i v hv
    simp only [World.cell?] at hv' ⊢
    rw [this]
    exact hv'
theorem rowS_of {w : World} {A1 A2 : Option Addr} {xs : List Value} (h : Row w w.heap.size A1 xs) (hd : ∀ b, A1.map (·.block) = some b → A2.map (·.block) ≠ some b) : RowS w (fun b => A2.map (·.block) ≠ some b) A1 xs := fun hp => by
  obtain ⟨b, o, e, _, hc⟩ := h hp
  exact ⟨b, o, e, hd b (by rw [e]; rfl), hc⟩
def pre16 : List Int → List Int
  | [] => []
  | y :: _ => if 0 ≤ y then [y] else []
def nextT (x : InC) (t : Int) : List Int :=
  if x.op = 3 then [x.a] else if x.op = 4 then [t + 1, x.b] else if x.op = 27 then [t + 1, x.c]
  else if x.op ∈ [(15 : Int), 17, 18, 25] then [] else if x.op = 11 then pcs (armsT x) else if x.op = 16 then pre16 x.args ++ pcs (armsT x) else [t + 1]

set_option maxRecDepth 100000 in
set_option maxHeartbeats 4000000 in
theorem next_any (x : InC) (t : Int) (B : Nat) (w : World) (hok : InOk w B x) (ht0 : 0 ≤ t) (ht1 : t ≤ 1099511627776) : Calls Try.prog 19 #[inV x, .int .i64 t] w (IsRow w (nextT x t)) := by
  obtain ⟨i1, hi1, hy0, hy1, hy2⟩ := int_partsI
  obtain ⟨X, hX⟩ : ∃ X, Hid (X = x) := ⟨_, rfl⟩
  have HLA : Hid (X.args.length ≤ 1048576) := by show _ ≤ _; rw [hX.out]; exact hok.len
  obtain ⟨op, a, b, c, A, cap, args⟩ := x
  unfold inV
  simp only
  by_cases h3 : op = 3
  · subst h3
    rw [show nextT ⟨3, a, b, c, A, cap, args⟩ t = [a] by simp [nextT]]
    clear hok
    go_enter Try.func19, Try.ntmps19
    go_wp2_with fail
    go_ret
    exact isRow_lit w (.cells #[.int .i64 3, .int .i64 a, .int .i64 b, .int .i64 c, .slice A args.length cap] 33) [a]
  have e3 : (op == 3) = false := by simp [h3]
  by_cases h4 : op = 4
  · subst h4
    rw [show nextT ⟨4, a, b, c, A, cap, args⟩ t = [t + 1, b] by simp [nextT]]
    clear hok
    go_enter Try.func19, Try.ntmps19
    go_wp2_with fail
    go_ret
    exact isRow_lit w (.cells #[.int .i64 4, .int .i64 a, .int .i64 b, .int .i64 c, .slice A args.length cap] 33) [t + 1, b]
  have e4 : (op == 4) = false := by simp [h4]
  by_cases h27 : op = 27
  · subst h27
    rw [show nextT ⟨27, a, b, c, A, cap, args⟩ t = [t + 1, c] by simp [nextT]]
    clear hok
    go_enter Try.func19, Try.ntmps19
    go_wp2_with fail
    go_ret
    exact isRow_lit w (.cells #[.int .i64 27, .int .i64 a, .int .i64 b, .int .i64 c, .slice A args.length cap] 33) [t + 1, c]
  have e27 : (op == 27) = false := by simp [h27]
  by_cases h15 : op = 15
  · subst h15
    rw [show nextT ⟨15, a, b, c, A, cap, args⟩ t = [] by simp [nextT]]
    clear hok
    go_enter Try.func19, Try.ntmps19
    go_wp2_with fail
    go_ret
    exact isRow_nil ((Below.refl _ _).alloc (Nat.le_refl _) _)
  have e15 : (op == 15) = false := by simp [h15]
  by_cases h17 : op = 17
  · subst h17
    rw [show nextT ⟨17, a, b, c, A, cap, args⟩ t = [] by simp [nextT]]
    clear hok
    go_enter Try.func19, Try.ntmps19
    go_wp2_with fail
    go_ret
    exact isRow_nil ((Below.refl _ _).alloc (Nat.le_refl _) _)
  have e17 : (op == 17) = false := by simp [h17]
  by_cases h18 : op = 18
  · subst h18
    rw [show nextT ⟨18, a, b, c, A, cap, args⟩ t = [] by simp [nextT]]
    clear hok
    go_enter Try.func19, Try.ntmps19
    go_wp2_with fail
    go_ret
    exact isRow_nil ((Below.refl _ _).alloc (Nat.le_refl _) _)
  have e18 : (op == 18) = false := by simp [h18]
  by_cases h25 : op = 25
  · subst h25
    rw [show nextT ⟨25, a, b, c, A, cap, args⟩ t = [] by simp [nextT]]
    clear hok
    go_enter Try.func19, Try.ntmps19
    go_wp2_with fail
    go_ret
    exact isRow_nil ((Below.refl _ _).alloc (Nat.le_refl _) _)
  have e25 : (op == 25) = false := by simp [h25]
  by_cases h11 : op = 11
  · subst h11
    rw [show nextT ⟨11, a, b, c, A, cap, args⟩ t = [] ++ pcs (armsT X) by rw [hX.out]; simp [nextT]]

    have hbI := (Below.refl w.heap.size w).alloc (Nat.le_refl _) (.cells #[.int .i64 11, .int .i64 a, .int .i64 b, .int .i64 c, .slice A (args).length cap] 33)
    have HA := Lib.hid (fun w1 (hw : InOk w1 B ⟨11, a, b, c, A, cap, args⟩) => arms_any ⟨11, a, b, c, A, cap, args⟩ B w1 hw)
    rw [show armsT ⟨11, a, b, c, A, cap, args⟩ = armsT X by rw [hX.out]] at HA
    have HOKI := Lib.hid (hok.below hbI)
    have hsm := armsT_small X HLA.out
    obtain ⟨vs, hvs⟩ : ∃ vs, Hid (armsT X = vs) := ⟨_, rfl⟩
    rw [hvs.out] at HA hsm ⊢
    have HPR : Hid (([] : List Int).length + vs.length ≤ 1048577) := by show _ ≤ _; have := hsm.1; simp; omega
    unfold inV at HA
    simp only at HA
    have HBI := Lib.hid hbI

    clear hok hbI hsm
    go_enter Try.func19, Try.ntmps19
    go_wp2_with fail
    have HB0 := HBI
    have HOUT := Lib.hid (OwnAt.nil (w := w.alloc (.cells #[.int .i64 11, .int .i64 a, .int .i64 b, .int .i64 c, .slice A (args).length cap] 33)) (base := w.heap.size) (e := 3) (size := 1))
    have HOB : Hid (∀ b', (none : Option Addr).map (·.block) = some b' → b' < (w.alloc (.cells #[.int .i64 11, .int .i64 a, .int .i64 b, .int .i64 c, .slice A (args).length cap] 33)).heap.size) := fun b' h => by cases h
    refine (HA.out _ HOKI.out).mono ?_

    rintro e w2 ⟨v2, rfl, A1, c1, l, rfl, ha, hb2, hblk, -⟩
    have HB1 := Lib.hid (HB0.out.trans (hb2.mono HB0.out.size))
    have HO1 := Lib.hid (HOUT.out.below hb2)
    have HR1 := Lib.hid (rowS_of ha.2.1 (fun b hb => (fun e => by have h1 := hblk b hb; have h2 := HOB.out b e; omega)) (A2 := none) )
    have HPC := Lib.hid (fun k (hk : k < l.length) => (ha.2.2 k hk).1)
    have HLL := Lib.hid ha.1
    clear ha hb2 hblk

    go_wp2_with fail
    go_loopg [63, 5] vs.length (fun gk i q wr => ∃ (k : Nat) (A2 : Option Addr) (c2 : Nat), gk = vs.length - k ∧ k ≤ vs.length ∧ i = .int .i64 k ∧ q = .slice A2 (([] : List Int).length + k) c2 ∧ OwnAt wr w.heap.size 3 1 A2 (([] : List Int).length + k) c2 (ints (([] : List Int) ++ pcs (vs.take k))) ∧ Below w.heap.size w wr ∧ RowS wr (fun b => A2.map (·.block) ≠ some b) A1 (flat arC l))
    case atStart => exact ⟨0, _, _, rfl, Nat.zero_le _, rfl, rfl, by simpa [pcs, ints] using HO1.out, HB1.out, HR1.out⟩
    case round =>
      obtain ⟨k, A2, c2, hgk, hk, rfl, rfl, ho2, hb2, hr2⟩ := hrel
      have HK := Lib.hid hgk
      clear hgk
      by_cases hlt : k < vs.length
      · have hkl : k < l.length := by have := HLL.out; omega
        have hkb : k ≤ 1048577 := by have := HPR.out; simp at this; omega
        obtain ⟨bb, oo, rfl, hbl, z0, z1⟩ := Row.ar hr2.all hkl arc0
        have hpc := HPC.out k hkl
        have HTK := Lib.hid (pcs_take [] vs hlt)
        generalize l.getD k arc0 = y at *
        generalize (vs.getD k arv0).1 = pc at *
        obtain ⟨ypc, yA, yl, yc⟩ := y
        simp only at hpc z0 z1
        subst hpc
        have hbA : Below wr.heap.size wr ((wr.alloc (.cells #[.int .i64 ypc, .slice yA yl yc] 60)).alloc (.cells #[.int .i64 ypc] 3)) := ((Below.refl _ _).alloc (Nat.le_refl _) _).alloc (by simp) _
        have HOW := Lib.hid (ho2.below hbA)
        have HRW := Lib.hid (rowS_below hr2 hbA)
        have HBW := Lib.hid (hb2.trans (hbA.mono hb2.size))
        have HLT : Hid (((wr.alloc (.cells #[.int .i64 ypc, .slice yA yl yc] 60)).alloc (.cells #[.int .i64 ypc] 3)).cell? ⟨wr.heap.size + 1, 0, none⟩ = some (.int .i64 ypc)) := by
          have h := (Box.new (wr.alloc (.cells #[.int .i64 ypc, .slice yA yl yc] 60)) 3 #[.int .i64 ypc]).cell 0
          rw [show (wr.alloc (.cells #[.int .i64 ypc, .slice yA yl yc] 60)).heap.size = wr.heap.size + 1 by simp] at h
          exact h
        have HM1 : Hid (([] : List Int).length + k + 1 ≤ maxLen) := by show _ ≤ _; have := HPR.out; unfold maxLen; omega
        have HM2 : Hid ((([] : List Int).length + k + 1) * 8 ≤ 140737488355328) := by show _ ≤ _; have := HPR.out; omega
        have HMS : Hid (vs.length - (k + 1) < gk) := by have := HK.out; show _ < _; omega
        have HBS := Lib.hid hb2.size
        have HAB : Hid (∀ kk, A2.map (·.block) = some kk → w.heap.size ≤ kk) := fun kk hkk => by
          rcases ho2.form with ⟨rfl, _⟩ | ⟨g1, o1, rfl⟩
          · cases hkk
          · simp at hkk; subst hkk; exact ho2.lt.1
        clear ho2 hb2 hr2 hbA
        go_wp2_with (at_builtin; refine wpList_append_q rfl (.tmp 67) (.tmp 70) 23 rfl w.heap.size 3 i1 (.int .i64 0) 1 8 Try.underlying23 hi1 hy0 hy1 hy2 rfl (by decide) A2 (([] : List Int).length + k) c2 (ints (([] : List Int) ++ pcs (vs.take k))) rfl HOW.out ⟨wr.heap.size + 1, 0, none⟩ 1 1 (ints [ypc]) rfl rfl (lit_intC HLT.out) (ints_oneI _) HM1.out HM2.out HBW.out.size (by decide) ?_; intro g9 o9 d9 w9 j1 j2 j3; have H9 := Lib.hid (And.intro j1 (And.intro (HBW.out.grown j2 HBW.out.size HAB.out) (rowS_grown (o := o9) HRW.out j2 j3))); clear j1 j2 j3)
        go_roundg (vs.length - (k + 1))
        case measure => exact HMS.out
        case rel => exact ⟨k + 1, some ⟨g9, o9, none⟩, d9, rfl, hlt, by go_num, by first | rfl | (simp; done) | (simp; omega), by have := H9.out.1; rw [← Nat.add_assoc, ← HTK.out]; simpa [ints] using this, H9.out.2.1, H9.out.2.2⟩
      · obtain rfl : k = vs.length := by omega
        rw [List.take_length] at ho2
        have hnl : decide (vs.length < l.length) = false := by have := HLL.out; simp; omega
        have hnl' : decide ((vs.length : Int) < (l.length : Int)) = false := by have := HLL.out; simp; omega
        have hle : (([] : List Int) ++ pcs vs).length = ([] : List Int).length + vs.length := by simp [pcs, Nat.add_comm]
        clear HK
        go_wp2_with fail
        go_ret
        rw [← hle]
        exact ⟨_, _, rfl, by rw [← hle] at ho2; exact ho2, hb2⟩
  have e11 : (op == 11) = false := by simp [h11]
  by_cases h16 : op = 16
  case neg =>
    have e16 : (op == 16) = false := by simp [h16]
    rw [show nextT ⟨op, a, b, c, A, cap, args⟩ t = [t + 1] by simp [nextT, h3, h4, h27, h15, h17, h18, h25, h11, h16]]
    clear hok h3 h4 h27 h15 h17 h18 h25 h11 h16
    go_enter Try.func19, Try.ntmps19
    go_wp2_with fail
    go_ret
    exact isRow_lit w (.cells #[.int .i64 op, .int .i64 a, .int .i64 b, .int .i64 c, .slice A args.length cap] 33) [t + 1]
  subst h16
  clear h3 h4 h27 h15 h17 h18 h25 h11 e3 e4 e27 e15 e17 e18 e25 e11
  rcases args with _ | ⟨y, ys⟩
  · rw [show nextT ⟨16, a, b, c, A, cap, []⟩ t = [] ++ pcs (armsT X) by rw [hX.out]; simp [nextT, pre16]]

    have hbI := (Below.refl w.heap.size w).alloc (Nat.le_refl _) (.cells #[.int .i64 16, .int .i64 a, .int .i64 b, .int .i64 c, .slice A (([] : List Int)).length cap] 33)
    have HA := Lib.hid (fun w1 (hw : InOk w1 B ⟨16, a, b, c, A, cap, ([] : List Int)⟩) => arms_any ⟨16, a, b, c, A, cap, ([] : List Int)⟩ B w1 hw)
    rw [show armsT ⟨16, a, b, c, A, cap, ([] : List Int)⟩ = armsT X by rw [hX.out]] at HA
    have HOKI := Lib.hid (hok.below hbI)
    have hsm := armsT_small X HLA.out
    obtain ⟨vs, hvs⟩ : ∃ vs, Hid (armsT X = vs) := ⟨_, rfl⟩
    rw [hvs.out] at HA hsm ⊢
    have HPR : Hid (([] : List Int).length + vs.length ≤ 1048577) := by show _ ≤ _; have := hsm.1; simp; omega
    unfold inV at HA
    simp only at HA
    have HBI := Lib.hid hbI

    clear hok hbI hsm
    go_enter Try.func19, Try.ntmps19
    go_wp2_with fail
    have HB0 := HBI
    have HOUT := Lib.hid (OwnAt.nil (w := w.alloc (.cells #[.int .i64 16, .int .i64 a, .int .i64 b, .int .i64 c, .slice A (([] : List Int)).length cap] 33)) (base := w.heap.size) (e := 3) (size := 1))
    have HOB : Hid (∀ b', (none : Option Addr).map (·.block) = some b' → b' < (w.alloc (.cells #[.int .i64 16, .int .i64 a, .int .i64 b, .int .i64 c, .slice A (([] : List Int)).length cap] 33)).heap.size) := fun b' h => by cases h
    refine (HA.out _ HOKI.out).mono ?_

    rintro e w2 ⟨v2, rfl, A1, c1, l, rfl, ha, hb2, hblk, -⟩
    have HB1 := Lib.hid (HB0.out.trans (hb2.mono HB0.out.size))
    have HO1 := Lib.hid (HOUT.out.below hb2)
    have HR1 := Lib.hid (rowS_of ha.2.1 (fun b hb => (fun e => by have h1 := hblk b hb; have h2 := HOB.out b e; omega)) (A2 := none) )
    have HPC := Lib.hid (fun k (hk : k < l.length) => (ha.2.2 k hk).1)
    have HLL := Lib.hid ha.1
    clear ha hb2 hblk

    go_wp2_with fail
    go_loopg [63, 5] vs.length (fun gk i q wr => ∃ (k : Nat) (A2 : Option Addr) (c2 : Nat), gk = vs.length - k ∧ k ≤ vs.length ∧ i = .int .i64 k ∧ q = .slice A2 (([] : List Int).length + k) c2 ∧ OwnAt wr w.heap.size 3 1 A2 (([] : List Int).length + k) c2 (ints (([] : List Int) ++ pcs (vs.take k))) ∧ Below w.heap.size w wr ∧ RowS wr (fun b => A2.map (·.block) ≠ some b) A1 (flat arC l))
    case atStart => exact ⟨0, _, _, rfl, Nat.zero_le _, rfl, rfl, by simpa [pcs, ints] using HO1.out, HB1.out, HR1.out⟩
    case round =>
      obtain ⟨k, A2, c2, hgk, hk, rfl, rfl, ho2, hb2, hr2⟩ := hrel
      have HK := Lib.hid hgk
      clear hgk
      by_cases hlt : k < vs.length
      · have hkl : k < l.length := by have := HLL.out; omega
        have hkb : k ≤ 1048577 := by have := HPR.out; simp at this; omega
        obtain ⟨bb, oo, rfl, hbl, z0, z1⟩ := Row.ar hr2.all hkl arc0
        have hpc := HPC.out k hkl
        have HTK := Lib.hid (pcs_take [] vs hlt)
        generalize l.getD k arc0 = y at *
        generalize (vs.getD k arv0).1 = pc at *
        obtain ⟨ypc, yA, yl, yc⟩ := y
        simp only at hpc z0 z1
        subst hpc
        have hbA : Below wr.heap.size wr ((wr.alloc (.cells #[.int .i64 ypc, .slice yA yl yc] 60)).alloc (.cells #[.int .i64 ypc] 3)) := ((Below.refl _ _).alloc (Nat.le_refl _) _).alloc (by simp) _
        have HOW := Lib.hid (ho2.below hbA)
        have HRW := Lib.hid (rowS_below hr2 hbA)
        have HBW := Lib.hid (hb2.trans (hbA.mono hb2.size))
        have HLT : Hid (((wr.alloc (.cells #[.int .i64 ypc, .slice yA yl yc] 60)).alloc (.cells #[.int .i64 ypc] 3)).cell? ⟨wr.heap.size + 1, 0, none⟩ = some (.int .i64 ypc)) := by
          have h := (Box.new (wr.alloc (.cells #[.int .i64 ypc, .slice yA yl yc] 60)) 3 #[.int .i64 ypc]).cell 0
          rw [show (wr.alloc (.cells #[.int .i64 ypc, .slice yA yl yc] 60)).heap.size = wr.heap.size + 1 by simp] at h
          exact h
        have HM1 : Hid (([] : List Int).length + k + 1 ≤ maxLen) := by show _ ≤ _; have := HPR.out; unfold maxLen; omega
        have HM2 : Hid ((([] : List Int).length + k + 1) * 8 ≤ 140737488355328) := by show _ ≤ _; have := HPR.out; omega
        have HMS : Hid (vs.length - (k + 1) < gk) := by have := HK.out; show _ < _; omega
        have HBS := Lib.hid hb2.size
        have HAB : Hid (∀ kk, A2.map (·.block) = some kk → w.heap.size ≤ kk) := fun kk hkk => by
          rcases ho2.form with ⟨rfl, _⟩ | ⟨g1, o1, rfl⟩
          · cases hkk
          · simp at hkk; subst hkk; exact ho2.lt.1
        clear ho2 hb2 hr2 hbA
        go_wp2_with (at_builtin; refine wpList_append_q rfl (.tmp 67) (.tmp 70) 23 rfl w.heap.size 3 i1 (.int .i64 0) 1 8 Try.underlying23 hi1 hy0 hy1 hy2 rfl (by decide) A2 (([] : List Int).length + k) c2 (ints (([] : List Int) ++ pcs (vs.take k))) rfl HOW.out ⟨wr.heap.size + 1, 0, none⟩ 1 1 (ints [ypc]) rfl rfl (lit_intC HLT.out) (ints_oneI _) HM1.out HM2.out HBW.out.size (by decide) ?_; intro g9 o9 d9 w9 j1 j2 j3; have H9 := Lib.hid (And.intro j1 (And.intro (HBW.out.grown j2 HBW.out.size HAB.out) (rowS_grown (o := o9) HRW.out j2 j3))); clear j1 j2 j3)
        go_roundg (vs.length - (k + 1))
        case measure => exact HMS.out
        case rel => exact ⟨k + 1, some ⟨g9, o9, none⟩, d9, rfl, hlt, by go_num, by first | rfl | (simp; done) | (simp; omega), by have := H9.out.1; rw [← Nat.add_assoc, ← HTK.out]; simpa [ints] using this, H9.out.2.1, H9.out.2.2⟩
      · obtain rfl : k = vs.length := by omega
        rw [List.take_length] at ho2
        have hnl : decide (vs.length < l.length) = false := by have := HLL.out; simp; omega
        have hnl' : decide ((vs.length : Int) < (l.length : Int)) = false := by have := HLL.out; simp; omega
        have hle : (([] : List Int) ++ pcs vs).length = ([] : List Int).length + vs.length := by simp [pcs, Nat.add_comm]
        clear HK
        go_wp2_with fail
        go_ret
        rw [← hle]
        exact ⟨_, _, rfl, by rw [← hle] at ho2; exact ho2, hb2⟩
  have Q0 : ∃ b1 o1, A = some ⟨b1, o1, none⟩ ∧ w.cell? ⟨b1, o1, none⟩ = some (.int .i64 y) := by
    obtain ⟨b1, o1, hAe, _, hc1⟩ := hok.row (by simp [ints])
    exact ⟨b1, o1, hAe, by simpa using hc1 0 (.int .i64 y) rfl⟩
  obtain ⟨b1, o1, rfl, Q0⟩ := Q0
  have Q0 := Lib.hid Q0
  by_cases hy : y < 0
  · have hyp : ¬ 0 ≤ y := by omega
    have dy : decide (0 ≤ y) = false := by simp [hyp]
    rw [show nextT ⟨16, a, b, c, (some ⟨b1, o1, none⟩), cap, y :: ys⟩ t = [] ++ pcs (armsT X) by rw [hX.out]; simp [nextT, pre16, hyp]]

    have hbI := (Below.refl w.heap.size w).alloc (Nat.le_refl _) (.cells #[.int .i64 16, .int .i64 a, .int .i64 b, .int .i64 c, .slice (some ⟨b1, o1, none⟩) ((y :: ys)).length cap] 33)
    have HA := Lib.hid (fun w1 (hw : InOk w1 B ⟨16, a, b, c, (some ⟨b1, o1, none⟩), cap, (y :: ys)⟩) => arms_any ⟨16, a, b, c, (some ⟨b1, o1, none⟩), cap, (y :: ys)⟩ B w1 hw)
    rw [show armsT ⟨16, a, b, c, (some ⟨b1, o1, none⟩), cap, (y :: ys)⟩ = armsT X by rw [hX.out]] at HA
    have HOKI := Lib.hid (hok.below hbI)
    have hsm := armsT_small X HLA.out
    obtain ⟨vs, hvs⟩ : ∃ vs, Hid (armsT X = vs) := ⟨_, rfl⟩
    rw [hvs.out] at HA hsm ⊢
    have HPR : Hid (([] : List Int).length + vs.length ≤ 1048577) := by show _ ≤ _; have := hsm.1; simp; omega
    unfold inV at HA
    simp only at HA
    have HBI := Lib.hid hbI
    have q0 := (hbI.cell (p := ⟨b1, o1, none⟩) (lt_of_cell Q0.out)).trans Q0.out
    simp only [List.length_cons] at q0
    have HOKW := Lib.hid hok
    have hlt0 : 0 < (y :: ys).length := by simp
    have hlt1 : decide (0 < (y :: ys).length) = true := by simp
    have hlt2 : decide ((0 : Int) < ((y :: ys).length : Int)) = true := by simp
    clear hok hbI hsm
    go_enter Try.func19, Try.ntmps19
    go_wp2_with fail
    have HB0 := HBI
    have HOUT := Lib.hid (OwnAt.nil (w := w.alloc (.cells #[.int .i64 16, .int .i64 a, .int .i64 b, .int .i64 c, .slice (some ⟨b1, o1, none⟩) ((y :: ys)).length cap] 33)) (base := w.heap.size) (e := 3) (size := 1))
    have HOB : Hid (∀ b', (none : Option Addr).map (·.block) = some b' → b' < (w.alloc (.cells #[.int .i64 16, .int .i64 a, .int .i64 b, .int .i64 c, .slice (some ⟨b1, o1, none⟩) ((y :: ys)).length cap] 33)).heap.size) := fun b' h => by cases h
    refine (HA.out _ HOKI.out).mono ?_

    rintro e w2 ⟨v2, rfl, A1, c1, l, rfl, ha, hb2, hblk, -⟩
    have HB1 := Lib.hid (HB0.out.trans (hb2.mono HB0.out.size))
    have HO1 := Lib.hid (HOUT.out.below hb2)
    have HR1 := Lib.hid (rowS_of ha.2.1 (fun b hb => (fun e => by have h1 := hblk b hb; have h2 := HOB.out b e; omega)) (A2 := none) )
    have HPC := Lib.hid (fun k (hk : k < l.length) => (ha.2.2 k hk).1)
    have HLL := Lib.hid ha.1
    clear ha hb2 hblk

    go_wp2_with fail
    go_loopg [63, 5] vs.length (fun gk i q wr => ∃ (k : Nat) (A2 : Option Addr) (c2 : Nat), gk = vs.length - k ∧ k ≤ vs.length ∧ i = .int .i64 k ∧ q = .slice A2 (([] : List Int).length + k) c2 ∧ OwnAt wr w.heap.size 3 1 A2 (([] : List Int).length + k) c2 (ints (([] : List Int) ++ pcs (vs.take k))) ∧ Below w.heap.size w wr ∧ RowS wr (fun b => A2.map (·.block) ≠ some b) A1 (flat arC l))
    case atStart => exact ⟨0, _, _, rfl, Nat.zero_le _, rfl, rfl, by simpa [pcs, ints] using HO1.out, HB1.out, HR1.out⟩
    case round =>
      obtain ⟨k, A2, c2, hgk, hk, rfl, rfl, ho2, hb2, hr2⟩ := hrel
      have HK := Lib.hid hgk
      clear hgk
      by_cases hlt : k < vs.length
      · have hkl : k < l.length := by have := HLL.out; omega
        have hkb : k ≤ 1048577 := by have := HPR.out; simp at this; omega
        obtain ⟨bb, oo, rfl, hbl, z0, z1⟩ := Row.ar hr2.all hkl arc0
        have hpc := HPC.out k hkl
        have HTK := Lib.hid (pcs_take [] vs hlt)
        generalize l.getD k arc0 = y at *
        generalize (vs.getD k arv0).1 = pc at *
        obtain ⟨ypc, yA, yl, yc⟩ := y
        simp only at hpc z0 z1
        subst hpc
        have hbA : Below wr.heap.size wr ((wr.alloc (.cells #[.int .i64 ypc, .slice yA yl yc] 60)).alloc (.cells #[.int .i64 ypc] 3)) := ((Below.refl _ _).alloc (Nat.le_refl _) _).alloc (by simp) _
        have HOW := Lib.hid (ho2.below hbA)
        have HRW := Lib.hid (rowS_below hr2 hbA)
        have HBW := Lib.hid (hb2.trans (hbA.mono hb2.size))
        have HLT : Hid (((wr.alloc (.cells #[.int .i64 ypc, .slice yA yl yc] 60)).alloc (.cells #[.int .i64 ypc] 3)).cell? ⟨wr.heap.size + 1, 0, none⟩ = some (.int .i64 ypc)) := by
          have h := (Box.new (wr.alloc (.cells #[.int .i64 ypc, .slice yA yl yc] 60)) 3 #[.int .i64 ypc]).cell 0
          rw [show (wr.alloc (.cells #[.int .i64 ypc, .slice yA yl yc] 60)).heap.size = wr.heap.size + 1 by simp] at h
          exact h
        have HM1 : Hid (([] : List Int).length + k + 1 ≤ maxLen) := by show _ ≤ _; have := HPR.out; unfold maxLen; omega
        have HM2 : Hid ((([] : List Int).length + k + 1) * 8 ≤ 140737488355328) := by show _ ≤ _; have := HPR.out; omega
        have HMS : Hid (vs.length - (k + 1) < gk) := by have := HK.out; show _ < _; omega
        have HBS := Lib.hid hb2.size
        have HAB : Hid (∀ kk, A2.map (·.block) = some kk → w.heap.size ≤ kk) := fun kk hkk => by
          rcases ho2.form with ⟨rfl, _⟩ | ⟨g1, o1, rfl⟩
          · cases hkk
          · simp at hkk; subst hkk; exact ho2.lt.1
        clear ho2 hb2 hr2 hbA
        go_wp2_with (at_builtin; refine wpList_append_q rfl (.tmp 67) (.tmp 70) 23 rfl w.heap.size 3 i1 (.int .i64 0) 1 8 Try.underlying23 hi1 hy0 hy1 hy2 rfl (by decide) A2 (([] : List Int).length + k) c2 (ints (([] : List Int) ++ pcs (vs.take k))) rfl HOW.out ⟨wr.heap.size + 1, 0, none⟩ 1 1 (ints [ypc]) rfl rfl (lit_intC HLT.out) (ints_oneI _) HM1.out HM2.out HBW.out.size (by decide) ?_; intro g9 o9 d9 w9 j1 j2 j3; have H9 := Lib.hid (And.intro j1 (And.intro (HBW.out.grown j2 HBW.out.size HAB.out) (rowS_grown (o := o9) HRW.out j2 j3))); clear j1 j2 j3)
        go_roundg (vs.length - (k + 1))
        case measure => exact HMS.out
        case rel => exact ⟨k + 1, some ⟨g9, o9, none⟩, d9, rfl, hlt, by go_num, by first | rfl | (simp; done) | (simp; omega), by have := H9.out.1; rw [← Nat.add_assoc, ← HTK.out]; simpa [ints] using this, H9.out.2.1, H9.out.2.2⟩
      · obtain rfl : k = vs.length := by omega
        rw [List.take_length] at ho2
        have hnl : decide (vs.length < l.length) = false := by have := HLL.out; simp; omega
        have hnl' : decide ((vs.length : Int) < (l.length : Int)) = false := by have := HLL.out; simp; omega
        have hle : (([] : List Int) ++ pcs vs).length = ([] : List Int).length + vs.length := by simp [pcs, Nat.add_comm]
        clear HK
        go_wp2_with fail
        go_ret
        rw [← hle]
        exact ⟨_, _, rfl, by rw [← hle] at ho2; exact ho2, hb2⟩
  · have hyp : 0 ≤ y := by omega
    have dy : decide (0 ≤ y) = true := by simp [hyp]
    rw [show nextT ⟨16, a, b, c, (some ⟨b1, o1, none⟩), cap, y :: ys⟩ t = [y] ++ pcs (armsT X) by rw [hX.out]; simp [nextT, pre16, hyp]]

    have hbI := (Below.refl w.heap.size w).alloc (Nat.le_refl _) (.cells #[.int .i64 16, .int .i64 a, .int .i64 b, .int .i64 c, .slice (some ⟨b1, o1, none⟩) ((y :: ys)).length cap] 33)
    have HA := Lib.hid (fun w1 (hw : InOk w1 B ⟨16, a, b, c, (some ⟨b1, o1, none⟩), cap, (y :: ys)⟩) => arms_any ⟨16, a, b, c, (some ⟨b1, o1, none⟩), cap, (y :: ys)⟩ B w1 hw)
    rw [show armsT ⟨16, a, b, c, (some ⟨b1, o1, none⟩), cap, (y :: ys)⟩ = armsT X by rw [hX.out]] at HA
    have HOKI := Lib.hid (hok.below hbI)
    have hsm := armsT_small X HLA.out
    obtain ⟨vs, hvs⟩ : ∃ vs, Hid (armsT X = vs) := ⟨_, rfl⟩
    rw [hvs.out] at HA hsm ⊢
    have HPR : Hid (([y] : List Int).length + vs.length ≤ 1048577) := by show _ ≤ _; have := hsm.1; simp; omega
    unfold inV at HA
    simp only at HA
    have HBI := Lib.hid hbI
    have q0 := (hbI.cell (p := ⟨b1, o1, none⟩) (lt_of_cell Q0.out)).trans Q0.out
    simp only [List.length_cons] at q0
    have HOKW := Lib.hid hok
    have hlt0 : 0 < (y :: ys).length := by simp
    have hlt1 : decide (0 < (y :: ys).length) = true := by simp
    have hlt2 : decide ((0 : Int) < ((y :: ys).length : Int)) = true := by simp
    clear hok hbI hsm
    have HLT0 : Hid (((w.alloc (.cells #[.int .i64 16, .int .i64 a, .int .i64 b, .int .i64 c, .slice (some ⟨b1, o1, none⟩) ((y :: ys)).length cap] 33)).alloc (.cells #[.int .i64 y] 3)).cell? ⟨w.heap.size + 1, 0, none⟩ = some (.int .i64 y)) := by
      have h := (Box.new (w.alloc (.cells #[.int .i64 16, .int .i64 a, .int .i64 b, .int .i64 c, .slice (some ⟨b1, o1, none⟩) ((y :: ys)).length cap] 33)) 3 #[.int .i64 y]).cell 0
      rw [show (w.alloc (.cells #[.int .i64 16, .int .i64 a, .int .i64 b, .int .i64 c, .slice (some ⟨b1, o1, none⟩) ((y :: ys)).length cap] 33)).heap.size = w.heap.size + 1 by simp] at h
      exact h
    have HBX : Hid (Box ((w.alloc (.cells #[.int .i64 16, .int .i64 a, .int .i64 b, .int .i64 c, .slice (some ⟨b1, o1, none⟩) ((y :: ys)).length cap] 33)).alloc (.cells #[.int .i64 y] 3)) w.heap.size 33 #[.int .i64 16, .int .i64 a, .int .i64 b, .int .i64 c, .slice (some ⟨b1, o1, none⟩) (ys.length + 1) cap]) := (Box.new w 33 #[.int .i64 16, .int .i64 a, .int .i64 b, .int .i64 c, .slice (some ⟨b1, o1, none⟩) (ys.length + 1) cap]).alloc _
    have HBL : Hid (Below w.heap.size w ((w.alloc (.cells #[.int .i64 16, .int .i64 a, .int .i64 b, .int .i64 c, .slice (some ⟨b1, o1, none⟩) ((y :: ys)).length cap] 33)).alloc (.cells #[.int .i64 y] 3))) := HBI.out.alloc HBI.out.size _
    go_enter Try.func19, Try.ntmps19
    go_wp2_with (at_builtin; refine wpList_append_q rfl (.tmp 53) (.tmp 58) 23 rfl w.heap.size 3 i1 (.int .i64 0) 1 8 Try.underlying23 hi1 hy0 hy1 hy2 rfl (by decide) none 0 0 [] rfl OwnAt.nil ⟨w.heap.size + 1, 0, none⟩ 1 1 (ints [y]) rfl rfl (lit_intC HLT0.out) (ints_oneI _) (by unfold maxLen; decide) (by decide) HBL.out.size (by decide) ?_; intro g0 o0 d0 w3 j1 j2 j3; have HB0 := Lib.hid (HBL.out.grown j2 HBL.out.size (fun kk hkk => by cases hkk)); have hbx := HBX.out.grown j2 (by simp); have n0 := (show w3.cell? ⟨w.heap.size, 0, none⟩ = some (.int .i64 16) from hbx.cell 0); have n1 := (show w3.cell? ⟨w.heap.size, 1, none⟩ = some (.int .i64 a) from hbx.cell 1); have n2 := (show w3.cell? ⟨w.heap.size, 2, none⟩ = some (.int .i64 b) from hbx.cell 2); have n3 := (show w3.cell? ⟨w.heap.size, 3, none⟩ = some (.int .i64 c) from hbx.cell 3); have n4 := (show w3.cell? ⟨w.heap.size, 4, none⟩ = some (.slice (some ⟨b1, o1, none⟩) (ys.length + 1) cap) from hbx.cell 4); have HOUT := Lib.hid (show OwnAt w3 w.heap.size 3 1 (some ⟨g0, o0, none⟩) 1 d0 (ints [y]) from j1); clear j1 j2 j3)
    have HOB : Hid (∀ b', (some (⟨g0, o0, none⟩ : Addr)).map (·.block) = some b' → b' < w3.heap.size) := fun b' h => by simp at h; subst h; exact HOUT.out.lt.2
    refine (HA.out _ (HOKW.out.below HB0.out)).mono ?_

    rintro e w2 ⟨v2, rfl, A1, c1, l, rfl, ha, hb2, hblk, -⟩
    have HB1 := Lib.hid (HB0.out.trans (hb2.mono HB0.out.size))
    have HO1 := Lib.hid (HOUT.out.below hb2)
    have HR1 := Lib.hid (rowS_of ha.2.1 (fun b hb => (fun e => by have h1 := hblk b hb; have h2 := HOB.out b e; omega)) (A2 := some ⟨g0, o0, none⟩) )
    have HPC := Lib.hid (fun k (hk : k < l.length) => (ha.2.2 k hk).1)
    have HLL := Lib.hid ha.1
    clear ha hb2 hblk

    go_wp2_with fail
    go_loopg [63, 5] vs.length (fun gk i q wr => ∃ (k : Nat) (A2 : Option Addr) (c2 : Nat), gk = vs.length - k ∧ k ≤ vs.length ∧ i = .int .i64 k ∧ q = .slice A2 (([y] : List Int).length + k) c2 ∧ OwnAt wr w.heap.size 3 1 A2 (([y] : List Int).length + k) c2 (ints (([y] : List Int) ++ pcs (vs.take k))) ∧ Below w.heap.size w wr ∧ RowS wr (fun b => A2.map (·.block) ≠ some b) A1 (flat arC l))
    case atStart => exact ⟨0, _, _, rfl, Nat.zero_le _, rfl, rfl, by simpa [pcs, ints] using HO1.out, HB1.out, HR1.out⟩
    case round =>
      obtain ⟨k, A2, c2, hgk, hk, rfl, rfl, ho2, hb2, hr2⟩ := hrel
      have HK := Lib.hid hgk
      clear hgk
      by_cases hlt : k < vs.length
      · have hkl : k < l.length := by have := HLL.out; omega
        have hkb : k ≤ 1048577 := by have := HPR.out; simp at this; omega
        obtain ⟨bb, oo, rfl, hbl, z0, z1⟩ := Row.ar hr2.all hkl arc0
        have hpc := HPC.out k hkl
        have HTK := Lib.hid (pcs_take [y] vs hlt)
        generalize l.getD k arc0 = y at *
        generalize (vs.getD k arv0).1 = pc at *
        obtain ⟨ypc, yA, yl, yc⟩ := y
        simp only at hpc z0 z1
        subst hpc
        have hbA : Below wr.heap.size wr ((wr.alloc (.cells #[.int .i64 ypc, .slice yA yl yc] 60)).alloc (.cells #[.int .i64 ypc] 3)) := ((Below.refl _ _).alloc (Nat.le_refl _) _).alloc (by simp) _
        have HOW := Lib.hid (ho2.below hbA)
        have HRW := Lib.hid (rowS_below hr2 hbA)
        have HBW := Lib.hid (hb2.trans (hbA.mono hb2.size))
        have HLT : Hid (((wr.alloc (.cells #[.int .i64 ypc, .slice yA yl yc] 60)).alloc (.cells #[.int .i64 ypc] 3)).cell? ⟨wr.heap.size + 1, 0, none⟩ = some (.int .i64 ypc)) := by
          have h := (Box.new (wr.alloc (.cells #[.int .i64 ypc, .slice yA yl yc] 60)) 3 #[.int .i64 ypc]).cell 0
          rw [show (wr.alloc (.cells #[.int .i64 ypc, .slice yA yl yc] 60)).heap.size = wr.heap.size + 1 by simp] at h
          exact h
        have HM1 : Hid (([y] : List Int).length + k + 1 ≤ maxLen) := by show _ ≤ _; have := HPR.out; unfold maxLen; omega
        have HM2 : Hid ((([y] : List Int).length + k + 1) * 8 ≤ 140737488355328) := by show _ ≤ _; have := HPR.out; omega
        have HMS : Hid (vs.length - (k + 1) < gk) := by have := HK.out; show _ < _; omega
        have HBS := Lib.hid hb2.size
        have HAB : Hid (∀ kk, A2.map (·.block) = some kk → w.heap.size ≤ kk) := fun kk hkk => by
          rcases ho2.form with ⟨rfl, _⟩ | ⟨g1, o1, rfl⟩
          · cases hkk
          · simp at hkk; subst hkk; exact ho2.lt.1
        clear ho2 hb2 hr2 hbA
        go_wp2_with (at_builtin; refine wpList_append_q rfl (.tmp 67) (.tmp 70) 23 rfl w.heap.size 3 i1 (.int .i64 0) 1 8 Try.underlying23 hi1 hy0 hy1 hy2 rfl (by decide) A2 (([y] : List Int).length + k) c2 (ints (([y] : List Int) ++ pcs (vs.take k))) rfl HOW.out ⟨wr.heap.size + 1, 0, none⟩ 1 1 (ints [ypc]) rfl rfl (lit_intC HLT.out) (ints_oneI _) HM1.out HM2.out HBW.out.size (by decide) ?_; intro g9 o9 d9 w9 j1 j2 j3; have H9 := Lib.hid (And.intro j1 (And.intro (HBW.out.grown j2 HBW.out.size HAB.out) (rowS_grown (o := o9) HRW.out j2 j3))); clear j1 j2 j3)
        go_roundg (vs.length - (k + 1))
        case measure => exact HMS.out
        case rel => exact ⟨k + 1, some ⟨g9, o9, none⟩, d9, rfl, hlt, by go_num, by first | rfl | (simp; done) | (simp; omega), by have := H9.out.1; rw [← Nat.add_assoc, ← HTK.out]; simpa [ints] using this, H9.out.2.1, H9.out.2.2⟩
      · obtain rfl : k = vs.length := by omega
        rw [List.take_length] at ho2
        have hnl : decide (vs.length < l.length) = false := by have := HLL.out; simp; omega
        have hnl' : decide ((vs.length : Int) < (l.length : Int)) = false := by have := HLL.out; simp; omega
        have hle : (([y] : List Int) ++ pcs vs).length = ([y] : List Int).length + vs.length := by simp [pcs, Nat.add_comm]
        clear HK
        go_wp2_with fail
        go_ret
        rw [← hle]
        exact ⟨_, _, rfl, by rw [← hle] at ho2; exact ho2, hb2⟩
end Go.Proofs.Ythglcnodoophaaa
