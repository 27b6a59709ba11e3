
/-
  roadref3.SameValues; roadlaw3.pattern and the law's closures.
-/
import Derived.Test.YtdjahlkjfpbifaaBox4
import Derived.Test.YtdjahlkjfpbifaaPkAny
namespace Go.Proofs.Ytdjahlkjfpbifaa
open Go.RowKit

set_option maxRecDepth 100000 in
set_option maxHeartbeats 1000000 in
theorem same_vals (n : Nat) (A1 A2 : Option Addr) (c1 c2 n1 n2 : Nat) (l1 l2 : List VC) (a b : List Val) (w : World) (S S' : Nat → Prop) (hn1 : l1.length = n1) (hn2 : l2.length = n2) (hx : valRow w S n A1 c1 l1 a) (hy : valRow w S' n A2 c2 l2 b) :
    Calls Try.prog 18 #[.slice A1 n1 c1, .slice A2 n2 c2] w fun e w' => SameQ a b w e w' := by
  subst hn1 hn2
  have hx := hx.lt
  have hy := hy.lt
  have HR1 := Lib.hid hx
  have HR2 := Lib.hid hy
  have hcm1 := hx.2.2.2.2.1
  have hlc1 := hx.2.2.2.1
  have HL1 := Lib.hid hx.1
  have HL2 := Lib.hid hy.1
  unfold maxLen at hcm1
  clear hx hy
  by_cases hl : l1.length = l2.length
  · have HL := Lib.hid hl
    have bl1 : ((l1.length : Int) != (l2.length : Int)) = false := by simp; omega
    have bl2 : (l1.length != l2.length) = false := by simp; omega
    have hle1 : l1.length ≤ l2.length := by omega
    have hle2 : l2.length ≤ l1.length := by omega
    clear hl
    go_enter Try.func18, Try.ntmps18
    go_wp2_with fail
    go_loopg [13] l1.length (fun gk i wr => ∃ k : Nat, gk = l1.length - k ∧ k ≤ l1.length ∧ i = .int .i64 k ∧ sameTo val0 a b k ∧ Below w.heap.size w wr)
    case atStart => exact ⟨0, by omega, by omega, rfl, fun i hi => by omega, Below.refl _ _⟩
    case round =>
      obtain ⟨k, hgk, hk, rfl, hsame, hb⟩ := hrel
      have HG := Lib.hid hgk
      have HS := Lib.hid hsame
      clear hgk hsame
      by_cases hlt : k < l1.length
      · have hrw1 := HR1.out.below hb (fun b h => h.2)
        have hrw2 := HR2.out.below hb (fun b h => h.2)
        have HV1 := Lib.hid (hrw1.2.2.1 k hlt)
        have HV2 := Lib.hid (hrw2.2.2.1 k (by omega))
        have HST := Lib.hid (same_step a b k HS.out)
        obtain ⟨p1, o1, rfl, _, hc0, hc1, hc2, hc3⟩ := hrw1.2.1.all.val hlt vc0
        obtain ⟨p2, o2, rfl, _, hd0, hd1, hd2, hd3⟩ := hrw2.2.1.all.val (show k < l2.length by omega) vc0
        clear hrw1 hrw2
        generalize l1.getD k vc0 = x at *
        generalize l2.getD k vc0 = y at *
        generalize a.getD k val0 = u at *
        generalize b.getD k val0 = v at *
        have hlt2 : (k : Int) < (l2.length : Int) := by omega
        have hlt3 : k < l2.length := by omega
        have HT := Lib.hid (same_val n x y u v wr.drew _ _ HV1.out.drew HV2.out.drew)
        unfold SameQ valV at HT
        clear HV1 HV2
        go_wp2_with fail
        go_region_law ((go_simp; go_at_call 78; refine HT.out.mono ?_; rintro e w2 ⟨q, rfl, hq, hb2⟩))
        all_goals (
          have hb2' : Below wr.heap.size wr w2 := (below_drewN (Below.refl _ _) 1).trans hb2
          have HW2 := Lib.hid (hb.trans (hb2'.mono hb.size))
          simp only [List.getElem_toArray, List.getElem_cons_succ, List.getElem_cons_zero]
          go_frame
          have HQ := Lib.hid hq
          clear HT hb2 hb2' hq
          cases q
          · go_wp2_with fail
            go_ret
            exact ⟨false, rfl, ⟨fun e => by simp at e, fun e => absurd e (HST.out.2 fun e => by simpa using HQ.out.2 e)⟩, HW2.out⟩
          · go_wp2_with fail
            go_roundg (l1.length - (k + 1))
            case measure => have := HG.out; omega
            case rel => exact ⟨k + 1, rfl, by omega, by go_num, HST.out.1 (HQ.out.1 (by simp)), HW2.out⟩)
      · obtain rfl : k = l1.length := by omega
        go_wp2_with fail
        go_ret
        exact ⟨true, rfl, by simpa using eq_of_sameTo (by rw [← HL1.out, ← HL2.out, HL.out]) (by rw [← HL1.out]; exact HS.out), hb⟩
  · have bl1 : ((l1.length : Int) != (l2.length : Int)) = true := by simp; omega
    have bl2 : (l1.length != l2.length) = true := by simp; omega
    have HN := Lib.hid (show a ≠ b from fun h => hl (by rw [HL1.out, HL2.out, h]))
    clear hl
    go_enter Try.func18, Try.ntmps18
    go_wp2_with fail
    go_ret
    exact ⟨false, rfl, by simpa using HN.out, Below.refl _ _⟩

theorem enters_pattern1 : Enters 75 := fun _ _ => by kernel_rfl
theorem enters_pick1 : Enters 12 := fun _ _ => by kernel_rfl
theorem enters_pick2 : Enters 15 := fun _ _ => by kernel_rfl
/-- May a pattern be gone through: some answer. -/
def PatternAt (n : Nat) : Prop := ∀ (x : VC) (p : Val) (d : Int) (w : World) (S : Nat → Prop), VIn w S n x p → I64 d → Calls Try.prog 13 #[valV x, .int .i64 d] w fun e w' => SomeB e ∧ Below w.heap.size w w'

set_option maxRecDepth 100000 in
theorem pattern1_any (n : Nat) (ih : PatternAt n) (x : VC) (p : Val) (d : Int) (g : Nat) (w : World) (S : Nat → Prop) (hx : VIn w S n x p) (hd : I64 d) (h1 : 1 ≤ d) (hg : w.cell? ⟨g, 0, none⟩ = some (.int .i64 d)) (hgw : g < w.heap.size) :
    Calls Try.prog 75 #[valV x, .pointer (some ⟨g, 0, none⟩)] w fun e w' => SomeB e ∧ Below w.heap.size w w' := by
  have HB := Lib.hid (show ∀ o1, Below w.heap.size w (w.alloc o1) from fun _ => (Below.refl _ _).alloc (Nat.le_refl _) _)
  have hd' : I64 (d - 1) := by unfold I64 at *; omega
  have hwr : IntKind.i64.wrap (d - 1) = d - 1 := by unfold I64 at hd'; rw [IntKind.wrap_i64]; omega
  have HI := Lib.hid (fun o1 => ih x p (d - 1) (w.alloc o1) _ (hx.lt.below (HB.out o1) fun _ h => h.2) hd')
  clear hx hd hd' ih
  unfold valV at *
  go_enter Try.func75, Try.ntmps75
  go_wp2_with fail
  refine (HI.out _).mono ?_
  rintro e w1 ⟨⟨q, rfl⟩, hb⟩
  have HW := Lib.hid ((HB.out _).trans (hb.mono (HB.out _).size))
  clear hb HI HB
  go_wp2_with fail
  go_ret
  exact ⟨⟨_, rfl⟩, HW.out⟩

set_option maxRecDepth 100000 in
set_option maxHeartbeats 1000000 in
theorem pattern_any : ∀ n, PatternAt n
  | 0 => fun _ _ _ _ _ h => h.elim
  | n + 1 => by
    intro x p d w S hx hd
    have ih := pattern_any n
    have HB := Lib.hid (show ∀ o1 o2, Below w.heap.size w ((w.alloc o1).alloc o2) from fun _ _ => ((Below.refl _ _).alloc (Nat.le_refl _) _).alloc (by simp) _)
    obtain ⟨k, m, t, A, len, cap⟩ := x
    obtain ⟨l, rfl, hrow⟩ := row_of_VIn hx.lt
    have hcm := hrow.2.2.2.2.1
    have hlc := hrow.2.2.2.1
    have hml : l.length ≤ maxLen := by omega
    unfold maxLen at hcm
    have HROW := Lib.hid hrow
    have HIH := Lib.hid ih
    have HD := Lib.hid hd
    clear hx hrow ih hd
    unfold valV at *
    by_cases h1 : d < 1
    · go_enter Try.func13, Try.ntmps13
      go_wp2_with fail
      go_ret
      exact ⟨⟨_, rfl⟩, HB.out _ _⟩
    by_cases h2 : (20 : Int) < (l.length : Int)
    · go_enter Try.func13, Try.ntmps13
      go_wp2_with fail
      go_ret
      exact ⟨⟨_, rfl⟩, HB.out _ _⟩
    have h3 : ¬ 20 < l.length := by omega
    have HC := Lib.hid (fun o1 => containsSome_val A cap l 75 #[.pointer (some ⟨w.heap.size + 1, 0, none⟩)] w.heap.size (fun w1 => Below ((w.alloc o1).alloc (.cells #[.int .i64 d] 3)).heap.size ((w.alloc o1).alloc (.cells #[.int .i64 d] 3)) w1) ((w.alloc o1).alloc (.cells #[.int .i64 d] 3)) enters_pattern1 hml
      (fun w1 h1 => (HROW.out.2.1.keep (S' := (· < w.heap.size)) (fun q hq => ((HB.out o1 (.cells #[.int .i64 d] 3)).trans (h1.mono (HB.out _ _).size)).cell hq.2) fun b hb => hb.2).row)
      (fun k hk w1 h1' => by
        have hb1 := (HB.out o1 (.cells #[.int .i64 d] 3)).trans (h1'.mono (HB.out _ _).size)
        have hbx := Box.new (w.alloc o1) 3 #[.int .i64 d]
        have hgw : w.heap.size + 1 < ((w.alloc o1).alloc (.cells #[.int .i64 d] 3)).heap.size := by simp
        rw [show (w.alloc o1).heap.size = w.heap.size + 1 by simp] at hbx
        exact (pattern1_any n HIH.out (l.getD k vc0) (p.args.getD k val0) d (w.heap.size + 1) w1 _ ((HROW.out.2.2.1 k hk).below hb1 fun _ h => h.2) HD.out (by omega) ((hbx.below h1' hgw).cell 0) (Nat.lt_of_lt_of_le hgw h1'.size)).mono fun e w2 h2 => ⟨h2.1, h1'.trans (h2.2.mono h1'.size)⟩)
      (Below.refl _ _))
    go_enter Try.func13, Try.ntmps13
    go_wp2_with fail
    refine (HC.out _).mono ?_
    rintro e w1 ⟨⟨q, rfl⟩, hb⟩
    have HW := Lib.hid ((HB.out _ _).trans (hb.mono (HB.out _ _).size))
    clear hb HC HB
    go_wp2_with fail
    go_ret
    exact ⟨⟨_, rfl⟩, HW.out⟩

set_option maxRecDepth 100000 in
theorem pick1_any (n : Nat) (x : VC) (p : Val) (w : World) (S : Nat → Prop) (hx : VIn w S n x p) : Calls Try.prog 12 #[valV x] w fun e w' => SomeB e ∧ Below w.heap.size w w' := by
  have HB := Lib.hid (show ∀ o1, Below w.heap.size w (w.alloc o1) from fun _ => (Below.refl _ _).alloc (Nat.le_refl _) _)
  have HI := Lib.hid (fun o1 => pattern_any n x p 60 (w.alloc o1) _ (hx.lt.below (HB.out o1) fun _ h => h.2) (by unfold I64; omega))
  clear hx
  unfold valV at *
  go_enter Try.func12, Try.ntmps12
  go_wp2_with fail
  refine (HI.out _).mono ?_
  rintro e w1 ⟨⟨q, rfl⟩, hb⟩
  have HW := Lib.hid ((HB.out _).trans (hb.mono (HB.out _).size))
  clear hb HI HB
  go_wp2_with fail
  go_ret
  exact ⟨⟨_, rfl⟩, HW.out⟩

set_option maxRecDepth 100000 in
theorem pick2_any (n : Nat) (x : LC) (t : Let) (w : World) (S : Nat → Prop) (hx : LIn w S n x t) : Calls Try.prog 15 #[letterV x] w fun e w' => SomeB e ∧ Below w.heap.size w w' := by
  have HB := Lib.hid (show ∀ o1, Below w.heap.size w (w.alloc o1) from fun _ => (Below.refl _ _).alloc (Nat.le_refl _) _)
  have HI := Lib.hid (fun o1 => flatV_any n x.v t.v (w.alloc o1) _ (hx.2.lt.below (HB.out o1) fun _ h => h.2))
  clear hx
  unfold valV letterV at *
  go_enter Try.func15, Try.ntmps15
  go_wp2_with fail
  refine (HI.out _).mono ?_
  rintro e w1 ⟨⟨q, rfl⟩, hb⟩
  have HW := Lib.hid ((HB.out _).trans (hb.mono (HB.out _).size))
  clear hb HI HB
  go_wp2_with fail
  go_ret
  exact ⟨⟨_, rfl⟩, HW.out⟩
end Go.Proofs.Ytdjahlkjfpbifaa
