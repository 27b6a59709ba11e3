
/-
  nodes: how many parts a pattern has, up to a bound.
-/
import Derived.Test.YthglcnodoophaaaPa1
import Derived.IntWalk
import Derived.Outline
import Derived.Deep.LoopGhost
import Derived.Deep.DeepCutAuto
import Derived.Deep.CutBlock
import Derived.Deep.RegionLaw
namespace Go.Proofs.Ythglcnodoophaaa
open Go.RowKit

set_option maxRecDepth 100000 in
set_option maxHeartbeats 1000000 in
theorem nodes_pa : ∀ (m n : Nat) (x : PaC) (v : Pt) (B : Nat) (w : World), PaIn w (· < B) n x v → B ≤ w.heap.size → v.size ≤ 1048576 → m ≤ 50 →
    Calls Try.prog 7 #[paV x, .int .i64 m] w fun e w' => e = .returned (.int .i64 (Pt.nd m v : Nat)) ∧ Below w.heap.size w w' := by
  intro m
  induction m with
  | zero =>
    intro n x v B w h hB hs _
    obtain _ | n := n
    · exact h.elim
    obtain ⟨kd, vs⟩ := v
    obtain ⟨⟨_, h2⟩, _, l, hl, hr, _⟩ := h
    change x.len = vs.length at h2
    obtain ⟨kx, nx, tx, A, len, cap⟩ := x
    simp only at h2 hl hr
    subst h2
    unfold paV
    simp only
    rcases vs with _ | ⟨v0, vr⟩
    · rw [nd_zero_nil]
      clear hr hs hl
      go_enter Try.func7, Try.ntmps7
      go_wp2_with fail
      go_loopg [11, 5] 0 (fun gk i z wr => i = .int .i64 0 ∧ z = .int .i64 1 ∧ gk = 0 ∧ Below w.heap.size w wr)
      case atStart => exact ⟨rfl, rfl, rfl, (Below.refl _ _).alloc (Nat.le_refl _) _⟩
      case round =>
        obtain ⟨rfl, rfl, hg, hb⟩ := hrel
        go_wp2_with fail
        go_ret
        exact ⟨rfl, hb⟩
    · rw [nd_zero_cons]
      have hl1 : 0 < l.length := by rw [hl]; simp
      obtain ⟨b, o, rfl, hbB, c0, c1, c2, c3⟩ := Row.pa hr.row hl1 pac0
      simp only [Nat.zero_mul, Nat.add_zero] at c0 c1 c2 c3
      generalize l.getD 0 pac0 = y at *
      have hbw : b < w.heap.size := by omega
      have hlp : (0 : Int) < ((v0 :: vr).length : Int) := by simp
      have hlp' : 0 < (v0 :: vr).length := by simp
      generalize (v0 :: vr).length = L at *
      clear hr hs
      go_enter Try.func7, Try.ntmps7
      go_wp2_with fail
      go_loopg [11, 5] 0 (fun gk i z wr => i = .int .i64 0 ∧ z = .int .i64 1 ∧ gk = 0 ∧ Below w.heap.size w wr)
      case atStart => exact ⟨rfl, rfl, rfl, (Below.refl _ _).alloc (Nat.le_refl _) _⟩
      case round =>
        obtain ⟨rfl, rfl, hg, hb⟩ := hrel
        have c0 := (hb.cell (p := ⟨b, o, none⟩) hbw).trans c0
        have c1 := (hb.cell (p := ⟨b, o + 1, none⟩) hbw).trans c1
        have c2 := (hb.cell (p := ⟨b, o + 2, none⟩) hbw).trans c2
        have c3 := (hb.cell (p := ⟨b, o + 3, none⟩) hbw).trans c3
        have HB := Lib.hid (hb.alloc hb.size (.cells #[.int .i64 y.kind, .int .i64 y.num, .string y.text, .slice y.A y.len y.cap] 41))
        clear hb
        go_wp2_with fail
        go_ret
        exact ⟨rfl, HB.out⟩
  | succ m ih =>
    intro n x v B w h hB hs hm
    obtain _ | n := n
    · exact h.elim
    obtain ⟨kd, vs⟩ := v
    obtain ⟨⟨_, h2⟩, _, l, hl, hr, hin⟩ := h
    change x.len = vs.length at h2
    change ∀ i, i < l.length → PaIn w (· < B) n (l.getD i pac0) (vs.getD i pt0) at hin
    obtain ⟨kx, nx, tx, A, len, cap⟩ := x
    simp only at h2 hl hr
    subst h2
    unfold paV
    have HFW : Hid (Few vs) := by simp only [Pt.size] at hs; show Pt.sizes vs ≤ 1048576; omega
    rw [nd_succ]
    have HIN := Lib.hid hin
    have HR := Lib.hid hr
    clear hs
    have d1 : decide (((m + 1 : Nat) : Int) < 1) = false := by simp; omega
    have d1' : decide ((m : Int) + 1 < 1) = false := by simp; omega
    have hw1 : wrap64 ((m : Int) + 1 - 1) = m := by unfold wrap64; omega
    have hw2 : wrap64 ((m : Int) + 1) = (m : Int) + 1 := by unfold wrap64; omega
    clear hin hr
    go_enter Try.func7, Try.ntmps7
    go_wp2_with fail
    go_loopg [11, 5] vs.length (fun gk i z wr => ∃ k : Nat, gk = vs.length - k ∧ k ≤ vs.length ∧ i = .int .i64 k ∧ z = .int .i64 ((1 + Pt.nds m (vs.take k) : Nat) : Int) ∧ Below w.heap.size w wr)
    case atStart => exact ⟨0, by omega, by omega, rfl, by simp [Pt.nds], (Below.refl _ _).alloc (Nat.le_refl _) _⟩
    case round =>
      obtain ⟨k, hgk, hk, rfl, rfl, hb⟩ := hrel
      have HK := Lib.hid hgk
      clear hgk
      by_cases hlt : k < vs.length
      · obtain ⟨b, o, rfl, hbB, c0, c1, c2, c3⟩ := Row.pa HR.out.row (show k < l.length by omega) pac0
        have hbw : b < w.heap.size := by omega
        have HSM := Lib.hid (HFW.out.sum m hlt)
        have HS := Lib.hid (nds_take m vs hlt)
        have c0 := (hb.cell (p := ⟨b, o + k * 4, none⟩) hbw).trans c0
        have c1 := (hb.cell (p := ⟨b, o + k * 4 + 1, none⟩) hbw).trans c1
        have c2 := (hb.cell (p := ⟨b, o + k * 4 + 2, none⟩) hbw).trans c2
        have c3 := (hb.cell (p := ⟨b, o + k * 4 + 3, none⟩) hbw).trans c3
        have hy := (HIN.out k (by omega)).below hb (fun _ h => Nat.lt_of_lt_of_le h hB)
        generalize l.getD k pac0 = y at *
        have hbA := (Below.refl wr.heap.size wr).alloc (Nat.le_refl _) (.cells #[.int .i64 y.kind, .int .i64 y.num, .string y.text, .slice y.A y.len y.cap] 41)
        have HC := Lib.hid (ih n y (vs.getD k pt0) B (wr.alloc (.cells #[.int .i64 y.kind, .int .i64 y.num, .string y.text, .slice y.A y.len y.cap] 41)) (hy.below hbA (fun b h => by have := hb.size; omega)) (Nat.le_trans hB (Nat.le_trans hb.size hbA.size)) (HFW.out.at hlt) (Nat.le_of_succ_le hm))
        have HB := Lib.hid (hb.alloc hb.size (.cells #[.int .i64 y.kind, .int .i64 y.num, .string y.text, .slice y.A y.len y.cap] 41))
        unfold paV at HC
        generalize Pt.nd m (vs.getD k pt0) = q at *
        generalize Pt.nds m (vs.take k) = z at *
        have hlt1 : (k : Int) < (vs.length : Int) := by omega
        have hwz := wrap_add1 HSM.out
        have hwk := HFW.out.idx hlt
        clear hb hy hbA
        go_wp2_with fail
        refine HC.out.mono ?_
        rintro e w2 ⟨rfl, hb2⟩
        have HB2 := Lib.hid (HB.out.trans (hb2.mono HB.out.size))
        clear hb2 HC HB
        go_wp2_with fail
        go_roundg (vs.length - (k + 1))
        case measure => have := HK.out; clear hw1 hw2 hwk hwz; omega
        case rel => exact ⟨k + 1, rfl, hlt, by first | rfl | exact congrArg _ hwk, by rw [HS.out]; first | rfl | exact congrArg _ hwz, HB2.out⟩
      · obtain rfl : k = vs.length := by omega
        rw [List.take_length]
        clear HK
        go_wp2_with fail
        go_ret
        exact ⟨rfl, hb⟩
end Go.Proofs.Ythglcnodoophaaa
