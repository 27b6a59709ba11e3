
/-
  code.Binds: how many names a pattern binds.
-/
import Derived.Test.YthglcnodoophaaaPa2
namespace Go.Proofs.Ythglcnodoophaaa
open Go.RowKit

theorem bn_var (l : List Pt) : (Pt.mk 2 l).bn = 1 := by simp [Pt.bn]
theorem bn_make (l : List Pt) : (Pt.mk 6 l).bn = Pt.bns l := by simp [Pt.bn]
theorem bn_else {k : Int} (l : List Pt) (h2 : k ≠ 2) (h6 : k ≠ 6) : (Pt.mk k l).bn = 0 := by simp [Pt.bn, h2, h6]
theorem Few.bsum {l : List Pt} (h : Few l) {k : Nat} (hk : k < l.length) : Pt.bns (l.take k) + (l.getD k pt0).bn ≤ 4611686018427387904 := by
  have h1 := bns_take l hk
  have h2 := bns_le (l.take (k + 1))
  have h3 := sizes_take_le l (k + 1)
  unfold Few at h
  omega

set_option maxRecDepth 100000 in
set_option maxHeartbeats 1000000 in
theorem binds_pa : ∀ (n : Nat) (x : PaC) (v : Pt) (B : Nat) (w : World), PaIn w (· < B) n x v → B ≤ w.heap.size → v.size ≤ 1048576 →
    Calls Try.prog 32 #[paV x] w fun e w' => e = .returned (.int .i64 (v.bn : Nat)) ∧ Below w.heap.size w w' := by
  intro n
  induction n with
  | zero =>
    intro x v B w h _ _
    exact h.elim
  | succ n ih =>
    intro x v B w h hB hs
    obtain ⟨kd, vs⟩ := v
    obtain ⟨⟨h1, h2⟩, _, l, hl, hr, hin⟩ := h
    change x.kind = kd at h1
    change x.len = vs.length at h2
    change ∀ i, i < l.length → PaIn w (· < B) n (l.getD i pac0) (vs.getD i pt0) at hin
    obtain ⟨kx, nx, tx, A, len, cap⟩ := x
    simp only at h1 h2 hl hr
    subst h1 h2
    unfold paV
    simp only
    have HFW : Hid (Few vs) := by simp only [Pt.size] at hs; show Pt.sizes vs ≤ 1048576; omega
    have HIN := Lib.hid hin
    have HR := Lib.hid hr
    clear hs hin hr
    by_cases k2 : kx = 2
    · subst k2
      rw [bn_var]
      go_enter Try.func32, Try.ntmps32
      go_wp2_with fail
      go_ret
      exact ⟨rfl, (Below.refl _ _).alloc (Nat.le_refl _) _⟩
    have b2 : (kx == 2) = false := by simp [k2]
    by_cases k6 : kx = 6
    case neg =>
      rw [bn_else vs k2 k6]
      have b6 : (kx == 6) = false := by simp [k6]
      clear k2 k6
      go_enter Try.func32, Try.ntmps32
      go_wp2_with fail
      go_ret
      exact ⟨rfl, (Below.refl _ _).alloc (Nat.le_refl _) _⟩
    subst k6
    clear k2 b2
    rw [bn_make]
    go_enter Try.func32, Try.ntmps32
    go_wp2_with fail
    go_loopg [15, 3] vs.length (fun gk i z wr => ∃ k : Nat, gk = vs.length - k ∧ k ≤ vs.length ∧ i = .int .i64 k ∧ z = .int .i64 ((Pt.bns (vs.take k) : Nat) : Int) ∧ Below w.heap.size w wr)
    case atStart => exact ⟨0, by omega, by omega, rfl, by simp [Pt.bns], (Below.refl _ _).alloc (Nat.le_refl _) _⟩
    case round =>
      obtain ⟨k, hgk, hk, rfl, rfl, hb⟩ := hrel
      have HK := Lib.hid hgk
      clear hgk
      by_cases hlt : k < vs.length
      · obtain ⟨b, o, rfl, hbB, c0, c1, c2, c3⟩ := Row.pa HR.out.row (show k < l.length by omega) pac0
        have hbw : b < w.heap.size := by omega
        have HSM := Lib.hid (HFW.out.bsum hlt)
        have HS := Lib.hid (bns_take vs hlt)
        have c0 := (hb.cell (p := ⟨b, o + k * 4, none⟩) hbw).trans c0
        have c1 := (hb.cell (p := ⟨b, o + k * 4 + 1, none⟩) hbw).trans c1
        have c2 := (hb.cell (p := ⟨b, o + k * 4 + 2, none⟩) hbw).trans c2
        have c3 := (hb.cell (p := ⟨b, o + k * 4 + 3, none⟩) hbw).trans c3
        have hy := (HIN.out k (by omega)).below hb (fun _ h => Nat.lt_of_lt_of_le h hB)
        generalize l.getD k pac0 = y at *
        have hbA := (Below.refl wr.heap.size wr).alloc (Nat.le_refl _) (.cells #[.int .i64 y.kind, .int .i64 y.num, .string y.text, .slice y.A y.len y.cap] 41)
        have HC := Lib.hid (ih y (vs.getD k pt0) B (wr.alloc (.cells #[.int .i64 y.kind, .int .i64 y.num, .string y.text, .slice y.A y.len y.cap] 41)) (hy.below hbA (fun b h => Nat.lt_of_lt_of_le h (Nat.le_trans hB hb.size))) (Nat.le_trans hB (Nat.le_trans hb.size hbA.size)) (HFW.out.at hlt))
        have HB := Lib.hid (hb.alloc hb.size (.cells #[.int .i64 y.kind, .int .i64 y.num, .string y.text, .slice y.A y.len y.cap] 41))
        unfold paV at HC
        generalize (vs.getD k pt0).bn = q at *
        generalize Pt.bns (vs.take k) = z at *
        have hlt1 : (k : Int) < (vs.length : Int) := by omega
        have hwz := wrap_add HSM.out
        have hwk := HFW.out.idx hlt
        clear hb hy hbA
        go_wp2_with fail
        refine HC.out.mono ?_
        rintro e w2 ⟨rfl, hb2⟩
        have HB2 := Lib.hid (HB.out.trans (hb2.mono HB.out.size))
        clear hb2 HC HB
        go_wp2_with fail
        go_roundg (vs.length - (k + 1))
        case measure => have := HK.out; clear hwk hwz; omega
        case rel => exact ⟨k + 1, rfl, hlt, by first | rfl | exact congrArg _ hwk, by rw [HS.out]; first | rfl | exact congrArg _ hwz, HB2.out⟩
      · obtain rfl : k = vs.length := by omega
        rw [List.take_length]
        clear HK
        go_wp2_with fail
        go_ret
        exact ⟨rfl, hb⟩
end Go.Proofs.Ythglcnodoophaaa
