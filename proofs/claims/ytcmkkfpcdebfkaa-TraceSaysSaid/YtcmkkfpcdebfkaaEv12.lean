/-
  Histories: pairs apart (clock.Apart).
-/
import Derived.Test.YtcmkkfpcdebfkaaEv11
namespace Go.Proofs.Ytcmkkfpcdebfkaa
open Go.RowKit Go.Maps

/-- Pairs (i, y), y < t, that are apart. -/
noncomputable def apRow (l : List Ev) (i : Nat) : Nat → Nat
  | 0 => 0
  | t + 1 => apRow l i t + if befB l i t = true then 0 else 1
noncomputable def apAll (l : List Ev) : Nat → Nat
  | 0 => 0
  | i + 1 => apAll l i + apRow l i i
theorem apRow_le (l : List Ev) (i : Nat) : ∀ t, apRow l i t ≤ t
  | 0 => Nat.le_refl _
  | t + 1 => by
    have := apRow_le l i t
    unfold apRow
    split <;> omega
theorem apAll_le (l : List Ev) : ∀ i, i ≤ 200 → apAll l i ≤ i * 200
  | 0, _ => Nat.le_refl _
  | i + 1, h => by
    have h1 := apAll_le l i (by omega)
    have h2 := apRow_le l i i
    unfold apAll
    omega
open Classical in
theorem befB_gt {l : List Ev} {i k : Nat} (h : i ≤ k) : befB l i k = false := by
  unfold befB
  exact decide_eq_false fun hb => by have := hb.lt; omega

set_option maxHeartbeats 400000 in
theorem apart_bad (A : Option Addr) (c : Nat) (l : List Ev) (W : World) (h : EvIn W A c l) (hbad : history l ≠ 0) :
    Calls Try.prog 73 #[.slice A l.length c] W fun e w' => e = .returned (.tuple #[.int .i64 0, .int .i64 (history l)]) ∧ Below W.heap.size W w' := by
  have HC := Lib.hid (clocks_bad A c l W h hbad)
  have q1 : (history l != 0) = true := by rw [bne_iff_ne]; exact hbad
  generalize history l = e0 at *
  clear h hbad
  go_enter Try.func73, Try.ntmps73
  go_wp2_with fail
  refine HC.out.mono ?_
  rintro e w1 ⟨rfl, hb⟩
  have HB := Lib.hid hb
  clear hb
  go_wp2_with fail
  go_ret2
  exact ⟨rfl, HB.out⟩

set_option maxRecDepth 100000 in
set_option maxHeartbeats 4000000 in
theorem apart_ok (A : Option Addr) (c : Nat) (l : List Ev) (W : World) (h : EvIn W A c l) (h0 : history l = 0) :
    Calls Try.prog 73 #[.slice A l.length c] W fun e w' => e = .returned (.tuple #[.int .i64 (apAll l l.length : Int), .int .i64 0]) ∧ Below W.heap.size W w' := by
  have HC := Lib.hid (clocks_in A c l W h h0)
  have hl200 := (hist_good h0).1
  have HPL := Lib.hid (fun j hj => ((hist_good h0).2 j hj).place)
  clear h h0
  go_enter Try.func73, Try.ntmps73
  go_wp2_with fail
  refine HC.out.mono ?_
  rintro e w1 ⟨A', c', rfl, hck, hb⟩
  have HB := Lib.hid hb
  have HCK := Lib.hid hck
  clear hb hck
  go_wp2_with fail
  go_loopg [6, 19] l.length (fun gk v x wr => ∃ (i m : Nat), gk = l.length - i ∧ i ≤ l.length ∧ x = .int .i64 i ∧ v = .int .i64 (apAll l i : Int) ∧ wr = w1.drewN m)
  case atStart => exact ⟨0, 0, by omega, by omega, rfl, rfl, rfl⟩
  case round =>
    obtain ⟨i, m, hgk, hi, rfl, rfl, rfl⟩ := hrel
    have HK := Lib.hid hgk
    have hle := apAll_le l i (by omega)
    clear hgk
    by_cases hlt : i < l.length
    · go_wp2_with fail
      go_loopg [6, 23] i (fun gk v x wr => ∃ (t m : Nat), gk = i - t ∧ t ≤ i ∧ x = .int .i64 t ∧ v = .int .i64 ((apAll l i + apRow l i t : Nat) : Int) ∧ wr = w1.drewN m)
      case atStart => exact ⟨0, m, by omega, by omega, rfl, rfl, rfl⟩
      case round =>
        obtain ⟨t, m', hgk, ht, rfl, rfl, hw⟩ := hrel
        have hck : ClkIn wr w1.heap.size A' l := by rw [hw]; exact HCK.out
        have HW := Lib.hid hw
        have HT := Lib.hid hgk
        have hle2 := apRow_le l i t
        clear hgk
        by_cases htl : t < i
        · have htn : t < l.length := by omega
          obtain ⟨b, o, A1, c1, rfl, hbl, hc1, hr1⟩ := hck i hlt
          obtain ⟨b2, o2, A2, c2, hbb, _, hc2, hr2⟩ := hck t htn
          obtain ⟨rfl, rfl⟩ : b2 = b ∧ o2 = o := by simp at hbb; exact ⟨hbb.1.symm, hbb.2.symm⟩
          have h1 : ∀ n, Calls Try.prog 153 #[.slice A1 8 c1, .slice A2 8 c2] (wr.drewN n) fun e w' => e = .returned (.bool (befB l t i)) ∧ w' = wr.drewN n := fun n =>
            lessU hlt htn HPL.out (A := A1) (A' := A2) (c := c1) (c' := c2) (B := w1.heap.size) (B' := w1.heap.size) (w := wr.drewN n) hr1 hr2
          have h2 : ∀ n, Calls Try.prog 153 #[.slice A2 8 c2, .slice A1 8 c1] (wr.drewN n) fun e w' => e = .returned (.bool (befB l i t)) ∧ w' = wr.drewN n := fun n =>
            lessU htn hlt HPL.out (A := A2) (A' := A1) (c := c2) (c' := c1) (B := w1.heap.size) (B' := w1.heap.size) (w := wr.drewN n) hr2 hr1
          rw [befB_gt (show t ≤ i by omega)] at h1
          have H1 := Lib.hid h1
          have H2 := Lib.hid h2
          have HS := Lib.hid (show apRow l i (t + 1) = apRow l i t + if befB l i t = true then 0 else 1 from rfl)
          clear h1 h2 hbb hr1 hr2 hck hw
          generalize befB l i t = bb at *
          generalize apAll l i = s1 at *
          generalize apRow l i t = s2 at *
          cases bb with
          | true =>
            go_wp2_with fail
            go_quiet ((go_at_call 153; first | (with_reducible exact Calls.quiet_of_same (H1.out _)) | (with_reducible exact Calls.quiet_of_same (H2.out _))))
            go_wp2_with fail
            go_roundg (i - (t + 1))
            case measure => have := HT.out; omega
            case rel => exact ⟨t + 1, _, rfl, by omega, by go_num, by rw [HS.out]; rfl, by rw [HW.out, World.drewN_drewN]⟩
          | false =>
            go_wp2_with fail
            go_quiet ((go_at_call 153; first | (with_reducible exact Calls.quiet_of_same (H1.out _)) | (with_reducible exact Calls.quiet_of_same (H2.out _))))
            go_wp2_with fail
            go_roundg (i - (t + 1))
            case measure => have := HT.out; omega
            case rel => exact ⟨t + 1, _, rfl, by omega, by go_num, by rw [HS.out]; rfl, by rw [HW.out, World.drewN_drewN]⟩
        · obtain rfl : t = i := by omega
          clear hck hw
          go_wp2_with fail
          go_roundg (l.length - (t + 1))
          case measure => have := HK.out; omega
          case rel => exact ⟨t + 1, m', rfl, by omega, by go_num, rfl, HW.out⟩
    · obtain rfl : i = l.length := by omega
      go_wp2_with fail
      go_ret2
      exact ⟨rfl, below_drewN HB.out _⟩
end Go.Proofs.Ytcmkkfpcdebfkaa
