/-
  Package trace: a number of at most three bytes read; the reader done.
-/
import Derived.Test.YtcmkkfpcdebfkaaUns
namespace Go.Proofs.Ytcmkkfpcdebfkaa
open Go.RowKit

/-- One byte read by a bad reader. -/
theorem byte_bad (g B : Nat) (bs : List UInt8) (w : World) (h : Rdr w B g bs true) (hB : B ≤ g) (hw : B ≤ w.heap.size) :
    Calls Try.prog 228 #[.pointer (some ⟨g, 0, none⟩)] w fun e w' => ∃ (v : Nat) (bs' : List UInt8), e = .returned (.int .i64 (v : Int)) ∧ v < 256 ∧ (bs'.length ≤ bs.length ∧ bs.length ≤ bs'.length + 1) ∧ Rdr w' B g bs' true ∧ Only (fun b => b = g) w w' := by
  match bs, h with
  | [], h => exact (byte_end g B true w h hB hw).mono fun e w' ⟨h1, h2, h3⟩ => ⟨0, [], h1, by decide, by simp, h2, h3⟩
  | y :: ys, h => exact (byte_more g B true y ys w h hB hw).mono fun e w' ⟨h1, h2, h3⟩ => ⟨y.toNat, ys, h1, y.toNat_lt, by simp, h2, h3⟩

set_option maxRecDepth 100000 in
set_option maxHeartbeats 1000000 in
theorem unsignedB (g B : Nat) (bs : List UInt8) (w : World) (h : Rdr w B g bs true) (hB : B ≤ g) (hw : B ≤ w.heap.size) :
    Calls Try.prog 219 #[.pointer (some ⟨g, 0, none⟩)] w fun e w' => ∃ bs', e = .returned (.int .u64 0) ∧ (bs'.length ≤ bs.length ∧ bs.length ≤ bs'.length + 1) ∧ Rdr w' B g bs' true ∧ Only (fun b => b = g) w w' := by
  have HBY := Lib.hid (byte_bad g B bs w h hB hw)
  clear h
  go_enter Try.func219, Try.ntmps219
  go_wp2_with fail
  go_loopg [4] 1 (fun _ s wr => s = .int .i64 0 ∧ wr = w)
  case atStart => exact ⟨rfl, rfl⟩
  case round =>
    obtain ⟨rfl, rfl⟩ := hrel
    go_wp2_with fail
    refine HBY.out.mono ?_
    rintro e w2 ⟨v, bs', rfl, hv, hl, hr2, ho2⟩
    have HL := Lib.hid hl
    obtain ⟨A, c, hbx, hrow, hc⟩ := hr2
    have c1 := hbx.cell 1
    have f1 := hbx.frozen 1
    simp only [List.getElem?_toArray, List.getElem?_cons_zero, List.getElem?_cons_succ] at c1
    have hs2 := ho2.size
    have hO : Only (fun b => b = g) w2 (w2.setCell ⟨g, 1, none⟩ (.bool true)) := (Only.refl (fun b => b = g) w2).set (p := ⟨g, 1, none⟩) rfl _
    have HO := Lib.hid (ho2.trans hO)
    have HR := Lib.hid (show Rdr (w2.setCell ⟨g, 1, none⟩ (.bool true)) B g bs' true from ⟨A, c, hbx.set 1 (.bool true), hrow.keep fun p hp => World.cell?_of_block (hO.block p.block (by omega) (by omega)), hc⟩)
    clear hbx hrow hO hc ho2 hl
    go_wp2_with fail
    go_ret
    exact ⟨bs', rfl, HL.out, HR.out, HO.out⟩
set_option maxHeartbeats 400000 in
theorem natB (g B : Nat) (bs : List UInt8) (w : World) (h : Rdr w B g bs true) (hB : B ≤ g) (hw : B ≤ w.heap.size) :
    Calls Try.prog 202 #[.pointer (some ⟨g, 0, none⟩)] w fun e w' => ∃ bs', e = .returned (.int .i64 0) ∧ (bs'.length ≤ bs.length ∧ bs.length ≤ bs'.length + 1) ∧ Rdr w' B g bs' true ∧ Only (fun b => b = g) w w' := by
  have HC := Lib.hid (unsignedB g B bs w h hB hw)
  clear h
  go_enter Try.func202, Try.ntmps202
  go_wp2_with fail
  refine HC.out.mono ?_
  rintro e w1 ⟨bs', rfl, hl, hr, ho⟩
  have HL := Lib.hid hl
  have HR := Lib.hid hr
  have HO := Lib.hid ho
  clear hl hr ho HC
  go_wp2_with fail
  go_ret
  exact ⟨bs', rfl, HL.out, HR.out, HO.out⟩

/-- What number answers, and leaves. -/
structure NumIs (bs : List UInt8) (n : Int) (bs' : List UInt8) (bad' : Bool) : Prop where
  rng : 0 ≤ n ∧ n ≤ 9223372036854775807
  yes : ∀ m rest, numS bs = some (m, rest) → n = (m : Int) ∧ bs' = rest ∧ bad' = false
  no : numS bs = none → bad' = true

set_option maxHeartbeats 1000000 in
theorem numberR (g B : Nat) (bs : List UInt8) (w : World) (h : Rdr w B g bs false) (hB : B ≤ g) (hw : B ≤ w.heap.size) :
    Calls Try.prog 156 #[.pointer (some ⟨g, 0, none⟩)] w fun e w' => ∃ n bs' bad', e = .returned (.int .i64 n) ∧ NumIs bs n bs' bad' ∧ Rdr w' B g bs' bad' ∧ Only (fun b => b = g) w w' := by
  have HC := Lib.hid (natR g B bs w h hB hw)
  obtain ⟨A, c, hbx, hrow, hc, hm⟩ := h
  have c0 := hbx.cell 0
  simp only [List.getElem?_toArray, List.getElem?_cons_zero] at c0
  unfold maxLen at hm
  clear hbx hrow
  go_enter Try.func156, Try.ntmps156
  go_wp2_with fail
  refine HC.out.mono ?_
  rintro e w1 ⟨n, bs', bad', rfl, hn, hr, ho⟩
  have HN := Lib.hid hn
  have HR := Lib.hid hr
  have HO := Lib.hid ho
  have hs := ho.size
  have hrng : (0 ≤ n ∧ n ≤ 9223372036854775807) ∧ bs'.length ≤ bs.length := by
    cases hq : numS bs with
    | none => exact ⟨(hn.no hq).1, (hn.no hq).2.1⟩
    | some p =>
      obtain ⟨m, rest⟩ := p
      have h1 := (hn.yes m rest hq)
      have h2 := (numS_lt hq)
      rw [h1.2.1]
      omega
  have HRNG := Lib.hid hrng.1
  have hle := hrng.2
  clear hn ho HC hrng c0
  obtain ⟨A2, c2, hbx, hrow, hc'⟩ := hr
  have c0 := hbx.cell 0
  have c1 := hbx.cell 1
  have f1 := hbx.frozen 1
  simp only [List.getElem?_toArray, List.getElem?_cons_zero, List.getElem?_cons_succ] at c0 c1
  have hm2 : bs'.length ≤ 9223372036854775807 := by omega
  by_cases hbig : bs'.length + 3 < bs.length
  · have d1 : decide ((3 : Int) < (bs.length : Int) - (bs'.length : Int)) = true := decide_eq_true (by omega)
    have hO : Only (fun b => b = g) w1 (w1.setCell ⟨g, 1, none⟩ (.bool true)) := (Only.refl (fun b => b = g) w1).set (p := ⟨g, 1, none⟩) rfl _
    have HO2 := Lib.hid (HO.out.trans hO)
    have HR2 := Lib.hid (show Rdr (w1.setCell ⟨g, 1, none⟩ (.bool true)) B g bs' true from ⟨A2, c2, hbx.set 1 (.bool true), hrow.keep fun p hp => World.cell?_of_block (hO.block p.block (by omega) (by omega)), hc'⟩)
    have HN2 := Lib.hid (show NumIs bs n bs' true from ⟨HRNG.out, (fun m rest hq => by
      have h1 := (HN.out.yes m rest hq).2.1
      have h2 := (numS_lt hq)
      rw [h1] at hbig
      omega), fun _ => rfl⟩)
    clear hbx hrow hO hc' hbig
    go_wp2_with fail
    go_ret
    exact ⟨n, bs', true, rfl, HN2.out, HR2.out, HO2.out⟩
  · have d1 : decide ((3 : Int) < (bs.length : Int) - (bs'.length : Int)) = false := decide_eq_false (by omega)
    have HN2 := Lib.hid (show NumIs bs n bs' bad' from ⟨HRNG.out, HN.out.yes, fun hq => by
      rcases (HN.out.no hq).2.2 with h1 | h1
      · exact h1
      · omega⟩)
    clear hbx hrow hc' hbig
    go_wp2_with fail
    go_ret
    exact ⟨n, bs', bad', rfl, HN2.out, HR.out, HO.out⟩
set_option maxHeartbeats 1000000 in
theorem numberB (g B : Nat) (bs : List UInt8) (w : World) (h : Rdr w B g bs true) (hB : B ≤ g) (hw : B ≤ w.heap.size) :
    Calls Try.prog 156 #[.pointer (some ⟨g, 0, none⟩)] w fun e w' => ∃ bs', e = .returned (.int .i64 0) ∧ Rdr w' B g bs' true ∧ Only (fun b => b = g) w w' := by
  have HC := Lib.hid (natB g B bs w h hB hw)
  obtain ⟨A, c, hbx, hrow, hc, hm⟩ := h
  have c0 := hbx.cell 0
  simp only [List.getElem?_toArray, List.getElem?_cons_zero] at c0
  unfold maxLen at hm
  clear hbx hrow
  go_enter Try.func156, Try.ntmps156
  go_wp2_with fail
  refine HC.out.mono ?_
  rintro e w1 ⟨bs', rfl, hl, hr, ho⟩
  have HR := Lib.hid hr
  have HO := Lib.hid ho
  clear ho HC c0
  obtain ⟨A2, c2, hbx, hrow, hc'⟩ := hr
  have c0 := hbx.cell 0
  simp only [List.getElem?_toArray, List.getElem?_cons_zero] at c0
  have hm2 : bs'.length ≤ 9223372036854775807 := by omega
  have hl1 := hl.1
  have d1 : decide ((3 : Int) < (bs.length : Int) - (bs'.length : Int)) = false := decide_eq_false (by omega)
  clear hbx hrow hc' hl
  go_wp2_with fail
  go_ret
  exact ⟨bs', rfl, HR.out, HO.out⟩

set_option maxHeartbeats 400000 in
theorem doneR (g B : Nat) (bs : List UInt8) (bad : Bool) (w : World) (h : Rdr w B g bs bad) :
    Calls Try.prog 157 #[.pointer (some ⟨g, 0, none⟩)] w fun e w' => e = .returned (.bool (!bad && decide (bs.length = 0))) ∧ w = w' := by
  obtain ⟨A, c, hbx, hrow, hc, hm⟩ := h
  have c0 := hbx.cell 0
  have c1 := hbx.cell 1
  simp only [List.getElem?_toArray, List.getElem?_cons_zero, List.getElem?_cons_succ] at c0 c1
  unfold maxLen at hm
  clear hbx hrow
  cases bad with
  | true =>
    go_enter Try.func157, Try.ntmps157
    go_wp2_with fail
    go_ret
    exact ⟨rfl, rfl⟩
  | false =>
    by_cases hz : bs.length = 0
    · have d1 : ((bs.length : Int) == 0) = true := by rw [beq_iff_eq]; omega
      rw [show (!false && decide (bs.length = 0)) = true by simp [hz]]
      clear hz
      go_enter Try.func157, Try.ntmps157
      go_wp2_with fail
      go_ret
      exact ⟨rfl, rfl⟩
    · have d1 : ((bs.length : Int) == 0) = false := by rw [beq_eq_false_iff_ne]; omega
      rw [show (!false && decide (bs.length = 0)) = false by simp; simpa using hz]
      have hz' : 0 < bs.length := by omega
      clear hz
      go_enter Try.func157, Try.ntmps157
      go_wp2_with fail
      go_ret
      exact ⟨rfl, rfl⟩
end Go.Proofs.Ytcmkkfpcdebfkaa
