
/-
  Small tests of code.Check and of the reference's Fault.
-/
import Derived.Test.YthglcnodoophaaaCkRd
namespace Go.Proofs.Ythglcnodoophaaa
open Go.RowKit

theorem inB_yes {i n : Int} (h0 : 0 ≤ i) (h1 : i < n) : inB i n = true := by unfold inB; exact decide_eq_true ⟨h0, h1⟩
theorem inB_no0 {i n : Int} (h0 : ¬ 0 ≤ i) : inB i n = false := by unfold inB; exact decide_eq_false (fun h => h0 h.1)
theorem inB_no1 {i n : Int} (h1 : ¬ i < n) : inB i n = false := by unfold inB; exact decide_eq_false (fun h => h1 h.2)
theorem inB_spec {i n : Int} (h : inB i n = true) : 0 ≤ i ∧ i < n := by unfold inB at h; exact of_decide_eq_true h
theorem within_any (i n : Int) (w : World) : Calls Try.prog 8 #[.int .i64 i, .int .i64 n] w fun e w' => e = .returned (.bool (inB i n)) ∧ w = w' := by
  by_cases h0 : 0 ≤ i
  · by_cases h1 : i < n
    · rw [inB_yes h0 h1]
      go_enter Try.func8, Try.ntmps8
      go_wp2_with fail
      go_ret
      exact ⟨rfl, rfl⟩
    · rw [inB_no1 h1]
      go_enter Try.func8, Try.ntmps8
      go_wp2_with fail
      go_ret
      exact ⟨rfl, rfl⟩
  · rw [inB_no0 h0]
    go_enter Try.func8, Try.ntmps8
    go_wp2_with fail
    go_ret
    exact ⟨rfl, rfl⟩
theorem rin_any (i n : Int) (w : World) : Calls Try.prog 10 #[.int .i64 i, .int .i64 n] w fun e w' => e = .returned (.bool (inB i n)) ∧ w = w' := by
  by_cases h0 : 0 ≤ i
  · by_cases h1 : i < n
    · rw [inB_yes h0 h1]
      go_enter Try.func10, Try.ntmps10
      go_wp2_with fail
      go_ret
      exact ⟨rfl, rfl⟩
    · rw [inB_no1 h1]
      go_enter Try.func10, Try.ntmps10
      go_wp2_with fail
      go_ret
      exact ⟨rfl, rfl⟩
  · rw [inB_no0 h0]
    go_enter Try.func10, Try.ntmps10
    go_wp2_with fail
    go_ret
    exact ⟨rfl, rfl⟩
/-- code.writes: does an operation write A? -/
theorem writesOp_any (op : Int) (w : World) : Calls Try.prog 22 #[.int .i64 op] w fun e w' => e = .returned (.bool (shapeF op).wr) ∧ Below w.heap.size w w' := by
  have HW := Lib.hid (fun w1 => writes_any ⟨op, 1, 0, 0, none, 0, []⟩ w1)
  have hv : inV ⟨op, 1, 0, 0, none, 0, []⟩ = .agg #[.int .i64 op, .int .i64 1, .int .i64 0, .int .i64 0, .slice none 0 0] := rfl
  rw [hv] at HW
  have hw : writesT ⟨op, 1, 0, 0, none, 0, []⟩ = if (shapeF op).wr = true then 1 else -1 := rfl
  rw [hw] at HW
  cases hs : (shapeF op).wr
  · rw [hs] at HW
    simp only [Bool.false_eq_true, if_false] at HW
    go_enter Try.func22, Try.ntmps22
    go_wp2_with fail
    refine (HW.out _).mono ?_
    rintro e w1 ⟨rfl, hb⟩
    go_wp2_with fail
    go_ret
    exact ⟨rfl, hb⟩
  · rw [hs] at HW
    simp only [if_true] at HW
    go_enter Try.func22, Try.ntmps22
    go_wp2_with fail
    refine (HW.out _).mono ?_
    rintro e w1 ⟨rfl, hb⟩
    go_wp2_with fail
    go_ret
    exact ⟨rfl, hb⟩
end Go.Proofs.Ythglcnodoophaaa
