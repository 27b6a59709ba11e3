
/-
  shapes; Writes on both sides.
-/
import Derived.Test.YthglcnodoophaaaIn1
namespace Go.Proofs.Ythglcnodoophaaa
open Go.RowKit

structure Shp where
  s : ByteArray
  wr : Bool
  ends : Bool
def shapeF (op : Int) : Shp :=
  if op ∈ [(1 : Int), (14 : Int)] then ⟨⟨#[]⟩, true, false⟩
  else if op ∈ [(2 : Int), (20 : Int), (21 : Int)] then ⟨⟨#[98]⟩, true, false⟩
  else if op ∈ [(5 : Int), (6 : Int), (7 : Int), (8 : Int), (10 : Int), (12 : Int)] then ⟨⟨#[42]⟩, true, false⟩
  else if op ∈ [(9 : Int)] then ⟨⟨#[98, 42]⟩, true, false⟩
  else if op ∈ [(13 : Int), (22 : Int)] then ⟨⟨#[97, 98]⟩, false, false⟩
  else if op ∈ [(4 : Int), (11 : Int), (19 : Int), (23 : Int), (24 : Int), (26 : Int), (27 : Int)] then ⟨⟨#[97]⟩, false, false⟩
  else if op ∈ [(18 : Int), (25 : Int)] then ⟨⟨#[97]⟩, false, true⟩
  else if op ∈ [(15 : Int)] then ⟨⟨#[42]⟩, false, true⟩
  else if op ∈ [(17 : Int)] then ⟨⟨#[]⟩, false, true⟩
  else ⟨⟨#[]⟩, false, false⟩

theorem shape_1 : shapeF 1 = ⟨⟨#[]⟩, true, false⟩ := by simp [shapeF]
theorem shape_14 : shapeF 14 = ⟨⟨#[]⟩, true, false⟩ := by simp [shapeF]
theorem shape_2 : shapeF 2 = ⟨⟨#[98]⟩, true, false⟩ := by simp [shapeF]
theorem shape_20 : shapeF 20 = ⟨⟨#[98]⟩, true, false⟩ := by simp [shapeF]
theorem shape_21 : shapeF 21 = ⟨⟨#[98]⟩, true, false⟩ := by simp [shapeF]
theorem shape_5 : shapeF 5 = ⟨⟨#[42]⟩, true, false⟩ := by simp [shapeF]
theorem shape_6 : shapeF 6 = ⟨⟨#[42]⟩, true, false⟩ := by simp [shapeF]
theorem shape_7 : shapeF 7 = ⟨⟨#[42]⟩, true, false⟩ := by simp [shapeF]
theorem shape_8 : shapeF 8 = ⟨⟨#[42]⟩, true, false⟩ := by simp [shapeF]
theorem shape_10 : shapeF 10 = ⟨⟨#[42]⟩, true, false⟩ := by simp [shapeF]
theorem shape_12 : shapeF 12 = ⟨⟨#[42]⟩, true, false⟩ := by simp [shapeF]
theorem shape_9 : shapeF 9 = ⟨⟨#[98, 42]⟩, true, false⟩ := by simp [shapeF]
theorem shape_13 : shapeF 13 = ⟨⟨#[97, 98]⟩, false, false⟩ := by simp [shapeF]
theorem shape_22 : shapeF 22 = ⟨⟨#[97, 98]⟩, false, false⟩ := by simp [shapeF]
theorem shape_4 : shapeF 4 = ⟨⟨#[97]⟩, false, false⟩ := by simp [shapeF]
theorem shape_11 : shapeF 11 = ⟨⟨#[97]⟩, false, false⟩ := by simp [shapeF]
theorem shape_19 : shapeF 19 = ⟨⟨#[97]⟩, false, false⟩ := by simp [shapeF]
theorem shape_23 : shapeF 23 = ⟨⟨#[97]⟩, false, false⟩ := by simp [shapeF]
theorem shape_24 : shapeF 24 = ⟨⟨#[97]⟩, false, false⟩ := by simp [shapeF]
theorem shape_26 : shapeF 26 = ⟨⟨#[97]⟩, false, false⟩ := by simp [shapeF]
theorem shape_27 : shapeF 27 = ⟨⟨#[97]⟩, false, false⟩ := by simp [shapeF]
theorem shape_18 : shapeF 18 = ⟨⟨#[97]⟩, false, true⟩ := by simp [shapeF]
theorem shape_25 : shapeF 25 = ⟨⟨#[97]⟩, false, true⟩ := by simp [shapeF]
theorem shape_15 : shapeF 15 = ⟨⟨#[42]⟩, false, true⟩ := by simp [shapeF]
theorem shape_17 : shapeF 17 = ⟨⟨#[]⟩, false, true⟩ := by simp [shapeF]
theorem shape_3 : shapeF 3 = ⟨⟨#[]⟩, false, false⟩ := by simp [shapeF]
theorem shape_16 : shapeF 16 = ⟨⟨#[]⟩, false, false⟩ := by simp [shapeF]
theorem shape_else {op : Int} (h1 : op ≠ 1) (h14 : op ≠ 14) (h2 : op ≠ 2) (h20 : op ≠ 20) (h21 : op ≠ 21) (h5 : op ≠ 5) (h6 : op ≠ 6) (h7 : op ≠ 7) (h8 : op ≠ 8) (h10 : op ≠ 10) (h12 : op ≠ 12) (h9 : op ≠ 9) (h13 : op ≠ 13) (h22 : op ≠ 22) (h4 : op ≠ 4) (h11 : op ≠ 11) (h19 : op ≠ 19) (h23 : op ≠ 23) (h24 : op ≠ 24) (h26 : op ≠ 26) (h27 : op ≠ 27) (h18 : op ≠ 18) (h25 : op ≠ 25) (h15 : op ≠ 15) (h17 : op ≠ 17) : shapeF op = ⟨⟨#[]⟩, false, false⟩ := by simp [shapeF, h1, h14, h2, h20, h21, h5, h6, h7, h8, h10, h12, h9, h13, h22, h4, h11, h19, h23, h24, h26, h27, h18, h25, h15, h17]

set_option maxRecDepth 100000 in
set_option maxHeartbeats 4000000 in
theorem shapes_any (op : Int) (w : World) : Calls Try.prog 15 #[.int .i64 op] w fun e w' => e = .returned (.agg #[.string (shapeF op).s, .bool (shapeF op).wr, .bool (shapeF op).ends]) ∧ Below w.heap.size w w' := by
  by_cases h1 : op = 1
  · subst h1
    rw [shape_1]
    go_enter Try.func15, Try.ntmps15
    go_wp2_with fail
    refine bodyPost_ret (v := .agg #[.string ⟨#[]⟩, .bool true, .bool false]) (by simp [results, Try.results15, go_sem]) rfl ?_
    exact ⟨rfl, by first | exact (Below.refl _ _).alloc (Nat.le_refl _) _ | exact ((Below.refl _ _).alloc (Nat.le_refl _) _).setCell (Nat.le_refl _) _⟩
  have e1 : (op == 1) = false := by simp [h1]
  by_cases h14 : op = 14
  · subst h14
    rw [shape_14]
    go_enter Try.func15, Try.ntmps15
    go_wp2_with fail
    refine bodyPost_ret (v := .agg #[.string ⟨#[]⟩, .bool true, .bool false]) (by simp [results, Try.results15, go_sem]) rfl ?_
    exact ⟨rfl, by first | exact (Below.refl _ _).alloc (Nat.le_refl _) _ | exact ((Below.refl _ _).alloc (Nat.le_refl _) _).setCell (Nat.le_refl _) _⟩
  have e14 : (op == 14) = false := by simp [h14]
  by_cases h2 : op = 2
  · subst h2
    rw [shape_2]
    go_enter Try.func15, Try.ntmps15
    go_wp2_with fail
    refine bodyPost_ret (v := .agg #[.string ⟨#[98]⟩, .bool true, .bool false]) (by simp [results, Try.results15, go_sem]) rfl ?_
    exact ⟨rfl, by first | exact (Below.refl _ _).alloc (Nat.le_refl _) _ | exact ((Below.refl _ _).alloc (Nat.le_refl _) _).setCell (Nat.le_refl _) _⟩
  have e2 : (op == 2) = false := by simp [h2]
  by_cases h20 : op = 20
  · subst h20
    rw [shape_20]
    go_enter Try.func15, Try.ntmps15
    go_wp2_with fail
    refine bodyPost_ret (v := .agg #[.string ⟨#[98]⟩, .bool true, .bool false]) (by simp [results, Try.results15, go_sem]) rfl ?_
    exact ⟨rfl, by first | exact (Below.refl _ _).alloc (Nat.le_refl _) _ | exact ((Below.refl _ _).alloc (Nat.le_refl _) _).setCell (Nat.le_refl _) _⟩
  have e20 : (op == 20) = false := by simp [h20]
  by_cases h21 : op = 21
  · subst h21
    rw [shape_21]
    go_enter Try.func15, Try.ntmps15
    go_wp2_with fail
    refine bodyPost_ret (v := .agg #[.string ⟨#[98]⟩, .bool true, .bool false]) (by simp [results, Try.results15, go_sem]) rfl ?_
    exact ⟨rfl, by first | exact (Below.refl _ _).alloc (Nat.le_refl _) _ | exact ((Below.refl _ _).alloc (Nat.le_refl _) _).setCell (Nat.le_refl _) _⟩
  have e21 : (op == 21) = false := by simp [h21]
  by_cases h5 : op = 5
  · subst h5
    rw [shape_5]
    go_enter Try.func15, Try.ntmps15
    go_wp2_with fail
    refine bodyPost_ret (v := .agg #[.string ⟨#[42]⟩, .bool true, .bool false]) (by simp [results, Try.results15, go_sem]) rfl ?_
    exact ⟨rfl, by first | exact (Below.refl _ _).alloc (Nat.le_refl _) _ | exact ((Below.refl _ _).alloc (Nat.le_refl _) _).setCell (Nat.le_refl _) _⟩
  have e5 : (op == 5) = false := by simp [h5]
  by_cases h6 : op = 6
  · subst h6
    rw [shape_6]
    go_enter Try.func15, Try.ntmps15
    go_wp2_with fail
    refine bodyPost_ret (v := .agg #[.string ⟨#[42]⟩, .bool true, .bool false]) (by simp [results, Try.results15, go_sem]) rfl ?_
    exact ⟨rfl, by first | exact (Below.refl _ _).alloc (Nat.le_refl _) _ | exact ((Below.refl _ _).alloc (Nat.le_refl _) _).setCell (Nat.le_refl _) _⟩
  have e6 : (op == 6) = false := by simp [h6]
  by_cases h7 : op = 7
  · subst h7
    rw [shape_7]
    go_enter Try.func15, Try.ntmps15
    go_wp2_with fail
    refine bodyPost_ret (v := .agg #[.string ⟨#[42]⟩, .bool true, .bool false]) (by simp [results, Try.results15, go_sem]) rfl ?_
    exact ⟨rfl, by first | exact (Below.refl _ _).alloc (Nat.le_refl _) _ | exact ((Below.refl _ _).alloc (Nat.le_refl _) _).setCell (Nat.le_refl _) _⟩
  have e7 : (op == 7) = false := by simp [h7]
  by_cases h8 : op = 8
  · subst h8
    rw [shape_8]
    go_enter Try.func15, Try.ntmps15
    go_wp2_with fail
    refine bodyPost_ret (v := .agg #[.string ⟨#[42]⟩, .bool true, .bool false]) (by simp [results, Try.results15, go_sem]) rfl ?_
    exact ⟨rfl, by first | exact (Below.refl _ _).alloc (Nat.le_refl _) _ | exact ((Below.refl _ _).alloc (Nat.le_refl _) _).setCell (Nat.le_refl _) _⟩
  have e8 : (op == 8) = false := by simp [h8]
  by_cases h10 : op = 10
  · subst h10
    rw [shape_10]
    go_enter Try.func15, Try.ntmps15
    go_wp2_with fail
    refine bodyPost_ret (v := .agg #[.string ⟨#[42]⟩, .bool true, .bool false]) (by simp [results, Try.results15, go_sem]) rfl ?_
    exact ⟨rfl, by first | exact (Below.refl _ _).alloc (Nat.le_refl _) _ | exact ((Below.refl _ _).alloc (Nat.le_refl _) _).setCell (Nat.le_refl _) _⟩
  have e10 : (op == 10) = false := by simp [h10]
  by_cases h12 : op = 12
  · subst h12
    rw [shape_12]
    go_enter Try.func15, Try.ntmps15
    go_wp2_with fail
    refine bodyPost_ret (v := .agg #[.string ⟨#[42]⟩, .bool true, .bool false]) (by simp [results, Try.results15, go_sem]) rfl ?_
    exact ⟨rfl, by first | exact (Below.refl _ _).alloc (Nat.le_refl _) _ | exact ((Below.refl _ _).alloc (Nat.le_refl _) _).setCell (Nat.le_refl _) _⟩
  have e12 : (op == 12) = false := by simp [h12]
  by_cases h9 : op = 9
  · subst h9
    rw [shape_9]
    go_enter Try.func15, Try.ntmps15
    go_wp2_with fail
    refine bodyPost_ret (v := .agg #[.string ⟨#[98, 42]⟩, .bool true, .bool false]) (by simp [results, Try.results15, go_sem]) rfl ?_
    exact ⟨rfl, by first | exact (Below.refl _ _).alloc (Nat.le_refl _) _ | exact ((Below.refl _ _).alloc (Nat.le_refl _) _).setCell (Nat.le_refl _) _⟩
  have e9 : (op == 9) = false := by simp [h9]
  by_cases h13 : op = 13
  · subst h13
    rw [shape_13]
    go_enter Try.func15, Try.ntmps15
    go_wp2_with fail
    refine bodyPost_ret (v := .agg #[.string ⟨#[97, 98]⟩, .bool false, .bool false]) (by simp [results, Try.results15, go_sem]) rfl ?_
    exact ⟨rfl, by first | exact (Below.refl _ _).alloc (Nat.le_refl _) _ | exact ((Below.refl _ _).alloc (Nat.le_refl _) _).setCell (Nat.le_refl _) _⟩
  have e13 : (op == 13) = false := by simp [h13]
  by_cases h22 : op = 22
  · subst h22
    rw [shape_22]
    go_enter Try.func15, Try.ntmps15
    go_wp2_with fail
    refine bodyPost_ret (v := .agg #[.string ⟨#[97, 98]⟩, .bool false, .bool false]) (by simp [results, Try.results15, go_sem]) rfl ?_
    exact ⟨rfl, by first | exact (Below.refl _ _).alloc (Nat.le_refl _) _ | exact ((Below.refl _ _).alloc (Nat.le_refl _) _).setCell (Nat.le_refl _) _⟩
  have e22 : (op == 22) = false := by simp [h22]
  by_cases h4 : op = 4
  · subst h4
    rw [shape_4]
    go_enter Try.func15, Try.ntmps15
    go_wp2_with fail
    refine bodyPost_ret (v := .agg #[.string ⟨#[97]⟩, .bool false, .bool false]) (by simp [results, Try.results15, go_sem]) rfl ?_
    exact ⟨rfl, by first | exact (Below.refl _ _).alloc (Nat.le_refl _) _ | exact ((Below.refl _ _).alloc (Nat.le_refl _) _).setCell (Nat.le_refl _) _⟩
  have e4 : (op == 4) = false := by simp [h4]
  by_cases h11 : op = 11
  · subst h11
    rw [shape_11]
    go_enter Try.func15, Try.ntmps15
    go_wp2_with fail
    refine bodyPost_ret (v := .agg #[.string ⟨#[97]⟩, .bool false, .bool false]) (by simp [results, Try.results15, go_sem]) rfl ?_
    exact ⟨rfl, by first | exact (Below.refl _ _).alloc (Nat.le_refl _) _ | exact ((Below.refl _ _).alloc (Nat.le_refl _) _).setCell (Nat.le_refl _) _⟩
  have e11 : (op == 11) = false := by simp [h11]
  by_cases h19 : op = 19
  · subst h19
    rw [shape_19]
    go_enter Try.func15, Try.ntmps15
    go_wp2_with fail
    refine bodyPost_ret (v := .agg #[.string ⟨#[97]⟩, .bool false, .bool false]) (by simp [results, Try.results15, go_sem]) rfl ?_
    exact ⟨rfl, by first | exact (Below.refl _ _).alloc (Nat.le_refl _) _ | exact ((Below.refl _ _).alloc (Nat.le_refl _) _).setCell (Nat.le_refl _) _⟩
  have e19 : (op == 19) = false := by simp [h19]
  by_cases h23 : op = 23
  · subst h23
    rw [shape_23]
    go_enter Try.func15, Try.ntmps15
    go_wp2_with fail
    refine bodyPost_ret (v := .agg #[.string ⟨#[97]⟩, .bool false, .bool false]) (by simp [results, Try.results15, go_sem]) rfl ?_
    exact ⟨rfl, by first | exact (Below.refl _ _).alloc (Nat.le_refl _) _ | exact ((Below.refl _ _).alloc (Nat.le_refl _) _).setCell (Nat.le_refl _) _⟩
  have e23 : (op == 23) = false := by simp [h23]
  by_cases h24 : op = 24
  · subst h24
    rw [shape_24]
    go_enter Try.func15, Try.ntmps15
    go_wp2_with fail
    refine bodyPost_ret (v := .agg #[.string ⟨#[97]⟩, .bool false, .bool false]) (by simp [results, Try.results15, go_sem]) rfl ?_
    exact ⟨rfl, by first | exact (Below.refl _ _).alloc (Nat.le_refl _) _ | exact ((Below.refl _ _).alloc (Nat.le_refl _) _).setCell (Nat.le_refl _) _⟩
  have e24 : (op == 24) = false := by simp [h24]
  by_cases h26 : op = 26
  · subst h26
    rw [shape_26]
    go_enter Try.func15, Try.ntmps15
    go_wp2_with fail
    refine bodyPost_ret (v := .agg #[.string ⟨#[97]⟩, .bool false, .bool false]) (by simp [results, Try.results15, go_sem]) rfl ?_
    exact ⟨rfl, by first | exact (Below.refl _ _).alloc (Nat.le_refl _) _ | exact ((Below.refl _ _).alloc (Nat.le_refl _) _).setCell (Nat.le_refl _) _⟩
  have e26 : (op == 26) = false := by simp [h26]
  by_cases h27 : op = 27
  · subst h27
    rw [shape_27]
    go_enter Try.func15, Try.ntmps15
    go_wp2_with fail
    refine bodyPost_ret (v := .agg #[.string ⟨#[97]⟩, .bool false, .bool false]) (by simp [results, Try.results15, go_sem]) rfl ?_
    exact ⟨rfl, by first | exact (Below.refl _ _).alloc (Nat.le_refl _) _ | exact ((Below.refl _ _).alloc (Nat.le_refl _) _).setCell (Nat.le_refl _) _⟩
  have e27 : (op == 27) = false := by simp [h27]
  by_cases h18 : op = 18
  · subst h18
    rw [shape_18]
    go_enter Try.func15, Try.ntmps15
    go_wp2_with fail
    refine bodyPost_ret (v := .agg #[.string ⟨#[97]⟩, .bool false, .bool true]) (by simp [results, Try.results15, go_sem]) rfl ?_
    exact ⟨rfl, by first | exact (Below.refl _ _).alloc (Nat.le_refl _) _ | exact ((Below.refl _ _).alloc (Nat.le_refl _) _).setCell (Nat.le_refl _) _⟩
  have e18 : (op == 18) = false := by simp [h18]
  by_cases h25 : op = 25
  · subst h25
    rw [shape_25]
    go_enter Try.func15, Try.ntmps15
    go_wp2_with fail
    refine bodyPost_ret (v := .agg #[.string ⟨#[97]⟩, .bool false, .bool true]) (by simp [results, Try.results15, go_sem]) rfl ?_
    exact ⟨rfl, by first | exact (Below.refl _ _).alloc (Nat.le_refl _) _ | exact ((Below.refl _ _).alloc (Nat.le_refl _) _).setCell (Nat.le_refl _) _⟩
  have e25 : (op == 25) = false := by simp [h25]
  by_cases h15 : op = 15
  · subst h15
    rw [shape_15]
    go_enter Try.func15, Try.ntmps15
    go_wp2_with fail
    refine bodyPost_ret (v := .agg #[.string ⟨#[42]⟩, .bool false, .bool true]) (by simp [results, Try.results15, go_sem]) rfl ?_
    exact ⟨rfl, by first | exact (Below.refl _ _).alloc (Nat.le_refl _) _ | exact ((Below.refl _ _).alloc (Nat.le_refl _) _).setCell (Nat.le_refl _) _⟩
  have e15 : (op == 15) = false := by simp [h15]
  by_cases h17 : op = 17
  · subst h17
    rw [shape_17]
    go_enter Try.func15, Try.ntmps15
    go_wp2_with fail
    refine bodyPost_ret (v := .agg #[.string ⟨#[]⟩, .bool false, .bool true]) (by simp [results, Try.results15, go_sem]) rfl ?_
    exact ⟨rfl, by first | exact (Below.refl _ _).alloc (Nat.le_refl _) _ | exact ((Below.refl _ _).alloc (Nat.le_refl _) _).setCell (Nat.le_refl _) _⟩
  have e17 : (op == 17) = false := by simp [h17]
  rw [shape_else h1 h14 h2 h20 h21 h5 h6 h7 h8 h10 h12 h9 h13 h22 h4 h11 h19 h23 h24 h26 h27 h18 h25 h15 h17]
  clear h1 h14 h2 h20 h21 h5 h6 h7 h8 h10 h12 h9 h13 h22 h4 h11 h19 h23 h24 h26 h27 h18 h25 h15 h17
  go_enter Try.func15, Try.ntmps15
  go_wp2_with fail
  refine bodyPost_ret (v := .agg #[.string ⟨#[]⟩, .bool false, .bool false]) (by simp [results, Try.results15, go_sem]) rfl ?_
  exact ⟨rfl, by first | exact (Below.refl _ _).alloc (Nat.le_refl _) _ | exact ((Below.refl _ _).alloc (Nat.le_refl _) _).setCell (Nat.le_refl _) _⟩

theorem field1 (st : ByteArray) (b e : Bool) (w : World) : (Instr.field 55 (.agg #[.string st, .bool b, .bool e]) 1).run Try.prog w = .ok (.bool b) w := by kernel_rfl
theorem field0 (st : ByteArray) (b e : Bool) (w : World) : (Instr.field 55 (.agg #[.string st, .bool b, .bool e]) 0).run Try.prog w = .ok (.string st) w := by kernel_rfl
theorem field2 (st : ByteArray) (b e : Bool) (w : World) : (Instr.field 55 (.agg #[.string st, .bool b, .bool e]) 2).run Try.prog w = .ok (.bool e) w := by kernel_rfl
def writesT (x : InC) : Int := if (shapeF x.op).wr = true then x.a else -1
set_option maxRecDepth 100000 in
set_option maxHeartbeats 4000000 in
theorem writes_any (x : InC) (w : World) : Calls Try.prog 21 #[inV x] w fun e w' => e = .returned (.int .i64 (writesT x)) ∧ Below w.heap.size w w' := by
  obtain ⟨op, a, b, c, A, cap, args⟩ := x
  unfold inV writesT
  simp only
  by_cases h1 : op = 1
  · subst h1
    rw [shape_1, if_pos rfl]
    go_enter Try.func21, Try.ntmps21
    go_wp2_with fail
    go_ret
    exact ⟨rfl, (Below.refl _ _).alloc (Nat.le_refl _) _⟩
  have e1 : (op == 1) = false := by simp [h1]
  by_cases h2 : op = 2
  · subst h2
    rw [shape_2, if_pos rfl]
    go_enter Try.func21, Try.ntmps21
    go_wp2_with fail
    go_ret
    exact ⟨rfl, (Below.refl _ _).alloc (Nat.le_refl _) _⟩
  have e2 : (op == 2) = false := by simp [h2]
  by_cases h5 : op = 5
  · subst h5
    rw [shape_5, if_pos rfl]
    go_enter Try.func21, Try.ntmps21
    go_wp2_with fail
    go_ret
    exact ⟨rfl, (Below.refl _ _).alloc (Nat.le_refl _) _⟩
  have e5 : (op == 5) = false := by simp [h5]
  by_cases h6 : op = 6
  · subst h6
    rw [shape_6, if_pos rfl]
    go_enter Try.func21, Try.ntmps21
    go_wp2_with fail
    go_ret
    exact ⟨rfl, (Below.refl _ _).alloc (Nat.le_refl _) _⟩
  have e6 : (op == 6) = false := by simp [h6]
  by_cases h7 : op = 7
  · subst h7
    rw [shape_7, if_pos rfl]
    go_enter Try.func21, Try.ntmps21
    go_wp2_with fail
    go_ret
    exact ⟨rfl, (Below.refl _ _).alloc (Nat.le_refl _) _⟩
  have e7 : (op == 7) = false := by simp [h7]
  by_cases h8 : op = 8
  · subst h8
    rw [shape_8, if_pos rfl]
    go_enter Try.func21, Try.ntmps21
    go_wp2_with fail
    go_ret
    exact ⟨rfl, (Below.refl _ _).alloc (Nat.le_refl _) _⟩
  have e8 : (op == 8) = false := by simp [h8]
  by_cases h9 : op = 9
  · subst h9
    rw [shape_9, if_pos rfl]
    go_enter Try.func21, Try.ntmps21
    go_wp2_with fail
    go_ret
    exact ⟨rfl, (Below.refl _ _).alloc (Nat.le_refl _) _⟩
  have e9 : (op == 9) = false := by simp [h9]
  by_cases h10 : op = 10
  · subst h10
    rw [shape_10, if_pos rfl]
    go_enter Try.func21, Try.ntmps21
    go_wp2_with fail
    go_ret
    exact ⟨rfl, (Below.refl _ _).alloc (Nat.le_refl _) _⟩
  have e10 : (op == 10) = false := by simp [h10]
  by_cases h12 : op = 12
  · subst h12
    rw [shape_12, if_pos rfl]
    go_enter Try.func21, Try.ntmps21
    go_wp2_with fail
    go_ret
    exact ⟨rfl, (Below.refl _ _).alloc (Nat.le_refl _) _⟩
  have e12 : (op == 12) = false := by simp [h12]
  by_cases h14 : op = 14
  · subst h14
    rw [shape_14, if_pos rfl]
    go_enter Try.func21, Try.ntmps21
    go_wp2_with fail
    go_ret
    exact ⟨rfl, (Below.refl _ _).alloc (Nat.le_refl _) _⟩
  have e14 : (op == 14) = false := by simp [h14]
  by_cases h20 : op = 20
  · subst h20
    rw [shape_20, if_pos rfl]
    go_enter Try.func21, Try.ntmps21
    go_wp2_with fail
    go_ret
    exact ⟨rfl, (Below.refl _ _).alloc (Nat.le_refl _) _⟩
  have e20 : (op == 20) = false := by simp [h20]
  by_cases h21 : op = 21
  · subst h21
    rw [shape_21, if_pos rfl]
    go_enter Try.func21, Try.ntmps21
    go_wp2_with fail
    go_ret
    exact ⟨rfl, (Below.refl _ _).alloc (Nat.le_refl _) _⟩
  have e21 : (op == 21) = false := by simp [h21]
  have hs : (shapeF op).wr = false := by simp only [shapeF, List.mem_cons, List.not_mem_nil, or_false, h1, h2, h5, h6, h7, h8, h9, h10, h12, h14, h20, h21]; (repeat' split) <;> first | rfl | contradiction
  rw [hs, if_neg (by decide)]
  clear hs h1 h2 h5 h6 h7 h8 h9 h10 h12 h14 h20 h21
  go_enter Try.func21, Try.ntmps21
  go_wp2_with fail
  go_ret
  exact ⟨rfl, (Below.refl _ _).alloc (Nat.le_refl _) _⟩
end Go.Proofs.Ythglcnodoophaaa
