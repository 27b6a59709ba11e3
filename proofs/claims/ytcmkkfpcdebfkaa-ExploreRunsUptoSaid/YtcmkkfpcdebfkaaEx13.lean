/-
  Two states compared; the step of an instruction; the law's first program.
-/
import Derived.Test.YtcmkkfpcdebfkaaEx12
import Derived.Test.YtcmkkfpcdebfkaaEx9
import Derived.Test.YtcmkkfpcdebfkaaEx5
import Derived.Laws.StructEq
namespace Go.Proofs.Ytcmkkfpcdebfkaa
open Go.RowKit

theorem st_fields : Try.prog.underlying 36 = some (.struct (Try.prog.fieldsOf 36)) := by kernel_rfl
set_option maxRecDepth 100000 in
theorem arr4_same (w : World) (a b c d : Int) : (Op.equalIn 9999 34 (.agg #[.int .i64 a, .int .i64 b, .int .i64 c, .int .i64 d]) (.agg #[.int .i64 a, .int .i64 b, .int .i64 c, .int .i64 d])).run Try.prog w = .ok true w := by
  have h97 := Try.underlying34
  have hs : (sizeOf 3).run Try.prog w = .ok 1 w := by kernel_rfl
  have p0 : (part 3 #[.int .i64 a, .int .i64 b, .int .i64 c, .int .i64 d] 0).run Try.prog w = .ok (.int .i64 a) w := by kernel_rfl
  have p1 : (part 3 #[.int .i64 a, .int .i64 b, .int .i64 c, .int .i64 d] 1).run Try.prog w = .ok (.int .i64 b) w := by kernel_rfl
  have p2 : (part 3 #[.int .i64 a, .int .i64 b, .int .i64 c, .int .i64 d] 2).run Try.prog w = .ok (.int .i64 c) w := by kernel_rfl
  have p3 : (part 3 #[.int .i64 a, .int .i64 b, .int .i64 c, .int .i64 d] 3).run Try.prog w = .ok (.int .i64 d) w := by kernel_rfl
  have e := fun x => run_equalIn_int (P := Try.prog) w 9997 3 .i64 .i64 x x Try.underlying3
  simp only [beq_self_eq_true] at e
  rw [show (9999 : Nat) = 9998 + 1 from rfl]
  unfold Op.equalIn
  simp only [Sem.run_bind, run_underlying h97, Result.andThen_ok, hs, Std.Legacy.Range.forIn_eq_forIn_range', Std.Legacy.Range.size, Nat.sub_zero, Nat.add_sub_cancel, Nat.div_one]
  rw [show List.range' 0 4 1 = [0, 1, 2, 3] from rfl]
  simp only [List.forIn_cons, List.forIn_nil, Sem.run_bind, Nat.mul_one, p0, p1, p2, p3, e, Result.andThen_ok, Bool.not_true, Bool.false_eq_true, if_false, Sem.run_pure]
theorem eq_st (w : World) (a : List Int) (ha : a.length = 12) : (binOp .eql 36 (.agg (ints a).toArray) (.agg (ints a).toArray)).run Try.prog w = .ok (.bool true) w := by
  match a, ha with
  | [a0, a1, a2, a3, a4, a5, a6, a7, a8, a9, a10, a11], _ =>
    simp only [ints, List.map_cons, List.map_nil]
    rw [run_eql_struct, run_equalIn_struct w 9999 _ _ _ st_fields (by kernel_rfl)]
    simp [Program.fieldsOf, Try.underlying36, Op.eqFields, go_sem, arr4_same]
theorem neq_st (w : World) (a : List Int) (ha : a.length = 12) : (binOp .neq 36 (.agg (ints a).toArray) (.agg (ints a).toArray)).run Try.prog w = .ok (.bool false) w := by
  match a, ha with
  | [a0, a1, a2, a3, a4, a5, a6, a7, a8, a9, a10, a11], _ =>
    simp only [ints, List.map_cons, List.map_nil]
    rw [run_neq_struct, run_equalIn_struct w 9999 _ _ _ st_fields (by kernel_rfl)]
    simp [Program.fieldsOf, Try.underlying36, Op.eqFields, go_sem, arr4_same]

theorem stepR (yk yb : Int) (n who : Nat) (W : World) (h4 : n < 4) (hk : 1 ≤ yk ∧ yk ≤ 4) :
    Calls Try.prog 28 #[.agg #[.int .i64 yk, .int .i64 n, .int .i64 yb], .int .i64 who] W fun e w' => e = .returned (.agg (ptC (stepOf (yk, (n : Int), yb) who)).toArray) ∧ Below W.heap.size W w' := by
  have hk' : yk = 1 ∨ yk = 2 ∨ yk = 3 ∨ yk = 4 := by omega
  rcases hk' with rfl | rfl | rfl | rfl
  · rw [stepOf_else _ _ _ (by decide) (by decide)]; exact stepR1 n yb who W h4
  · rw [stepOf_two]; exact stepR2 n yb who W h4
  · rw [stepOf_three]; exact stepR3 n yb who W h4
  · rw [stepOf_else _ _ _ (by decide) (by decide)]; exact stepR4 n yb who W h4

def l0 : List (List Do) := [[(3, 0, 3)]]
def s0 : List Int := [3, 0, 0, 0, 0, 0, 0, 0, 1, 0, 0, 0]
theorem run_l0 : runT l0 [0, 0] = (s0, 1, 0) := by decide +kernel
/-- The law's own program. -/
theorem pin_l0 {w : World} {g1 g2 : Nat} (h1 : Box w g1 40 #[.int .i64 3, .int .i64 0, .int .i64 3]) (h2 : Box w g2 41 #[.slice (some ⟨g1, 0, none⟩) 1 1]) : PIn w (some ⟨g2, 0, none⟩) 1 l0 := by
  refine ⟨fun i hi => ?_, by decide, by decide, by decide, by decide⟩
  obtain rfl : i = 0 := by simp [l0] at hi; omega
  refine ⟨g2, 0, some ⟨g1, 0, none⟩, 1, rfl, h2.lt, h2.cell 0, fun _ => ⟨g1, 0, rfl, h1.lt, fun i v hv => ?_⟩, by decide, by decide, fun e => by cases e⟩
  rw [Nat.zero_add, h1.cell]
  rw [List.getElem?_toArray]
  exact hv
end Go.Proofs.Ytcmkkfpcdebfkaa
