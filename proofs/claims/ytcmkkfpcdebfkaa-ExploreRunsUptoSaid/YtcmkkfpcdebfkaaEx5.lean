/-
  A state turned from one package's type to the other's (roadlaw4.state).
-/
import Derived.Test.YtcmkkfpcdebfkaaEx3
namespace Go.Proofs.Ytcmkkfpcdebfkaa
open Go.RowKit

set_option maxRecDepth 100000 in
set_option maxHeartbeats 4000000 in
theorem stateC (s : List Int) (W : World) (hs : s.length = 12) :
    Calls Try.prog 26 #[.agg (ints s).toArray] W fun e w' => e = .returned (.agg (ints s).toArray) ∧ Below W.heap.size W w' := by
  match s, hs with
  | [s0, s1, s2, s3, s4, s5, s6, s7, s8, s9, s10, s11], _ =>
    simp only [ints, List.map_cons, List.map_nil]
    have HB := Lib.hid (((Below.refl W.heap.size W).alloc (Nat.le_refl _) (.cells #[.int .i64 s0, .int .i64 s1, .int .i64 s2, .int .i64 s3, .int .i64 s4, .int .i64 s5, .int .i64 s6, .int .i64 s7, .int .i64 s8, .int .i64 s9, .int .i64 s10, .int .i64 s11] 49)))
    go_enter Try.func26, Try.ntmps26
    go_wp2_with fail
    refine bodyPost_ret (v := .agg #[.int .i64 s0, .int .i64 s1, .int .i64 s2, .int .i64 s3, .int .i64 s4, .int .i64 s5, .int .i64 s6, .int .i64 s7, .int .i64 s8, .int .i64 s9, .int .i64 s10, .int .i64 s11]) (by simp [results, Try.results26, go_sem]) rfl ?_
    exact ⟨rfl, HB.out.alloc (by simp) _⟩
end Go.Proofs.Ytcmkkfpcdebfkaa
