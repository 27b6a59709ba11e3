
/-
  Which object a kind of value is (heap.kinds, slices.Index).
-/
import Derived.Test.YtgjimjpbogadjaaBdDef
import Derived.Test.YtgjimjpbogadjaaCatInts
namespace Go.Proofs.Ytgjimjpbogadjaa
open Go.RowKit

set_option maxRecDepth 100000 in
theorem hkinds_any (w : World) : Calls Try.prog 114 #[] w fun e w' => e = .returned (.agg #[.int .i64 0, .int .i64 2, .int .i64 4, .int .i64 5, .int .i64 7, .int .i64 8]) ∧ Below w.heap.size w w' := by
  go_enter Try.func114, Try.ntmps114
  go_wp2_with fail
  refine bodyPost_ret (v := .agg #[.int .i64 0, .int .i64 2, .int .i64 4, .int .i64 5, .int .i64 7, .int .i64 8]) (by simp [results, Try.results114, go_sem]) rfl ?_
  exact ⟨rfl, (Below.refl _ _).alloc (Nat.le_refl _) _⟩

def kIdx (y : Int) : Int := idxFrom (fun x => y == x) [0, 2, 4, 5, 7, 8] 0
theorem kIdx_is (y : Int) : (kIdx y < 1 → kindIx y = 0) ∧ (1 ≤ kIdx y → kindIx y = kIdx y) ∧ -1 ≤ kIdx y ∧ kIdx y ≤ 5 := by
  by_cases h0 : y = 0
  · subst h0; decide
  by_cases h2 : y = 2
  · subst h2; decide
  by_cases h4 : y = 4
  · subst h4; decide
  by_cases h5 : y = 5
  · subst h5; decide
  by_cases h7 : y = 7
  · subst h7; decide
  by_cases h8 : y = 8
  · subst h8; decide
  have e : kIdx y = -1 := by simp [kIdx, idxFrom, h0, h2, h4, h5, h7, h8]
  rw [e]
  refine ⟨fun _ => ?_, fun h => by omega, by omega, by omega⟩
  simp [kindIx, h2, h4, h5, h7, h8]
/-- What Index answers over the kinds. -/
theorem index_kinds (b : Nat) (y : Int) (w : World) (hb : Box w b 193 #[.int .i64 0, .int .i64 2, .int .i64 4, .int .i64 5, .int .i64 7, .int .i64 8]) :
    Calls Try.prog 115 #[.slice (some ⟨b, 0, none⟩) 6 6, .int .i64 y] w fun e w' => e = .returned (.int .i64 (kIdx y)) ∧ w = w' :=
  index_ints (some ⟨b, 0, none⟩) 6 [0, 2, 4, 5, 7, 8] y w.heap.size w (fun _ => ⟨b, 0, rfl, hb.lt, fun i v hv => by
    rw [hb.cell, Nat.zero_add]
    rw [← hv]
    simp [ints]⟩) (by unfold maxLen; decide)
end Go.Proofs.Ytgjimjpbogadjaa
