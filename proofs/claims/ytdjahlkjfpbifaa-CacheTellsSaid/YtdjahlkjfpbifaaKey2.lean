
/-
  Maps whose keys are pairs of ints: an array of two, or a struct of two.
-/
import Derived.Test.YtdjahlkjfpbifaaMapV
import Derived.WideKeyPair
import Derived.DeepKeys4
namespace Go.Proofs.Ytdjahlkjfpbifaa
open Go.RowKit Go.Maps Go.WideMaps

/-- A pair of ints. -/
def K2 : Type := { x : Int × Int // I64 x.1 ∧ I64 x.2 }
instance : DecidableEq K2 := fun a b => decidable_of_iff (a.1 = b.1) Subtype.ext_iff.symm
def k2 (a b : Int) (ha : I64 a) (hb : I64 b) : K2 := ⟨(a, b), ha, hb⟩
theorem wf_i64 {a : Int} (h : I64 a) : (Lit.int .i64 a).wf = true := by simpa [I64, Lit.wf, IntKind.min, IntKind.max, IntKind.signed, IntKind.bits] using h
def k2L (x : K2) : Lit := .string (keyBytes [.int .i64 x.1.1, .int .i64 x.1.2])
theorem k2L_inj (x y : K2) (h : k2L x = k2L y) : x = y := by
  obtain ⟨⟨a, b⟩, ha, hb⟩ := x
  obtain ⟨⟨c, d⟩, hc, hd⟩ := y
  unfold k2L at h
  injection h with h
  have := keyBytes_inj (l := [.int .i64 a, .int .i64 b]) (l' := [.int .i64 c, .int .i64 d]) (by simp [Alike, Lit.sameKind]) (by
    intro z hz
    simp only [List.mem_cons, List.not_mem_nil, or_false] at hz
    rcases hz with rfl | rfl
    · exact wf_i64 ha
    · exact wf_i64 hb) (by
    intro z hz
    simp only [List.mem_cons, List.not_mem_nil, or_false] at hz
    rcases hz with rfl | rfl
    · exact wf_i64 hc
    · exact wf_i64 hd) h
  simp only [List.cons.injEq, Lit.int.injEq, true_and, and_true] at this
  exact Subtype.ext (by simp [this.1, this.2])
theorem k2L_key (x : K2) : WideAt.IsKeyLit (k2L x) := by unfold k2L; simp [WideAt.IsKeyLit]

theorem key2_arr : ArrKey Try.prog 70 3 2 := ⟨Try.underlying70, by kernel_rfl, by kernel_rfl, by kernel_rfl⟩
theorem types_succ : ∃ m, Try.prog.types.size = m + 1 := ⟨Try.prog.types.size - 1, by
  have h : 0 < Try.prog.types.size := of_decide_eq_true (by kernel_rfl)
  omega⟩
theorem pair_key {a b : Int} (ha : I64 a) (hb : I64 b) : keyOf Try.prog 70 (.agg #[.int .i64 a, .int .i64 b]) = some (k2L (k2 a b ha hb)) :=
  keyOf_pair key2_arr Try.underlying3 types_succ (wf_i64 ha) (wf_i64 hb)
theorem laid_all : laidOutB Try.prog = true := by kernel_rfl
theorem pairs_keyed : Keyed Try.prog 70 := Keyed.of_law (deep_law_laid laid_all (m := 2) (by omega) (of_decide_eq_true (by kernel_rfl)) (by kernel_rfl) (by rw [Try.underlying70]))
theorem sites_keyed : Keyed Try.prog 176 := Keyed.of_law (deep_law_laid laid_all (m := 2) (by omega) (of_decide_eq_true (by kernel_rfl)) (by kernel_rfl) (by rw [Try.underlying176]))
theorem site_key {a b : Int} (ha : I64 a) (hb : I64 b) : keyOf Try.prog 176 (.agg #[.int .i64 a, .int .i64 b]) = some (k2L (k2 a b ha hb)) := by
  have hkt : Try.prog.keyType 176 = true := by kernel_rfl
  have hc : Try.prog.cellsOf 176 = 2 := by kernel_rfl
  have hc1 : Try.prog.cellsOf 3 = 1 := by kernel_rfl
  obtain ⟨m, hm⟩ := types_succ
  unfold keyOf
  simp only [Try.underlying176]
  rw [if_pos (by simp [hkt, Value.formed, Try.underlying176, hc]), hm]
  unfold Program.keyLits
  simp only [Try.underlying176, Value.cells]
  rw [if_pos (by rw [hc]; exact ⟨rfl, by decide +kernel⟩)]
  simp [List.mapM_cons, hc1, Program.keyLits, Try.underlying3, wf_i64 ha, wf_i64 hb, k2L, k2]
end Go.Proofs.Ytdjahlkjfpbifaa
