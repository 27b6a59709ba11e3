
/-
  Maps whose keys are arrays of eight ints.
-/
import Derived.Test.YtgkckldflfalgaaIntSet
import Derived.WideKeyPair
import Derived.DeepKeys4
namespace Go.Proofs.Ytgkckldflfalgaa
open Go.RowKit Go.Maps Go.WideMaps

/-- Eight ints. -/
def K8 : Type := { x : List Int // x.length = 8 ∧ ∀ y ∈ x, I64 y }
instance : DecidableEq K8 := fun a b => decidable_of_iff (a.1 = b.1) Subtype.ext_iff.symm
def litsI (x : List Int) : List Lit := x.map fun a => .int .i64 a
def k8L (x : K8) : Lit := .string (keyBytes (litsI x.1))
theorem lits_alike : ∀ {a b : List Int}, a.length = b.length → Alike (litsI a) (litsI b)
  | [], [], _ => trivial
  | x :: a, y :: b, h => ⟨by simp [Lit.sameKind], lits_alike (by simpa using h)⟩
theorem wf_i64C {a : Int} (h : I64 a) : (Lit.int .i64 a).wf = true := by simpa [I64, Lit.wf, IntKind.min, IntKind.max, IntKind.signed, IntKind.bits] using h
theorem lits_inj {a b : List Int} (h : litsI a = litsI b) : a = b := by
  unfold litsI at h
  exact (List.map_inj_right (f := fun a : Int => Lit.int .i64 a) fun x y e => by injection e).1 h
theorem k8L_inj (x y : K8) (h : k8L x = k8L y) : x = y := by
  unfold k8L at h
  injection h with h
  have hw : ∀ z : K8, ∀ u ∈ litsI z.1, u.keyWf := fun z u hu => by
    obtain ⟨a, ha, rfl⟩ := List.mem_map.1 hu
    exact wf_i64C (z.2.2 a ha)
  exact Subtype.ext (lits_inj (keyBytes_inj (lits_alike (by rw [x.2.1, y.2.1])) (hw x) (hw y) h))
theorem k8L_key (x : K8) : WideAt.IsKeyLit (k8L x) := by unfold k8L; simp [WideAt.IsKeyLit]
theorem key8_arr : ArrKey Try.prog 36 3 8 := ⟨Try.underlying36, by kernel_rfl, by kernel_rfl, by kernel_rfl⟩
theorem types_succC : ∃ m, Try.prog.types.size = m + 1 := ⟨Try.prog.types.size - 1, by
  have h : 0 < Try.prog.types.size := of_decide_eq_true (by kernel_rfl)
  omega⟩
theorem laid_allC : laidOutB Try.prog = true := by kernel_rfl
theorem eights_keyed : Keyed Try.prog 36 := Keyed.of_law (deep_law_laid laid_allC (m := 2) (by omega) (of_decide_eq_true (by kernel_rfl)) (by kernel_rfl) (by rw [Try.underlying36]))
def cutV (c : List Int) : Value := .agg (ints c).toArray
theorem keyOf_eight {P : Program} {k e : TypeId} {q : IntKind} (A : ArrKey P k e 8) (he : P.underlying e = some (.int q)) (hsz : ∃ m, P.types.size = m + 1) {a0 a1 a2 a3 a4 a5 a6 a7 : Int} (w0 : (Lit.int q a0).wf = true) (w1 : (Lit.int q a1).wf = true) (w2 : (Lit.int q a2).wf = true) (w3 : (Lit.int q a3).wf = true)
    (w4 : (Lit.int q a4).wf = true) (w5 : (Lit.int q a5).wf = true) (w6 : (Lit.int q a6).wf = true) (w7 : (Lit.int q a7).wf = true) :
    keyOf P k (.agg #[.int q a0, .int q a1, .int q a2, .int q a3, .int q a4, .int q a5, .int q a6, .int q a7]) = some (.string (keyBytes [.int q a0, .int q a1, .int q a2, .int q a3, .int q a4, .int q a5, .int q a6, .int q a7])) := by
  have hkt := A.keyType hsz
  obtain ⟨m, hm⟩ := hsz
  unfold keyOf
  simp only [A.hu]
  rw [if_pos (by simp [hkt, Value.formed, A.hu, A.size]), hm]
  unfold Program.keyLits
  simp only [A.hu, Value.cells]
  rw [if_pos (by rw [A.size]; rfl), show List.range 8 = [0, 1, 2, 3, 4, 5, 6, 7] from rfl]
  simp only [List.mapM_cons, List.mapM_nil, A.one]
  cases m with
  | zero => simp [Program.keyLits, he, w0, w1, w2, w3, w4, w5, w6, w7]
  | succ m => simp [Program.keyLits, he, w0, w1, w2, w3, w4, w5, w6, w7]
theorem eight_key (x : K8) : keyOf Try.prog 36 (cutV x.1) = some (k8L x) := by
  obtain ⟨x, hl, hw⟩ := x
  match x, hl, hw with
  | [a0, a1, a2, a3, a4, a5, a6, a7], _, hw =>
    exact keyOf_eight key8_arr Try.underlying3 types_succC (wf_i64C (hw a0 (by simp))) (wf_i64C (hw a1 (by simp))) (wf_i64C (hw a2 (by simp))) (wf_i64C (hw a3 (by simp))) (wf_i64C (hw a4 (by simp))) (wf_i64C (hw a5 (by simp))) (wf_i64C (hw a6 (by simp))) (wf_i64C (hw a7 (by simp)))
end Go.Proofs.Ytgkckldflfalgaa
