
/-
  HeapBuilds: for arbitrary arguments (values of at most 500 parts, nested at most 60 deep), Build and Read return what the reference returns. For every input, no condition.
-/
import Derived.Test.YtgjimjpbogadjaaBd9
import Derived.Test.YtgjimjpbogadjaaOpen2
import Derived.Lib.SmallJoins
namespace Go.Proofs.Ytgjimjpbogadjaa
open Go.ChangeShapes Go.WideShapes Go.ChangeAt Go.RowKit Go.Joins Go.Deep

section
variable {H : Type} {enc : TypeId × Value → H} {W : World}
theorem u64_of_wf {n : Int} (h : (Lit.int .u64 n).wf = true) : ∃ b : Nat, n = (b : Int) ∧ b < 18446744073709551616 := by
  have hn : 0 ≤ n ∧ n < 18446744073709551616 := by
    simp [Lit.wf, IntKind.min, IntKind.max, IntKind.signed, IntKind.bits] at h
    omega
  exact ⟨n.toNat, by omega, by omega⟩
set_option maxRecDepth 100000 in
theorem open_words {t : TypeId} (ht : Try.prog.underlying t = some (.slice 27)) {fuel : Nat} {cs : List Value} {x : DataW H × List MemPlace} (h : DataW.trod enc Try.prog W 0 (fun _ => true) true fuel t cs = some x) :
    ∃ (A : Option Addr) (c : Nat) (l : List Nat), cs = [.slice A l.length c] ∧ Row W W.heap.size A (flat huC l) ∧ l.length ≤ c ∧ c ≤ maxLen ∧ (A = none → c = 0) ∧ (∀ x ∈ l, x < 18446744073709551616) ∧
      ((x.1 = .nil ∧ l = [] ∧ c = 0) ∨ ∃ el sp, x.1 = .slice el sp ∧ el.length = l.length ∧ el.length + sp.length = c) :=
  open_rowOf huC (fun n => n < 18446744073709551616) (size := 1) ht (by kernel_rfl) (fun _ => rfl) (by decide) (fun n cs y hy => by
    obtain ⟨n0, e0, _, w0⟩ := DataW.trod_int Try.underlying27 hy
    obtain ⟨b, rfl, hb⟩ := u64_of_wf w0
    exact ⟨b, e0, hb⟩) h
set_option maxRecDepth 100000 in
theorem open_valV {r : Reach} {b0 : Nat} {v : Value} {d : DataW H} {ps : List MemPlace} (hv : Value.okWide Try.prog W r b0 26 v) (h : DataW.Trod enc Try.prog W 0 (fun _ => true) true 26 v d ps) (hx : Sized Try.prog 26 d) :
    ∃ (n : Nat) (x : VC) (t : Val), v = valV x ∧ VIn W (· < W.heap.size) n x t := by
  obtain ⟨cs, rfl, hsz⟩ := okWide_struct Try.underlying26 hv
  obtain ⟨fuel, hf⟩ := h
  obtain ⟨y, hy, t, ht⟩ := open_val _ _ _ hf hx
  refine ⟨fuel, y, t, ?_, ht⟩
  have : cs = (valC y).toArray := by
    rw [← hy]
    simp [Value.cells]
  rw [this]
  rfl
end

set_option maxRecDepth 100000 in
theorem heapBuilds_called : Called 3 Try.f3 := by
  intro H enc W base args ds p hval hA hsz
  rw [Try.params3] at hA hval hsz
  obtain ⟨v0, v1, v2, d0, d1, d2, p0, p1, p2, rfl, rfl, rfl, h0, h1, h2⟩ := trodAll_three hA
  obtain ⟨A0, n0, c0, rfl⟩ := okWide_slice Try.underlying23 (hval 0 23 v0 rfl rfl)
  obtain ⟨fuel, hf⟩ := h0
  obtain ⟨A, c, l, hcs, hr, hlc, hcm, hnone, hfit, _⟩ := open_words Try.underlying23 hf
  simp [Value.cells] at hcs
  obtain ⟨rfl, rfl, rfl⟩ := hcs
  obtain ⟨n, x, t, rfl, hx⟩ := open_valV (hval 1 26 v1 rfl rfl) h1 (sized_each hsz (j := 1) rfl rfl)
  obtain ⟨i, rfl, rfl, rfl, wu⟩ := open_int Try.underlying27 (hval 2 27 v2 rfl rfl) h2
  obtain ⟨u, rfl, hu⟩ := u64_of_wf wu
  exact heapBuilds_walk n x t l A0 c0 u W hu hx ⟨hr, hnone, hlc, hcm, hfit⟩

set_option maxRecDepth 100000 in
theorem heapBuilds_lifted (os : Os) (started : os.Started) (H : Type) (enc : TypeId × Value → H) :
    ReturnsInHanded {} Try.checked os 3 .any (Rows.heapBuildsSpec.pre6 enc Try.prog Try.f3 Rows.heapBuildsRow.domain false) (Rows.heapBuildsSpec.post enc Try.prog Try.f3 false true false false) :=
  law_lift started (by kernel_rfl) Try.func3
    (ChangeSpec.witness6 (enc := enc) (C := Try.checked) false ⟨#[], #[.slice none 0 0, .agg #[.int .i64 0, .int .i64 0, .string ⟨#[]⟩, .slice none 0 0], .int .u64 0], []⟩ 8 (by kernel_rfl) (by kernel_rfl) (by kernel_rfl) (by kernel_rfl))
    rfl rfl (by kernel_rfl) (by kernel_rfl) (fun l hl => by
      rw [Try.params3] at hl
      match l, hl with
      | [d0, d1, d2], _ => rfl) heapBuilds_called

theorem heapBuilds_over : Rows.heapBuildsRow.holds Try.pinned (OpenSpec.ofChange Rows.heapBuildsSpec) :=
  OpenClaim.holds_of_wide 3 Try.f3 rfl rfl rfl rfl rfl rfl rfl ⟨rfl, rfl, rfl, rfl, rfl⟩ rfl rfl rfl rfl rfl (by kernel_rfl) Try.func3 (by kernel_rfl)
    (of_decide_eq_true (by kernel_rfl)) (by unfold Func.isWrapper; first | (rw [if_pos (by decide +kernel)]; kernel_rfl) | (rw [if_neg (by decide +kernel)]; exact ⟨rfl, rfl⟩))
    (fun os started H enc _ => heapBuilds_lifted os started H enc)

theorem heapBuilds_holds : Rows.HeapBuildsSaid := heapBuilds_over
end Go.Proofs.Ytgjimjpbogadjaa
