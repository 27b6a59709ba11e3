
/-
  A history that came in, opened.
-/
import Derived.Test.YtgkckldflfalgaaEvRow
import Derived.Test.YtgkckldflfalgaaHistDef
import Derived.Lib.SmallJoins
namespace Go.Proofs.Ytgkckldflfalgaa
open Go.ChangeShapes Go.WideShapes Go.ChangeAt Go.RowKit Go.Joins Go.Deep

section
variable {H : Type} {enc : TypeId × Value → H} {W : World}
set_option maxRecDepth 100000 in
theorem open_eventsC {base : Nat} {v : Value} {d : DataW H} {p : List MemPlace} (hv : Value.okWide Try.prog W .any base 22 v) (h : DataW.Trod enc Try.prog W 0 (fun _ => true) true 22 v d p) :
    ∃ (A : Option Addr) (c : Nat) (l : List Ev), v = .slice A l.length c ∧ Row W W.heap.size A (flat evC l) ∧ l.length ≤ c ∧ c ≤ maxLen ∧ (∀ x ∈ l, I64 x.2.2) ∧ ((d = .nil ∧ l = [] ∧ c = 0) ∨ ∃ el sp, d = .slice el sp ∧ el.length = l.length ∧ el.length + sp.length = c) := by
  obtain ⟨A0, n0, c0, rfl⟩ := okWide_slice Try.underlying22 hv
  obtain ⟨fuel, hf⟩ := h
  obtain ⟨A, c, l, hcs, hr, hlc, hm, _, hG, hd⟩ := open_rowOf evC (fun x => I64 x.2.2) (size := 3) Try.underlying22 (by kernel_rfl) evC_len (by decide) (fun n cs y hy => by
    obtain ⟨hl, hfs⟩ := open_fields Try.underlying41 (by kernel_rfl) (by kernel_rfl) hy
    obtain ⟨u0, y0, k0, hu0, ht0⟩ := hfs 0 _ rfl
    obtain ⟨u1, y1, k1, hu1, ht1⟩ := hfs 1 _ rfl
    obtain ⟨u2, y2, k2, hu2, ht2⟩ := hfs 2 _ rfl
    obtain ⟨n0, e0, _, w0⟩ := DataW.trod_int Try.underlying3 ht0
    obtain ⟨n1, e1, _, w1⟩ := DataW.trod_int Try.underlying3 ht1
    obtain ⟨n2, e2, _, w2⟩ := DataW.trod_int Try.underlying3 ht2
    injection e0 with e0
    injection e1 with e1
    injection e2 with e2
    subst e0 e1 e2
    refine ⟨(n0, n1, n2), ?_, I64.of_wf w2⟩
    match cs, hl with
    | [a, b, c], _ =>
      simp at hu0 hu1 hu2
      subst hu0 hu1 hu2
      rfl) hf
  simp [Value.cells] at hcs
  obtain ⟨rfl, rfl, rfl⟩ := hcs
  exact ⟨_, _, l, rfl, hr, hlc, hm, hG, hd⟩
end
end Go.Proofs.Ytgkckldflfalgaa
