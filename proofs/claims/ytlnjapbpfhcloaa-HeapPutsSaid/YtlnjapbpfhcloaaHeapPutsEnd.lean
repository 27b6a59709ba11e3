/-
  HeapPuts: for arbitrary arguments, Put, At and Objects return what the reference returns. For every input, no condition.
-/
import Derived.Test.YtlnjapbpfhcloaaHp10
import Derived.Test.YtlnjapbpfhcloaaOpen2
import Derived.Lib.SmallJoins
namespace Go.Proofs.Ytlnjapbpfhcloaa
open Go.ChangeShapes Go.WideShapes Go.ChangeAt Go.RowKit Go.Joins Go.Deep

section
variable {H : Type} {enc : TypeId × Value → H} {W : World}
theorem u64_of_wf {n : Int} (h : (Lit.int .u64 n).wf = true) : ∃ b : Nat, n = (b : Int) ∧ b < 18446744073709551616 := by
  have hn : 0 ≤ n ∧ n < 18446744073709551616 := by
    simp [Lit.wf, IntKind.min, IntKind.max, IntKind.signed, IntKind.bits] at h
    omega
  exact ⟨n.toNat, by omega, by omega⟩
set_option maxRecDepth 100000 in
theorem open_words {t : TypeId} (ht : Try.prog.underlying t = some (.slice 67)) {fuel : Nat} {cs : List Value} {x : DataW H × List MemPlace} (h : DataW.trod enc Try.prog W 0 (fun _ => true) true fuel t cs = some x) :
    ∃ (A : Option Addr) (c : Nat) (l : List Nat), cs = [.slice A l.length c] ∧ Row W W.heap.size A (flat huC l) ∧ l.length ≤ c ∧ c ≤ maxLen ∧ (A = none → c = 0) ∧ (∀ x ∈ l, x < 18446744073709551616) ∧
      ((x.1 = .nil ∧ l = [] ∧ c = 0) ∨ ∃ el sp, x.1 = .slice el sp ∧ el.length = l.length ∧ el.length + sp.length = c) :=
  open_rowOf huC (fun n => n < 18446744073709551616) (size := 1) ht (by kernel_rfl) (fun _ => rfl) (by decide) (fun n cs y hy => by
    obtain ⟨n0, e0, _, w0⟩ := DataW.trod_int Try.underlying67 hy
    obtain ⟨b, rfl, hb⟩ := u64_of_wf w0
    exact ⟨b, e0, hb⟩) h
set_option maxRecDepth 100000 in
theorem open_object {r : Reach} {b0 : Nat} {v : Value} {d : DataW H} {ps : List MemPlace} (hv : Value.okWide Try.prog W r b0 50 v) (h : DataW.Trod enc Try.prog W 0 (fun _ => true) true 50 v d ps) :
    ∃ x : OC, v = ocV x ∧ Row W W.heap.size x.A (flat huC x.o.parts) ∧ (x.A = none → x.c = 0) := by
  obtain ⟨cs, rfl, hsz⟩ := okWide_struct Try.underlying50 hv
  obtain ⟨fuel, hf⟩ := h
  obtain ⟨ys, k, rfl, hd, hl, hyl, hg⟩ := DataW.trod_struct Try.underlying50 hf
  injection hd with hd
  subst hd
  rw [show Try.prog.cellsOf 50 = 5 by kernel_rfl] at hsz
  obtain ⟨cs⟩ := cs
  match ys, hyl with
  | [y0, y1, y2, y3, y4], _ =>
  match cs, hsz with
  | [c0, c1, c2, c3, c4], _ =>
  have e0 := hg 0 _ rfl
  have e1 := hg 1 _ rfl
  have e2 := hg 2 _ rfl
  have e3 := hg 3 _ rfl
  have e4 := hg 4 _ rfl
  have k0 : Try.prog.cellsOf 3 = 1 := by kernel_rfl
  have k1 : Try.prog.cellsOf 9 = 1 := by kernel_rfl
  have k2 : Try.prog.cellsOf 47 = 1 := by kernel_rfl
  simp only [List.getElem?_cons_zero, List.getElem?_cons_succ] at e0 e1 e2 e3 e4
  obtain ⟨n0, h0, _, w0⟩ := DataW.trod_int Try.underlying3 e0
  obtain ⟨n1, h1, _, w1⟩ := DataW.trod_int Try.underlying3 e1
  obtain ⟨n2, h2, _, w2⟩ := DataW.trod_int Try.underlying3 e2
  obtain ⟨tx, h3, _, _⟩ := DataW.trod_string Try.underlying9 e3
  obtain ⟨A, c, l, h4, hr, _, _, hA, _, _⟩ := open_words Try.underlying47 e4
  injection h0 with h0
  injection h1 with h1
  injection h2 with h2
  injection h3 with h3
  injection h4 with h4
  subst h0 h1 h2 h3 h4
  exact ⟨⟨⟨n0, n1, n2, tx.data.toList, l⟩, A, c⟩, rfl, hr, hA⟩
end

set_option maxRecDepth 100000 in
theorem heapPuts_called : Called 4 Try.f4 := by
  intro H enc W base args ds p hval hA hsz
  rw [Try.params4] at hA hval hsz
  obtain ⟨v0, v1, v2, d0, d1, d2, p0, p1, p2, rfl, rfl, rfl, h0, h1, h2⟩ := trodAll_three hA
  obtain ⟨A0, n0, c0, rfl⟩ := okWide_slice Try.underlying48 (hval 0 48 v0 rfl rfl)
  obtain ⟨fuel, hf⟩ := h0
  obtain ⟨A, c, l, hcs, hr, hlc, hcm, hnone, hfit, hd⟩ := open_words Try.underlying48 hf
  simp [Value.cells] at hcs
  obtain ⟨rfl, rfl, rfl⟩ := hcs
  have hm : l.length * 8 ≤ 140737488355328 := by
    rcases hd with ⟨_, h1, _⟩ | ⟨el, sp, h1, h2, h3⟩
    · rw [h1]; simp
    · have := sized_slice hsz (j := 0) rfl (show ([d0, d1, d2] : List (DataW H))[0]? = some (.slice el sp) by rw [← h1]; rfl) Try.underlying48
      rw [show Try.prog.bytesOf 67 = 8 by kernel_rfl] at this
      unfold reachBytes at this
      omega
  obtain ⟨x, rfl, hrx, hnx⟩ := open_object (hval 1 50 v1 rfl rfl) h1
  obtain ⟨i, rfl, rfl, rfl, _⟩ := open_int Try.underlying3 (hval 2 3 v2 rfl rfl) h2
  exact heapPuts_walk A0 c0 l x i W ⟨hr, hnone, hlc, hcm, hfit⟩ hm hrx hnx

set_option maxRecDepth 100000 in
theorem heapPuts_lifted (os : Os) (started : os.Started) (H : Type) (enc : TypeId × Value → H) :
    ReturnsInHanded {} Try.checked os 4 .any (Rows.heapPutsSpec.pre6 enc Try.prog Try.f4 Rows.heapPutsRow.domain false) (Rows.heapPutsSpec.post enc Try.prog Try.f4 false true false false) :=
  law_lift started (by kernel_rfl) Try.func4
    (ChangeSpec.witness6 (enc := enc) (C := Try.checked) false ⟨#[], #[.slice none 0 0, .agg #[.int .i64 0, .int .i64 0, .int .i64 0, .string ⟨#[]⟩, .slice none 0 0], .int .i64 0], []⟩ 8 (by kernel_rfl) (by kernel_rfl) (by kernel_rfl) (by kernel_rfl))
    rfl rfl (by kernel_rfl) (by kernel_rfl) (fun l hl => by
      rw [Try.params4] at hl
      match l, hl with
      | [d0, d1, d2], _ => rfl) heapPuts_called

theorem heapPuts_over : Rows.heapPutsRow.holds Try.pinned (OpenSpec.ofChange Rows.heapPutsSpec) :=
  OpenClaim.holds_of_wide 4 Try.f4 rfl rfl rfl rfl rfl rfl rfl ⟨rfl, rfl, rfl, rfl, rfl⟩ rfl rfl rfl rfl rfl (by kernel_rfl) Try.func4 (by kernel_rfl)
    (of_decide_eq_true (by kernel_rfl)) (by unfold Func.isWrapper; first | (rw [if_pos (by decide +kernel)]; kernel_rfl) | (rw [if_neg (by decide +kernel)]; exact ⟨rfl, rfl⟩))
    (fun os started H enc _ => heapPuts_lifted os started H enc)

theorem heapPuts_holds : Rows.HeapPutsSaid := heapPuts_over
end Go.Proofs.Ytlnjapbpfhcloaa
