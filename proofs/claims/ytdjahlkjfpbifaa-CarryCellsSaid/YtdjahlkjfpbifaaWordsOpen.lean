
/-
  Heaps and words that are handed in.
-/
import Derived.Test.YtdjahlkjfpbifaaCy1
import Derived.Test.YtdjahlkjfpbifaaOpen2
import Derived.Lib.SmallJoins
namespace Go.Proofs.Ytdjahlkjfpbifaa
open Go.ChangeShapes Go.WideShapes Go.ChangeAt Go.RowKit Go.Joins Go.Deep

section
variable {H : Type} {enc : TypeId × Value → H} {W : World}
theorem u64_of_wf {n : Int} (h : (Lit.int .u64 n).wf = true) : ∃ b : Nat, n = (b : Int) ∧ b < 18446744073709551616 := by
  have hn : 0 ≤ n ∧ n < 18446744073709551616 := by
    simp [Lit.wf, IntKind.min, IntKind.max, IntKind.signed, IntKind.bits] at h
    omega
  exact ⟨n.toNat, by omega, by omega⟩
set_option maxRecDepth 100000 in
theorem open_words {t : TypeId} (ht : Try.prog.underlying t = some (.slice 90)) {fuel : Nat} {cs : List Value} {x : DataW H × List MemPlace} (h : DataW.trod enc Try.prog W 0 (fun _ => true) true fuel t cs = some x) :
    ∃ (A : Option Addr) (c : Nat) (l : List Nat), cs = [.slice A l.length c] ∧ Row W W.heap.size A (flat huC l) ∧ l.length ≤ c ∧ c ≤ maxLen ∧ (A = none → c = 0) ∧ (∀ x ∈ l, x < 18446744073709551616) ∧
      ((x.1 = .nil ∧ l = [] ∧ c = 0) ∨ ∃ el sp, x.1 = .slice el sp ∧ el.length = l.length ∧ el.length + sp.length = c) :=
  open_rowOf huC (fun n => n < 18446744073709551616) (size := 1) ht (by kernel_rfl) (fun _ => rfl) (by decide) (fun n cs y hy => by
    obtain ⟨n0, e0, _, w0⟩ := DataW.trod_int Try.underlying90 hy
    obtain ⟨b, rfl, hb⟩ := u64_of_wf w0
    exact ⟨b, e0, hb⟩) h
/-- A slice that is handed in lies in a block that is there. -/
theorem blk_of_ok {P : Program} {t e : TypeId} {r : Reach} {b0 n c : Nat} {A : Option Addr} (ht : P.underlying t = some (.slice e)) (hv : Value.okWide P W r b0 t (.slice A n c)) : ∀ b, blkO A b → b < W.heap.size := by
  intro b hb
  cases A with
  | none => exact absurd hb (blkO_none b)
  | some a =>
    have hab := blkO_some hb
    subst hab
    simp only [Value.okWide, ht, Cell.okWide, Cell.ok, World.has] at hv
    obtain ⟨_, _, _, _, row, cells, hs, _⟩ := hv
    unfold World.shape? at hs
    rcases Nat.lt_or_ge a.block W.heap.size with hl | hge
    · exact hl
    · rw [Array.getElem?_eq_none hge] at hs
      cases hs
set_option maxRecDepth 100000 in
theorem open_wordsV {t : TypeId} (ht : Try.prog.underlying t = some (.slice 90)) {r : Reach} {b0 : Nat} {v : Value} {d : DataW H} {ps : List MemPlace} (hv : Value.okWide Try.prog W r b0 t v) (h : DataW.Trod enc Try.prog W 0 (fun _ => true) true t v d ps) :
    ∃ (A : Option Addr) (c : Nat) (l : List Nat), v = .slice A l.length c ∧ HpIn W A c l ∧ (∀ b, blkO A b → b < W.heap.size) ∧ ((d = .nil ∧ l = [] ∧ c = 0) ∨ ∃ el sp, d = .slice el sp ∧ el.length = l.length ∧ el.length + sp.length = c) := by
  obtain ⟨A0, n0, c0, rfl⟩ := okWide_slice ht hv
  obtain ⟨fuel, hf⟩ := h
  obtain ⟨A, c, l, hcs, hr, hlc, hcm, hnone, hfit, hd⟩ := open_words ht hf
  simp [Value.cells] at hcs
  obtain ⟨rfl, rfl, rfl⟩ := hcs
  exact ⟨A0, c0, l, rfl, ⟨hr, hnone, hlc, hcm, hfit⟩, blk_of_ok ht hv, hd⟩
set_option maxRecDepth 100000 in
theorem open_heap {r : Reach} {b0 : Nat} {v : Value} {d : DataW H} {ps : List MemPlace} (hv : Value.okWide Try.prog W r b0 89 v) (h : DataW.Trod enc Try.prog W 0 (fun _ => true) true 89 v d ps) :
    ∃ (A : Option Addr) (c : Nat) (l : List Nat), v = .slice A l.length c ∧ HpIn W A c l ∧ (∀ b, blkO A b → b < W.heap.size) ∧ ((d = .nil ∧ l = [] ∧ c = 0) ∨ ∃ el sp, d = .slice el sp ∧ el.length = l.length ∧ el.length + sp.length = c) :=
  open_wordsV Try.underlying89 hv h
set_option maxRecDepth 100000 in
theorem open_u64 {r : Reach} {b0 : Nat} {t : TypeId} (ht : Try.prog.underlying t = some (.int .u64)) {v : Value} {d : DataW H} {ps : List MemPlace} (hv : Value.okWide Try.prog W r b0 t v) (h : DataW.Trod enc Try.prog W 0 (fun _ => true) true t v d ps) :
    ∃ u : Nat, v = .int .u64 (u : Int) ∧ u < 18446744073709551616 := by
  obtain ⟨n0, rfl, _, _, w0⟩ := open_int ht hv h
  obtain ⟨b, rfl, hb⟩ := u64_of_wf w0
  exact ⟨b, rfl, hb⟩
end
end Go.Proofs.Ytdjahlkjfpbifaa
