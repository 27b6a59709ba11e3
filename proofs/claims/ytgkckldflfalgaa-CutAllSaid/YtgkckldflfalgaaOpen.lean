
/-
  Arguments opened: a slice of ints, a slice of slices of ints.
-/
import Derived.Test.YtgkckldflfalgaaMem
import Derived.Deep.Matrix
import Derived.LoopTactic
namespace Go.Proofs.Ytgkckldflfalgaa
open Go.ChangeShapes Go.WideShapes Go.RowKit Go.Deep

def I64 (x : Int) : Prop := -9223372036854775808 ≤ x ∧ x ≤ 9223372036854775807
theorem I64.of_wf {x : Int} (h : (Lit.int .i64 x).wf = true) : I64 x := by
  simpa [I64, Lit.wf, IntKind.min, IntKind.max, IntKind.signed, IntKind.bits] using h
theorem I64.getD {xs : List Int} (h : ∀ x ∈ xs, I64 x) (i : Nat) : I64 (xs.getD i 0) := by
  by_cases hi : i < xs.length
  · rw [List.getD_eq_getElem?_getD, List.getElem?_eq_getElem hi]; exact h _ (List.getElem_mem hi)
  · rw [List.getD_eq_getElem?_getD, List.getElem?_eq_none (by omega)]; simp [I64]

/-- A slice of slices of ints: element k holds a slice that reads as the k-th list. -/
def IntRows (w : World) (B : Nat) (A : Option Addr) (xss : List (List Int)) : Prop :=
  0 < xss.length → ∃ b o, A = some ⟨b, o, none⟩ ∧ b < B ∧ ∀ k, k < xss.length → ∃ a' c, w.cell? ⟨b, o + k, none⟩ = some (.slice a' (xss.getD k []).length c) ∧ Row w B a' (ints (xss.getD k [])) ∧
    (xss.getD k []).length ≤ maxLen ∧ ∀ x ∈ xss.getD k [], I64 x

theorem IntRows.below {w w' : World} {B : Nat} {A : Option Addr} {xss : List (List Int)} (h : IntRows w B A xss) (hb : Below B w w') : IntRows w' B A xss := fun hp => by
  obtain ⟨b, o, e, hB, hk⟩ := h hp
  refine ⟨b, o, e, hB, fun k hlt => ?_⟩
  obtain ⟨a', c, h1, h2, h3⟩ := hk k hlt
  exact ⟨a', c, (hb.cell (p := ⟨b, o + k, none⟩) hB).trans h1, h2.below hb, h3⟩
theorem IntRows.at {w : World} {B : Nat} {A : Option Addr} {xss : List (List Int)} (h : IntRows w B A xss) {k : Nat} (hk : k < xss.length) :
    ∃ b o a' c, A = some ⟨b, o, none⟩ ∧ w.cell? ⟨b, o + k, none⟩ = some (.slice a' (xss.getD k []).length c) ∧ Row w B a' (ints (xss.getD k [])) ∧ (xss.getD k []).length ≤ maxLen ∧ ∀ x ∈ xss.getD k [], I64 x := by
  obtain ⟨b, o, e, _, hh⟩ := h (by omega)
  obtain ⟨a', c, h1, h2, h3, h4⟩ := hh k hk
  exact ⟨b, o, a', c, e, h1, h2, h3, h4⟩

theorem lt_of_cell {w : World} {a : Addr} {v : Value} (h : w.cell? a = some v) : a.block < w.heap.size := by
  rcases Nat.lt_or_ge a.block w.heap.size with hl | hg
  · exact hl
  · simp [World.cell?, Array.getElem?_eq_none hg] at h

section
variable {H : Type} {enc : TypeId × Value → H} {P : Program} {W : World}

theorem open_intRow {base : Nat} {t q : TypeId} {v : Value} {d : DataW H} {p : List MemPlace} (ht : P.underlying t = some (.slice q)) (hq : P.underlying q = some (.int .i64)) (cq : P.cellsOf q = 1)
    (hv : Value.okWide P W .any base t v) (h : DataW.Trod enc P W 0 (fun _ => true) true t v d p) :
    ∃ (A : Option Addr) (c : Nat) (xs : List Int), v = .slice A xs.length c ∧ Row W W.heap.size A (ints xs) ∧ xs.length ≤ c ∧ c ≤ maxLen ∧ (∀ x ∈ xs, I64 x) ∧
      ((d = .nil ∧ xs = [] ∧ c = 0) ∨ ∃ el sp, d = .slice el sp ∧ el.length = xs.length ∧ el.length + sp.length = c) := by
  obtain ⟨a0, len, cap, rfl⟩ := okWide_slice ht hv
  obtain ⟨fuel, hf⟩ := h
  rcases open_ints ht hq cq hf with ⟨hcs, hx⟩ | ⟨a, len', cap', zs, hcs, _, hl, hm, hz, hx, hcell, hwz⟩
  · simp [Value.cells] at hcs
    obtain ⟨rfl, rfl, rfl⟩ := hcs
    simp only [Prod.mk.injEq] at hx
    exact ⟨none, 0, [], rfl, Row.nil, by simp, by simp, by simp, .inl ⟨hx.1, rfl, rfl⟩⟩
  · simp [Value.cells] at hcs
    obtain ⟨rfl, rfl, rfl⟩ := hcs
    simp only [if_true] at hz
    simp only [Prod.mk.injEq] at hx
    have hlen : (zs.take len).length = len := by simp; omega
    refine ⟨some a, cap, zs.take len, by rw [hlen], fun hp => ?_, by omega, hm, fun x hx => I64.of_wf (hwz x (List.mem_of_mem_take hx)), .inr ⟨_, _, hx.1, by simp [lits], by simp [lits]; omega⟩⟩
    rw [ints_len, hlen] at hp
    obtain ⟨b, o, spot⟩ := a
    have hc0 := hcell 0 (by omega)
    have hspot : spot = none := by simpa [Addr.add] using World.cell?_spot hc0
    subst hspot
    refine ⟨b, o, rfl, by simpa [Addr.add] using lt_of_cell hc0, fun i u hu => ?_⟩
    obtain ⟨hi, rfl⟩ := List.getElem?_eq_some_iff.1 hu
    rw [ints_len, hlen] at hi
    have hci := hcell i (by omega)
    have e : (⟨b, o, none⟩ : Addr).add i = ⟨b, o + i, none⟩ := by unfold Addr.add; split <;> simp_all
    rw [e] at hci
    rw [hci]
    simp [ints]
    rw [List.getElem?_eq_getElem (by omega)]; rfl

theorem open_intRows {base : Nat} {t e q : TypeId} {v : Value} {d : DataW H} {p : List MemPlace} (ht : P.underlying t = some (.slice e)) (he : P.underlying e = some (.slice q)) (hq : P.underlying q = some (.int .i64)) (ce : P.cellsOf e = 1) (cq : P.cellsOf q = 1)
    (hv : Value.okWide P W .any base t v) (h : DataW.Trod enc P W 0 (fun _ => true) true t v d p) :
    ∃ (A : Option Addr) (c : Nat) (xss : List (List Int)), v = .slice A xss.length c ∧ IntRows W W.heap.size A xss ∧ xss.length ≤ c ∧ c ≤ maxLen ∧
      ((d = .nil ∧ xss = [] ∧ c = 0) ∨ ∃ el sp, d = .slice el sp ∧ el.length = xss.length ∧ el.length + sp.length = c) := by
  obtain ⟨a0, len, cap, rfl⟩ := okWide_slice ht hv
  obtain ⟨fuel, hf⟩ := h
  rcases open_int_rows ht he hq ce cq hf with ⟨hcs, hx⟩ | ⟨a, len', cap', A', L, C, Z, hcs, _, hl, hm, hx, hrow⟩
  · simp [Value.cells] at hcs
    obtain ⟨rfl, rfl, rfl⟩ := hcs
    simp only [Prod.mk.injEq] at hx
    exact ⟨none, 0, [], rfl, fun hp => absurd hp (by simp), by simp, by simp, .inl ⟨hx.1, rfl, rfl⟩⟩
  · simp [Value.cells] at hcs
    obtain ⟨rfl, rfl, rfl⟩ := hcs
    simp only [Prod.mk.injEq] at hx
    have hlen : ((List.range len).map fun r => (Z r).take (L r)).length = len := by simp
    refine ⟨some a, cap, (List.range len).map fun r => (Z r).take (L r), by rw [hlen], fun hp => ?_, by omega, hm, .inr ⟨_, _, hx.1, by simp, by simp; omega⟩⟩
    rw [hlen] at hp
    obtain ⟨b, o, spot⟩ := a
    have hc0 := (hrow 0 (by omega)).1
    have hspot : spot = none := by simpa [Addr.add] using World.cell?_spot hc0
    subst hspot
    refine ⟨b, o, rfl, by simpa [Addr.add] using lt_of_cell hc0, fun k hk => ?_⟩
    rw [hlen] at hk
    obtain ⟨h1, h2, h3, h4, h5, h6, h7⟩ := hrow k (by omega)
    have e : (⟨b, o, none⟩ : Addr).add k = ⟨b, o + k, none⟩ := by unfold Addr.add; split <;> simp_all
    rw [e] at h1
    have eg : ((List.range len).map fun r => (Z r).take (L r)).getD k [] = (Z k).take (L k) := by
      simp [List.getD_eq_getElem?_getD, hk]
    have el : ((Z k).take (L k)).length = L k := by simp; omega
    rw [eg, el]
    refine ⟨A' k, C k, h1, fun hp' => ?_, by omega, fun x hx => I64.of_wf (h5 x (List.mem_of_mem_take hx))⟩
    rw [ints_len, el] at hp'
    have hne : ∃ a', A' k = some a' := by
      rcases hA : A' k with _ | a'
      · have := h6 hA; omega
      · exact ⟨a', rfl⟩
    obtain ⟨a', ha'⟩ := hne
    obtain ⟨_, hcell⟩ := h7 a' ha'
    obtain ⟨b', o', spot⟩ := a'
    have hc0' := hcell 0 (by omega)
    have hspot : spot = none := by simpa [Addr.add] using World.cell?_spot hc0'
    subst hspot
    refine ⟨b', o', ha', by simpa [Addr.add] using lt_of_cell hc0', fun i u hu => ?_⟩
    obtain ⟨hi, rfl⟩ := List.getElem?_eq_some_iff.1 hu
    rw [ints_len, el] at hi
    have hci := hcell i (by omega)
    have e : (⟨b', o', none⟩ : Addr).add i = ⟨b', o' + i, none⟩ := by unfold Addr.add; split <;> simp_all
    rw [e] at hci
    rw [hci]
    simp [ints]
    rw [List.getElem?_eq_getElem (by omega)]; rfl
end
end Go.Proofs.Ytgkckldflfalgaa
