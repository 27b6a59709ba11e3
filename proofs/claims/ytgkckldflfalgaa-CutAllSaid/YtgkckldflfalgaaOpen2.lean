
/-
  Arguments opened: a slice of any elements, out of a lemma that opens one element; a struct of one-cell fields.
-/
import Derived.Test.YtgkckldflfalgaaRows2
import Derived.Deep.Slices
import Derived.Deep.Fields
import Derived.ChangeSame
import Derived.Laws.Strings
namespace Go.Proofs.Ytgkckldflfalgaa
open Go.ChangeShapes Go.WideShapes Go.RowKit Go.Deep

theorem bytes_inj (a b : ByteArray) : a.toList = b.toList ↔ a = b := by
  rw [ByteArray.toList_eq, ByteArray.toList_eq]
  obtain ⟨⟨x⟩⟩ := a
  obtain ⟨⟨y⟩⟩ := b
  simp
theorem addr_add (b o k : Nat) : (⟨b, o, none⟩ : Addr).add k = ⟨b, o + k, none⟩ := by unfold Addr.add; split <;> simp_all

section
variable {H : Type} {enc : TypeId × Value → H} {P : Program} {W : World}

/-- The cells of a struct of one-cell fields, each with its own reading. -/
theorem open_fields {e : TypeId} {fs : Array Field} {n : Nat} {cs : List Value} {x : DataW H × List MemPlace} (he : P.underlying e = some (.struct fs)) (hone : oneCellFields P fs = true) (hC : P.cellsOf e = fs.size)
    (h : DataW.trod enc P W 0 (fun _ => true) true n e cs = some x) :
    cs.length = fs.size ∧ ∀ (j : Nat) (f : Field), fs[j]? = some f → ∃ (v : Value) (y : DataW H × List MemPlace) (k : Nat), cs[j]? = some v ∧ DataW.trod enc P W 0 (fun _ => true) true k f.type [v] = some y := by
  obtain ⟨ys, k, _, _, hl, hyl, hf⟩ := DataW.trod_struct he h
  rw [hC] at hl
  refine ⟨hl, fun j f hj => ?_⟩
  obtain ⟨ho, hk⟩ := hone_of hone j f hj
  have hjl : j < fs.size := (Array.getElem?_eq_some_iff.1 hj).1
  have h1 := hf j f hj
  rw [ho, hk, List.drop_eq_getElem_cons (by omega), List.take_succ_cons, List.take_zero, List.getElem?_eq_getElem (by omega)] at h1
  exact ⟨_, _, k, List.getElem?_eq_getElem (by omega), h1⟩

theorem choose_list {α : Type} (p : Nat → α → Prop) : ∀ m, (∀ i, i < m → ∃ x, p i x) → ∃ l : List α, l.length = m ∧ ∀ i x, l[i]? = some x → p i x
  | 0, _ => ⟨[], rfl, fun i x h => by simp at h⟩
  | m + 1, h => by
    obtain ⟨l, hl, hp⟩ := choose_list p m fun i hi => h i (by omega)
    obtain ⟨x, hx⟩ := h m (by omega)
    refine ⟨l ++ [x], by simp [hl], fun i y hy => ?_⟩
    rcases Nat.lt_or_ge i m with hlt | hge
    · rw [List.getElem?_append_left (by omega)] at hy
      exact hp i y hy
    · rw [List.getElem?_append_right (by omega)] at hy
      match hi : i - l.length, hy with
      | 0, hy =>
        simp at hy
        subst hy
        obtain rfl : i = m := by omega
        exact hx
      | k + 1, hy => simp at hy

/-- A slice of elements, each of which opens. -/
theorem open_rowOf {α : Type} (ec : α → List Value) (G : α → Prop) {size : Nat} {t e : TypeId} (ht : P.underlying t = some (.slice e)) (hC : P.cellsOf e = size) (hs : ∀ x, (ec x).length = size) (hz : 0 < size)
    (hopen : ∀ n cs y, DataW.trod enc P W 0 (fun _ => true) true n e cs = some y → ∃ x : α, cs = ec x ∧ G x)
    {fuel : Nat} {cs : List Value} {x : DataW H × List MemPlace} (h : DataW.trod enc P W 0 (fun _ => true) true fuel t cs = some x) :
    ∃ (A : Option Addr) (c : Nat) (l : List α), cs = [.slice A l.length c] ∧ Row W W.heap.size A (flat ec l) ∧ l.length ≤ c ∧ c ≤ maxLen ∧ (A = none → c = 0) ∧ (∀ x ∈ l, G x) ∧
      ((x.1 = .nil ∧ l = [] ∧ c = 0) ∨ ∃ el sp, x.1 = .slice el sp ∧ el.length = l.length ∧ el.length + sp.length = c) := by
  subst hC
  rcases open_slice ht h with ⟨rfl, rfl⟩ | ⟨a, len, cap, m, n, D, Pl, rfl, _, hl, hm, hmm, rfl, hi⟩
  · exact ⟨none, 0, [], rfl, Row.nil, by simp, by simp, fun _ => rfl, by simp, .inl ⟨rfl, rfl, rfl⟩⟩
  · simp only [if_true] at hmm
    subst hmm
    obtain ⟨l, hll, hp⟩ := choose_list (fun i (x : α) => W.cells? 0 (a.add (i * P.cellsOf e)) (P.cellsOf e) = some (ec x) ∧ G x) len fun i hlt => by
      obtain ⟨cs', h1, h2⟩ := hi i (by omega)
      obtain ⟨x, rfl, hg⟩ := hopen _ _ _ h2
      exact ⟨x, h1, hg⟩
    refine ⟨some a, m, l, by rw [hll], fun hpos => ?_, by omega, hm, (fun e => by cases e), fun x hx => ?_, .inr ⟨_, _, rfl, by simp [hll], by simp; omega⟩⟩
    · rw [flat_len hs] at hpos
      have hl0 : 0 < l.length := Nat.pos_of_ne_zero (fun h0 => by rw [h0] at hpos; simp at hpos)
      obtain ⟨b, o, spot⟩ := a
      obtain ⟨hc0, _⟩ := hp 0 (l[0]) (List.getElem?_eq_getElem hl0)
      have hcell := (World.cells?_some hc0).2.2 0 hz
      rw [List.getElem?_eq_getElem (by rw [hs]; exact hz)] at hcell
      have hspot : spot = none := by simpa [Addr.add] using World.cell?_spot hcell
      subst hspot
      refine ⟨b, o, rfl, by simpa [Addr.add] using lt_of_cell hcell, fun k v hv => ?_⟩
      have hk : k < (flat ec l).length := (List.getElem?_eq_some_iff.1 hv).1
      rw [flat_len hs] at hk
      have hdm := Nat.div_add_mod k (P.cellsOf e)
      have hmod := Nat.mod_lt k hz
      have hdiv : k / P.cellsOf e < l.length := Nat.div_lt_of_lt_mul (by rw [Nat.mul_comm]; exact hk)
      obtain ⟨hck, _⟩ := hp (k / P.cellsOf e) _ (List.getElem?_eq_getElem hdiv)
      have hcell := (World.cells?_some hck).2.2 (k % P.cellsOf e) hmod
      rw [addr_add, addr_add, Nat.add_assoc, Nat.mul_comm (k / P.cellsOf e), hdm] at hcell
      rw [hcell, ← hv]
      have hg := flat_get (enc := ec) hs (List.getElem?_eq_getElem hdiv) (List.getElem?_eq_getElem (show k % P.cellsOf e < (ec (l[k / P.cellsOf e])).length by rw [hs]; exact hmod))
      rw [Nat.mul_comm (k / P.cellsOf e), hdm] at hg
      rw [hg]
      exact List.getElem?_eq_getElem _
    · obtain ⟨i, hi'⟩ := List.mem_iff_getElem?.1 hx
      exact (hp i x hi').2
end
end Go.Proofs.Ytgkckldflfalgaa
