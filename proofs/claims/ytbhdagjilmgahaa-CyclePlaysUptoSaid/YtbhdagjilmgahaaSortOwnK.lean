
/-
  Ints of the call's own, put in order; nothing, or words, appended to a slice of the call's own.
-/
import Derived.Test.YtbhdagjilmgahaaSortI
import Derived.Test.YtbhdagjilmgahaaIRow

namespace Go.Proofs.Ytbhdagjilmgahaa
open Go.RowKit Go.Sort

def srtI (xs : List Int) : List Int := xs.mergeSort fun x y => decide (x ≤ y)
theorem srtI_len (xs : List Int) : (srtI xs).length = xs.length := List.length_mergeSort ..
theorem srtI_mem (xs : List Int) (x : Int) : x ∈ srtI xs ↔ x ∈ xs := List.mem_mergeSort ..

theorem drop_take_cells {cur : Array Value} {o : Nat} {ys : List Int} (h : o + ys.length ≤ cur.size) : ((putCells (Value.int .i64) o ys.toArray cur).toList.drop o).take ys.length = ints ys := by
  apply List.ext_getElem
  · simp [putCells, ints]; omega
  · intro i h1 h2
    have hi : i < ys.length := by simpa [ints] using h2
    simp [putCells, ints, hi]

/-- slices.Sort on a row of ints of the call's own. -/
theorem sort_own (A : Option Addr) (n c base : Nat) (xs : List Int) (w : World) (ho : OwnAt w base 3 1 A n c (ints xs)) (hn : xs.length = n) (hbig : n < 4611686018427387904) :
    Calls Try.prog 10 #[.slice A n c] w fun e w' => e = .returned (.tuple #[]) ∧ OwnAt w' base 3 1 A n c (ints (srtI xs)) ∧ Only (fun b => A.map (·.block) = some b) w w' := by
  subst hn
  by_cases h0 : xs.length = 0
  · have hx : xs = [] := List.eq_nil_of_length_eq_zero h0
    subst hx
    refine (sortI_none A c w).mono ?_
    rintro e w' ⟨rfl, rfl⟩
    exact ⟨rfl, by rw [show srtI [] = [] by simp [srtI]]; exact ho, Only.refl _ _⟩
  · rcases ho.form with ⟨_, h1, _⟩ | ⟨g, o, rfl⟩
    · omega
    have hcap := ho.cap_le
    unfold maxLen at hcap
    have hlt := ho.lt
    have hH : Holds (Value.int .i64) w g o xs.toArray := fun j hj => ⟨by
      have hj' : j < xs.length := by simpa using hj
      have := ho.cells j (.int .i64 xs[j]) (by simp [ints, hj'])
      rw [this]
      simp [hj'], ho.frozen _⟩
    refine (sortI_any g o c xs w hH hlt.2 hbig).mono ?_
    rintro e w' ⟨rfl, m, os, rfl⟩
    rcases ho.2 with ⟨h1, _⟩ | ⟨g', o', cur, hA, h1, h2, h3, h4, h5, h6⟩
    · cases h1
    injection hA with hA
    injection hA with hg ho'
    subst hg ho'
    have hgl : g < (putRow (Value.int .i64) (Go.Sort.ahead w m) g o (srtI xs).toArray).heap.size := by unfold putRow mapBlock Go.Sort.ahead; simp; exact hlt.2
    have hheap : (grow (putRow (Value.int .i64) (Go.Sort.ahead w m) g o (srtI xs).toArray) os).heap[g]? = some (.cells (putCells (Value.int .i64) o (srtI xs).toArray cur) 3 (0, 0)) := by
      rw [heap_grow_old _ _ hgl]
      unfold putRow mapBlock Go.Sort.ahead
      simp only [Array.getElem?_modify, if_true, h2, Option.map_some, onCells]
    refine ⟨rfl, ⟨by rw [ints_len, srtI_len]; omega, .inr ⟨g, o, _, rfl, h1, hheap, h3, h4, by simpa [putCells] using h5, ?_⟩⟩, ?_⟩
    · rw [Nat.mul_one]
      have := drop_take_cells (cur := cur) (o := o) (ys := srtI xs) (by rw [srtI_len]; omega)
      rw [srtI_len] at this
      exact this
    · refine ⟨rfl, rfl, rfl, ?_, fun i hi hne => ?_⟩
      · rw [size_grow]; unfold putRow mapBlock Go.Sort.ahead; simp
      · rw [heap_grow_old _ _ (by unfold putRow mapBlock Go.Sort.ahead; simpa using hi)]
        unfold putRow mapBlock Go.Sort.ahead
        simp only [Array.getElem?_modify]
        rw [if_neg (fun e => hne (by rw [e]; rfl))]

/-- Nothing appended. -/
theorem run_append_q0 {P : Program} (w : World) (t ty e : TypeId) (i : TypeInfo) (ht : P.underlying t = some (.slice e)) (hi : P.info? e = some i) (A : Option Addr) (n cap : Nat) (hn : n ≤ cap) (B : Option Addr) (c : Nat) :
    (Builtin.append_ #[t, t] ty #[.slice A n cap, .slice B 0 c]).run P w = .ok (.slice A n cap) w := by
  rcases A with _ | a <;> rcases B with _ | b <;> simp [Builtin.append_, run_underlying ht, sizeOf, typeInfo, hi, Builtin.lenOf, hn, Builtin.firstCells, loadCells, loadCellsFrom, storeCells]
end Go.Proofs.Ytbhdagjilmgahaa
