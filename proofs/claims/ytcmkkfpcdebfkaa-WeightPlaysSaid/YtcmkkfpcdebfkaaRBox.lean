/-
  A struct of the call's own that holds an int and rows, each row in blocks with a label of its own: what turns in one row leaves the others.
-/
import Derived.Test.YtcmkkfpcdebfkaaOwnOnly
namespace Go.Proofs.Ytcmkkfpcdebfkaa
open Go.RowKit

def rblk (A : Option Addr) (b : Nat) : Prop := A.map (·.block) = some b
theorem rblk_lt {w : World} {base e k n c : Nat} {A : Option Addr} {xs : List Value} (ho : OwnAt w base e k A n c xs) {b : Nat} (hb : rblk A b) : base ≤ b ∧ b < w.heap.size := by
  rcases ho.form with ⟨rfl, _⟩ | ⟨g1, o1, rfl⟩
  · cases hb
  · simp [rblk] at hb; subst hb; exact ho.lt
/-- Labels behind a push: the row's blocks bear k, what is new else bears 0. -/
def rlab (f : Nat → Nat) (n k : Nat) (A : Option Addr) (b : Nat) : Nat := if A.map (·.block) = some b then k else if b < n then f b else 0
theorem rlab_blk {f : Nat → Nat} {n k : Nat} {A : Option Addr} {b : Nat} (h : rblk A b) : rlab f n k A b = k := by unfold rlab; rw [if_pos (show A.map (·.block) = some b from h)]
theorem rlab_old {f : Nat → Nat} {n k : Nat} {A : Option Addr} {b : Nat} (hA : ∀ b, rblk A b → f b = k ∨ n ≤ b) (h : b < n) : rlab f n k A b = f b := by
  unfold rlab
  by_cases e : A.map (·.block) = some b
  · rw [if_pos e]
    rcases hA b e with h1 | h1
    · exact h1.symm
    · omega
  · rw [if_neg e, if_pos h]
/-- A row: its head, length, capacity, what its elements are, and its cells. -/
structure RowD where
  A : Option Addr
  n : Nat
  cap : Nat
  e : TypeId
  k : Nat
  xs : List Value
def RowD.val (r : RowD) : Value := .slice r.A r.n r.cap
def rupd (r : Nat → RowD) (j : Nat) (d : RowD) : Nat → RowD := fun i => if i = j then d else r i
theorem rupd_same (r : Nat → RowD) (j : Nat) (d : RowD) : rupd r j d j = d := if_pos rfl
theorem rupd_ne (r : Nat → RowD) {i j : Nat} (d : RowD) (h : i ≠ j) : rupd r j d i = r i := if_neg h
def rbCells (n : Int) (N : Nat) (r : Nat → RowD) : List Value := .int .i64 n :: (List.range N).map fun j => (r j).val
/-- The struct in block g (label gl), its N rows at the labels from lb on. -/
structure RBox (w : World) (B : Nat) (f : Nat → Nat) (g gl : Nat) (t : TypeId) (n : Int) (N lb : Nat) (r : Nat → RowD) : Prop where
  box : Box w g t (rbCells n N r).toArray
  own : ∀ j, j < N → OwnAt w B (r j).e (r j).k (r j).A (r j).n (r j).cap (r j).xs
  lab : ∀ j, j < N → ∀ b, rblk (r j).A b → f b = lb + j
  fg : f g = gl
  hB : B ≤ g

section
variable {w w' : World} {B : Nat} {f f' : Nat → Nat} {g gl : Nat} {t : TypeId} {n : Int} {N lb : Nat} {r : Nat → RowD}
theorem RBox.keep (h : RBox w B f g gl t n N lb r) {S : Nat → Prop} (ho : Only S w w') (hg : ∀ b, S b → f b ≠ gl) (hS : ∀ b, S b → ∀ j, j < N → f b ≠ lb + j) (hf : ∀ b, b < w.heap.size → f' b = f b) : RBox w' B f' g gl t n N lb r := by
  refine ⟨ho.box h.box (fun hs => hg g hs h.fg), fun j hj => (h.own j hj).only ho fun b hb hs => hS b hs j hj (h.lab j hj b hb), fun j hj b hb => ?_, (hf g h.box.lt).trans h.fg, h.hB⟩
  rw [hf b (rblk_lt (h.own j hj) hb).2]
  exact h.lab j hj b hb
theorem RBox.below (h : RBox w B f g gl t n N lb r) (hb : Below w.heap.size w w') : RBox w' B f g gl t n N lb r := h.keep (S := fun _ => False) (Only.of_below hb) (fun _ h => h.elim) (fun _ h => h.elim) fun _ _ => rfl
theorem rbCells_set (j : Nat) (_hj : j < N) (d : RowD) : (rbCells n N r).set (1 + j) d.val = rbCells n N (rupd r j d) := by
  unfold rbCells
  rw [Nat.add_comm 1 j, List.set_cons_succ]
  congr 1
  apply List.ext_getElem
  · simp
  · intro i h1 h2
    simp only [List.length_set, List.length_map, List.length_range] at h1
    by_cases e : j = i
    · subst e
      simp [rupd]
    · rw [List.getElem_set_ne e]
      simp [rupd, Ne.symm e]
/-- A row's cells turned where they lie. -/
theorem RBox.turn (h : RBox w B f g gl t n N lb r) {j : Nat} (hj : j < N) (hgl : gl < lb) (ho : Only (fun b => f b = lb + j) w w') {xs : List Value} (hown : OwnAt w' B (r j).e (r j).k (r j).A (r j).n (r j).cap xs) :
    RBox w' B f g gl t n N lb (rupd r j { r j with xs := xs }) := by
  have hc : rbCells n N (rupd r j { r j with xs := xs }) = rbCells n N r := by
    rw [← rbCells_set j hj]
    apply List.ext_getElem
    · simp
    · intro i h1 h2
      by_cases e : 1 + j = i
      · subst e
        rw [List.getElem_set_self]
        have : (rbCells n N r)[1 + j]? = some (r j).val := by
          unfold rbCells
          rw [Nat.add_comm 1 j, List.getElem?_cons_succ]
          simp [hj]
        rw [List.getElem?_eq_getElem h2] at this
        rw [Option.some.inj this]
        rfl
      · rw [List.getElem_set_ne e]
  refine ⟨?_, fun i hi => ?_, fun i hi b hb => ?_, h.fg, h.hB⟩
  · rw [hc]
    exact ho.box h.box (by have := h.fg; omega)
  · by_cases e : i = j
    · subst e; rw [rupd_same]; exact hown
    · rw [rupd_ne _ _ e]
      exact (h.own i hi).only ho fun b hb hs => by have := h.lab i hi b hb; omega
  · by_cases e : i = j
    · subst e; rw [rupd_same] at hb; exact h.lab i hi b hb
    · rw [rupd_ne _ _ e] at hb; exact h.lab i hi b hb
/-- A row put anew, and stored. -/
theorem RBox.put (h : RBox w B f g gl t n N lb r) {j : Nat} (hj : j < N) (hgl : gl < lb) (ho : Only (fun b => f b = lb + j) w w') {d : RowD} (hown : OwnAt w' B d.e d.k d.A d.n d.cap d.xs) (hA : ∀ b, rblk d.A b → f b = lb + j ∨ w.heap.size ≤ b) :
    RBox (w'.setCell ⟨g, 1 + j, none⟩ d.val) B (rlab f w.heap.size (lb + j) d.A) g gl t n N lb (rupd r j d) := by
  have hbx : Box w' g t (rbCells n N r).toArray := ho.box h.box (by have := h.fg; omega)
  have hfg : rlab f w.heap.size (lb + j) d.A g = gl := (rlab_old hA h.box.lt).trans h.fg
  have hoE : Only (fun b => b = g) w' (w'.setCell ⟨g, 1 + j, none⟩ d.val) := (Only.refl (fun b => b = g) w').set (p := ⟨g, 1 + j, none⟩) rfl _
  refine ⟨?_, fun i hi => ?_, fun i hi b hb => ?_, hfg, h.hB⟩
  · have := hbx.set (1 + j) d.val
    rw [List.setIfInBounds_toArray, rbCells_set j hj] at this
    exact this
  · by_cases e : i = j
    · subst e; rw [rupd_same]
      refine hown.only hoE fun b hb e => ?_
      have h1 := rlab_blk (f := f) (n := w.heap.size) (k := lb + i) (A := d.A) (b := b) hb
      rw [e, hfg] at h1
      omega
    · rw [rupd_ne _ _ e]
      exact ((h.own i hi).only ho fun b hb hs => by have := h.lab i hi b hb; omega).only hoE fun b hb e => by
        have h1 := h.lab i hi b hb
        rw [e, h.fg] at h1
        omega
  · by_cases e : i = j
    · subst e; rw [rupd_same] at hb; exact rlab_blk hb
    · rw [rupd_ne _ _ e] at hb
      rw [rlab_old hA (rblk_lt (h.own i hi) hb).2]
      exact h.lab i hi b hb
theorem RBox.c0 (h : RBox w B f g gl t n N lb r) : w.cell? ⟨g, 0, none⟩ = some (.int .i64 n) := by
  rw [h.box.cell]; rfl
theorem RBox.cr (h : RBox w B f g gl t n N lb r) {j : Nat} (hj : j < N) : w.cell? ⟨g, 1 + j, none⟩ = some (.slice (r j).A (r j).n (r j).cap) := by
  rw [h.box.cell, List.getElem?_toArray]
  unfold rbCells
  rw [Nat.add_comm 1 j, List.getElem?_cons_succ]
  simp [hj, RowD.val]
end
end Go.Proofs.Ytcmkkfpcdebfkaa
