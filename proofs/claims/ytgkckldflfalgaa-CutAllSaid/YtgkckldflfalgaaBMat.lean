
/-
  Rows of bools, and rows of such rows, in whole blocks; what make makes of them.
-/
import Derived.Test.YtgkckldflfalgaaIRow
import Derived.Laws.MakeOwn
namespace Go.Proofs.Ytgkckldflfalgaa
open Go.RowKit

def bools (n : Nat) (c : Nat → Bool) : Array Value := ((List.range n).map fun j => Value.bool (c j)).toArray
theorem bools_get {n : Nat} {c : Nat → Bool} {j : Nat} (h : j < n) : (bools n c)[j]? = some (.bool (c j)) := by
  simp [bools, h]
theorem bools_congr {n : Nat} {c d : Nat → Bool} (h : ∀ j, j < n → c j = d j) : bools n c = bools n d := by
  unfold bools
  congr 1
  apply List.map_congr_left
  intro j hj
  rw [h j (by simpa using hj)]
theorem bools_set {n : Nat} {c : Nat → Bool} {j : Nat} (b : Bool) : (bools n c).setIfInBounds j (.bool b) = bools n (fun i => if i = j then b else c i) := by
  unfold bools
  rw [List.setIfInBounds_toArray]
  congr 1
  apply List.ext_getElem
  · simp
  · intro i h1 h2
    rw [List.getElem_set]
    by_cases e : j = i
    · simp [e]
    · rw [if_neg e]
      simp [show ¬ i = j from fun h => e h.symm]
/-- The headers of n rows, of which the first k are there (row i in block h i). -/
def hdrs (n k : Nat) (h : Nat → Nat) : Array Value := ((List.range n).map fun i => if i < k then Value.slice (some ⟨h i, 0, none⟩) n n else .slice none 0 0).toArray
theorem hdrs_get {n k : Nat} {h : Nat → Nat} {i : Nat} (hi : i < n) (hk : i < k) : (hdrs n k h)[i]? = some (.slice (some ⟨h i, 0, none⟩) n n) := by
  simp [hdrs, hi, hk]
theorem hdrs_set {n k : Nat} {h : Nat → Nat} (g : Nat) : (hdrs n k h).setIfInBounds k (.slice (some ⟨g, 0, none⟩) n n) = hdrs n (k + 1) (fun i => if i = k then g else h i) := by
  unfold hdrs
  rw [List.setIfInBounds_toArray]
  congr 1
  apply List.ext_getElem
  · simp
  · intro i h1 h2
    rw [List.getElem_set]
    by_cases e : k = i
    · simp [e]
    · rw [if_neg e]
      by_cases hlt : i < k
      · simp [hlt, show i < k + 1 by omega, show ¬ i = k by omega]
      · simp [hlt, show ¬ i < k + 1 by omega]

theorem made_one (z : Value) (n : Nat) : madeCells #[z] n = ((List.range n).map fun _ => z).toArray := by
  apply Array.ext
  · simp [madeCells]
  · intro i h1 h2
    simp [madeCells, Nat.mod_one]
theorem make_one {P : Program} {t e : TypeId} {z : Value} {bytes : Nat} (ht : P.underlying t = some (.slice e)) (hi : (P.info? e).map (fun i => (i.zero, i.size, i.bytes)) = some (some z, 1, bytes)) (hz : z.cells = #[z]) (hby : bytes ≤ 24) (n : Nat) (hn : n ≤ 1000) (w : World) :
    (Instr.makeSlice t (.int .i64 (n : Int)) (.int .i64 (n : Int))).run P w = .ok (.slice (some ⟨w.heap.size, 0, none⟩) n n) (w.alloc (.cells ((List.range n).map fun _ => z).toArray e)) := by
  cases hi0 : P.info? e with
  | none => rw [hi0] at hi; cases hi
  | some i0 =>
    rw [hi0] at hi
    simp only [Option.map_some, Option.some.injEq, Prod.mk.injEq] at hi
    obtain ⟨h1, h2, h3⟩ := hi
    have hb : (i0.bytes : Int) * (n : Int) ≤ 24 * 1000 := Int.mul_le_mul (by omega) (by omega) (by omega) (by omega)
    have hr := run_make (P := P) w t e i0 z ht hi0 h1 .i64 .i64 (n : Int) (n : Int) (by omega) (by omega) (by omega) (by omega)
    rw [Int.toNat_natCast, h2, Nat.mul_one, hz, made_one] at hr
    exact hr
theorem mb_info : (Try.prog.info? 4).map (fun i => (i.zero, i.size, i.bytes)) = some (some (.bool false), 1, 1) := by kernel_rfl
theorem mbs_info : (Try.prog.info? 30).map (fun i => (i.zero, i.size, i.bytes)) = some (some (.slice none 0 0), 1, 24) := by kernel_rfl
theorem mi_info : (Try.prog.info? 3).map (fun i => (i.zero, i.size, i.bytes)) = some (some (.int .i64 0), 1, 8) := by kernel_rfl
theorem mis_info : (Try.prog.info? 53).map (fun i => (i.zero, i.size, i.bytes)) = some (some (.slice none 0 0), 1, 24) := by kernel_rfl
theorem make_bools (n : Nat) (hn : n ≤ 1000) (w : World) : (Instr.makeSlice 30 (.int .i64 (n : Int)) (.int .i64 (n : Int))).run Try.prog w = .ok (.slice (some ⟨w.heap.size, 0, none⟩) n n) (w.alloc (.cells (bools n fun _ => false) 4)) :=
  make_one Try.underlying30 mb_info rfl (by decide) n hn w
theorem make_brows (n : Nat) (hn : n ≤ 1000) (w : World) : (Instr.makeSlice 28 (.int .i64 (n : Int)) (.int .i64 (n : Int))).run Try.prog w = .ok (.slice (some ⟨w.heap.size, 0, none⟩) n n) (w.alloc (.cells (hdrs n 0 fun _ => 0) 30)) :=
  make_one Try.underlying28 mbs_info rfl (by decide) n hn w
def zerosI (n : Nat) : List Int := List.replicate n 0
theorem made_ints (n : Nat) : ((List.range n).map fun _ => Value.int .i64 0).toArray = (ints (zerosI n)).toArray := by
  congr 1
  unfold ints zerosI
  rw [List.map_replicate]
  induction n with
  | zero => rfl
  | succ n ih => rw [List.range_succ, List.map_append, ih, List.replicate_succ']; rfl
theorem make_ints (n : Nat) (hn : n ≤ 1000) (w : World) : (Instr.makeSlice 53 (.int .i64 (n : Int)) (.int .i64 (n : Int))).run Try.prog w = .ok (.slice (some ⟨w.heap.size, 0, none⟩) n n) (w.alloc (.cells (ints (zerosI n)).toArray 3)) := by
  rw [← made_ints]
  exact make_one Try.underlying53 mi_info rfl (by decide) n hn w

/-- A slice of n slices of n bools. -/
def BMat (w : World) (B : Nat) (A : Option Addr) (n : Nat) (P : Nat → Nat → Bool) : Prop :=
  ∃ b, A = some ⟨b, 0, none⟩ ∧ b < B ∧ ∀ i, i < n → ∃ g, g < B ∧ w.cell? ⟨b, i, none⟩ = some (.slice (some ⟨g, 0, none⟩) n n) ∧ ∀ j, j < n → w.cell? ⟨g, j, none⟩ = some (.bool (P i j))
theorem BMat.below {w w' : World} {B : Nat} {A : Option Addr} {n : Nat} {P : Nat → Nat → Bool} (h : BMat w B A n P) (hb : Below B w w') : BMat w' B A n P := by
  obtain ⟨b, h1, h2, h3⟩ := h
  refine ⟨b, h1, h2, fun i hi => ?_⟩
  obtain ⟨g, h4, h5, h6⟩ := h3 i hi
  exact ⟨g, h4, (hb.cell (p := ⟨b, i, none⟩) h2).trans h5, fun j hj => (hb.cell (p := ⟨g, j, none⟩) h4).trans (h6 j hj)⟩
theorem BMat.more {w : World} {B B' : Nat} {A : Option Addr} {n : Nat} {P : Nat → Nat → Bool} (h : BMat w B A n P) (hB : B ≤ B') : BMat w B' A n P := by
  obtain ⟨b, h1, h2, h3⟩ := h
  refine ⟨b, h1, by omega, fun i hi => ?_⟩
  obtain ⟨g, h4, h5⟩ := h3 i hi
  exact ⟨g, by omega, h5⟩
end Go.Proofs.Ytgkckldflfalgaa
