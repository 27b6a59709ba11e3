
/-
  Patterns: sizes and sums, plain.
-/
import Derived.Test.YthglcnodoophaaaPaRead
namespace Go.Proofs.Ythglcnodoophaaa

theorem nds_append (m : Nat) : ∀ l r : List Pt, Pt.nds m (l ++ r) = Pt.nds m l + Pt.nds m r
  | [], r => by simp [Pt.nds]
  | x :: l, r => by simp only [List.cons_append, Pt.nds, nds_append m l r]; omega
theorem bns_append : ∀ l r : List Pt, Pt.bns (l ++ r) = Pt.bns l + Pt.bns r
  | [], r => by simp [Pt.bns]
  | x :: l, r => by simp only [List.cons_append, Pt.bns, bns_append l r]; omega
theorem sizes_append : ∀ l r : List Pt, Pt.sizes (l ++ r) = Pt.sizes l + Pt.sizes r
  | [], r => by simp [Pt.sizes]
  | x :: l, r => by simp only [List.cons_append, Pt.sizes, sizes_append l r]; omega
theorem take_pat (l : List Pt) {k : Nat} (h : k < l.length) : l.take (k + 1) = l.take k ++ [l.getD k pt0] := by
  rw [List.take_add_one, List.getD_eq_getElem?_getD, List.getElem?_eq_getElem h]
  rfl
theorem nds_take (m : Nat) (l : List Pt) {k : Nat} (h : k < l.length) : Pt.nds m (l.take (k + 1)) = Pt.nds m (l.take k) + Pt.nd m (l.getD k pt0) := by
  rw [take_pat l h, nds_append]; simp [Pt.nds]
theorem bns_take (l : List Pt) {k : Nat} (h : k < l.length) : Pt.bns (l.take (k + 1)) = Pt.bns (l.take k) + (l.getD k pt0).bn := by
  rw [take_pat l h, bns_append]; simp [Pt.bns]
theorem sizes_take (l : List Pt) {k : Nat} (h : k < l.length) : Pt.sizes (l.take (k + 1)) = Pt.sizes (l.take k) + (l.getD k pt0).size := by
  rw [take_pat l h, sizes_append]; simp [Pt.sizes]
theorem sizes_take_le (l : List Pt) (k : Nat) : Pt.sizes (l.take k) ≤ Pt.sizes l := by
  have := sizes_append (l.take k) (l.drop k)
  rw [List.take_append_drop] at this
  omega
theorem size_pos (v : Pt) : 1 ≤ v.size := by cases v; simp only [Pt.size]; omega
theorem sizes_len : ∀ l : List Pt, l.length ≤ Pt.sizes l
  | [] => by simp [Pt.sizes]
  | x :: r => by have := size_pos x; have := sizes_len r; simp only [Pt.sizes, List.length_cons]; omega
theorem size_at (l : List Pt) {k : Nat} (h : k < l.length) : (l.getD k pt0).size ≤ Pt.sizes l := by
  have := sizes_take l h
  have := sizes_take_le l (k + 1)
  omega
mutual
theorem nd_le : ∀ (m : Nat) (v : Pt), Pt.nd m v ≤ 1000 * v.size
  | 0, .mk _ l => by simp only [Pt.nd, Pt.size]; split <;> omega
  | m + 1, .mk _ l => by have := nds_le m l; simp only [Pt.nd, Pt.size]; omega
theorem nds_le : ∀ (m : Nat) (l : List Pt), Pt.nds m l ≤ 1000 * Pt.sizes l
  | _, [] => by simp [Pt.nds]
  | m, x :: r => by have := nd_le m x; have := nds_le m r; simp only [Pt.nds, Pt.sizes]; omega
end
mutual
theorem nd_size : ∀ (m : Nat) (v : Pt), Pt.nd m v ≤ 200 → v.size = Pt.nd m v
  | 0, .mk _ l, h => by
    simp only [Pt.nd, Pt.size] at h ⊢
    split at h
    · rename_i e
      subst e
      simp [Pt.sizes]
    · omega
  | m + 1, .mk _ l, h => by
    simp only [Pt.nd, Pt.size] at h ⊢
    rw [nds_size m l (by omega)]
theorem nds_size : ∀ (m : Nat) (l : List Pt), Pt.nds m l ≤ 200 → Pt.sizes l = Pt.nds m l
  | _, [], _ => by simp [Pt.nds, Pt.sizes]
  | m, x :: r, h => by
    simp only [Pt.nds, Pt.sizes] at h ⊢
    rw [nd_size m x (by omega), nds_size m r (by omega)]
end
mutual
theorem bn_le : ∀ v : Pt, v.bn ≤ v.size
  | .mk k l => by
    have := bns_le l
    simp only [Pt.bn, Pt.size]
    split
    · omega
    · split <;> omega
theorem bns_le : ∀ l : List Pt, Pt.bns l ≤ Pt.sizes l
  | [] => by simp [Pt.bns]
  | x :: r => by have := bn_le x; have := bns_le r; simp only [Pt.bns, Pt.sizes]; omega
end
theorem nd_zero_nil (kd : Int) : Pt.nd 0 (.mk kd []) = 1 := by simp [Pt.nd]
theorem nd_zero_cons (kd : Int) (v : Pt) (r : List Pt) : Pt.nd 0 (.mk kd (v :: r)) = 1000 := by simp [Pt.nd]
theorem nd_succ (m : Nat) (kd : Int) (l : List Pt) : Pt.nd (m + 1) (.mk kd l) = 1 + Pt.nds m l := by simp only [Pt.nd]
theorem wrap_add {a b : Nat} (h : a + b ≤ 4611686018427387904) : Go.RowKit.wrap64 ((a : Int) + (b : Int)) = ((a + b : Nat) : Int) := by unfold Go.RowKit.wrap64; omega
/-- What the sums stay under, for a pattern of at most 1048576 parts. -/
def Few (l : List Pt) : Prop := Pt.sizes l ≤ 1048576
theorem Few.at {l : List Pt} (h : Few l) {k : Nat} (hk : k < l.length) : (l.getD k pt0).size ≤ 1048576 := Nat.le_trans (size_at l hk) h
theorem Few.sum {l : List Pt} (h : Few l) (m : Nat) {k : Nat} (hk : k < l.length) : (1 + Pt.nds m (l.take k)) + Pt.nd m (l.getD k pt0) ≤ 4611686018427387904 := by
  have h1 := nds_take m l hk
  have h2 := nds_le m (l.take (k + 1))
  have h3 := sizes_take_le l (k + 1)
  unfold Few at h
  omega
theorem Few.idx {l : List Pt} (h : Few l) {k : Nat} (hk : k < l.length) : Go.RowKit.wrap64 ((k : Int) + 1) = ((k + 1 : Nat) : Int) :=
  wrap_add (b := 1) (Nat.le_trans hk (Nat.le_trans (sizes_len l) (Nat.le_trans h (by decide))))
theorem wrap_add1 {z q : Nat} (h : (1 + z) + q ≤ 4611686018427387904) : Go.RowKit.wrap64 (1 + (z : Int) + (q : Int)) = ((1 + (z + q) : Nat) : Int) := by unfold Go.RowKit.wrap64; omega
end Go.Proofs.Ythglcnodoophaaa
