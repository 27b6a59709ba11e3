
/-
  Arms: rows of a place and registers; read, and in the making.
-/
import Derived.Test.YthglcnodoophaaaPa2
import Derived.Test.YthglcnodoophaaaClone
namespace Go.Proofs.Ythglcnodoophaaa
open Go.RowKit

structure ArC where
  pc : Int
  A : Option Addr
  len : Nat
  cap : Nat
def arc0 : ArC := ⟨0, none, 0, 0⟩
abbrev ArV := Int × List Int
def arv0 : ArV := (0, [])
def arC (x : ArC) : List Value := [.int .i64 x.pc, .slice x.A x.len x.cap]
theorem arC_len (x : ArC) : (arC x).length = 2 := rfl
theorem ar_info : (Try.prog.info? 60).map (fun i => (i.size, i.bytes)) = some (2, 32) := by kernel_rfl
theorem ar_zero : ((Try.prog.info? 60).bind (·.zero)).map (fun z => z.cells.size) = some 2 := by kernel_rfl
theorem ar_parts : ∃ i z, Try.prog.info? 60 = some i ∧ i.zero = some z ∧ i.size = 2 ∧ i.bytes = 32 ∧ z.cells.size = 2 := by
  have h1 := ar_info
  have h2 := ar_zero
  cases hi : Try.prog.info? 60 with
  | none => rw [hi] at h1; cases h1
  | some i =>
    rw [hi] at h1 h2
    simp only [Option.map_some, Option.some.injEq, Prod.mk.injEq, Option.bind_some] at h1 h2
    cases hz : i.zero with
    | none => rw [hz] at h2; cases h2
    | some z =>
      rw [hz] at h2
      simp only [Option.map_some, Option.some.injEq] at h2
      exact ⟨i, z, rfl, hz, h1.1, h1.2, h2⟩
theorem ar_one (x : ArC) : ∀ u ∈ arC x, u.oneCell' = true := by
  intro u hu
  simp only [arC, List.mem_cons, List.not_mem_nil, or_false] at hu
  rcases hu with rfl | rfl <;> rfl
theorem ar_one_all (l : List (ArC)) : ∀ u ∈ flat arC l, u.oneCell' = true := by
  intro u hu
  simp only [flat, List.mem_flatMap] at hu
  obtain ⟨x, _, hx⟩ := hu
  exact ar_one x u hx
/-- Element i's cells. -/
theorem Row.ar {w : World} {B : Nat} {A : Option Addr} {l : List (ArC)} (h : Row w B A (flat arC l)) {i : Nat} (hi : i < l.length) (d : ArC) :
    ∃ b o, A = some ⟨b, o, none⟩ ∧ b < B
      ∧ w.cell? ⟨b, o + i * 2, none⟩ = some (.int .i64 (l.getD i d).pc)
      ∧ w.cell? ⟨b, o + i * 2 + 1, none⟩ = some (.slice (l.getD i d).A (l.getD i d).len (l.getD i d).cap)
    := by
  obtain ⟨b, o, e, hb, hc⟩ := Row.elem arC_len (by decide) h (getD_some d hi)
  exact ⟨b, o, e, hb, hc 0 _ rfl, hc 1 _ rfl⟩


theorem OwnAt.noneA {w : World} {base : Nat} {e : TypeId} {size n cap : Nat} {A : Option Addr} {xs : List Value} (h : OwnAt w base e size A n cap xs) : A = none → cap = 0 := fun e => by
  subst e
  rcases h.form with ⟨_, _, h0⟩ | ⟨g, o, h0⟩
  · exact h0
  · cases h0
/-- An arm that reads as v, whose registers lie in blocks of S. -/
def ArElem (w : World) (S : Nat → Prop) (y : ArC) (v : ArV) : Prop := y.pc = v.1 ∧ y.len = v.2.length ∧ RowS w S y.A (ints v.2)
theorem ArElem.keep {w w' : World} {S S' : Nat → Prop} {y : ArC} {v : ArV} (h : ArElem w S y v) (hk : ∀ p : Addr, S p.block → p.block < w.heap.size → w'.cell? p = w.cell? p) (hS : ∀ b, S b → b < w.heap.size → S' b) : ArElem w' S' y v := by
  refine ⟨h.1, h.2.1, fun hp => ?_⟩
  obtain ⟨b, o, e, hb, hc⟩ := h.2.2 hp
  have hlt : b < w.heap.size := lt_of_cell (hc 0 _ (List.getElem?_eq_getElem hp))
  exact ⟨b, o, e, hS b hb hlt, fun i v hv => (hk ⟨b, o + i, none⟩ hb hlt).trans (hc i v hv)⟩
/-- A row of arms. -/
def Arms (w : World) (A : Option Addr) (l : List ArC) (vs : List ArV) : Prop :=
  l.length = vs.length ∧ Row w w.heap.size A (flat arC l) ∧ ∀ i, i < l.length → ArElem w (· < w.heap.size) (l.getD i arc0) (vs.getD i arv0)
theorem Arms.below {w w' : World} {A : Option Addr} {l : List ArC} {vs : List ArV} (h : Arms w A l vs) (hb : Below w.heap.size w w') : Arms w' A l vs :=
  ⟨h.1, (h.2.1.below hb).more hb.size, fun i hi => (h.2.2 i hi).keep (fun _ hp _ => hb.cell hp) fun _ hb' _ => Nat.lt_of_lt_of_le hb' hb.size⟩
theorem Arms.nil {w : World} : Arms w none [] [] := ⟨rfl, Row.nil, fun i hi => absurd hi (by simp)⟩
/-- A row of arms in the making: the registers lie off its block. -/
def ArMk (w : World) (base : Nat) (A : Option Addr) (c : Nat) (l : List ArC) (vs : List ArV) : Prop :=
  l.length = vs.length ∧ OwnAt w base 60 2 A l.length c (flat arC l) ∧ (∀ i, i < l.length → ArElem w (fun b => A.map (·.block) ≠ some b) (l.getD i arc0) (vs.getD i arv0)) ∧ ∀ y ∈ l, ∀ b, y.A.map (·.block) = some b → base ≤ b
theorem ArMk.nil {w : World} {base : Nat} : ArMk w base none 0 [] [] := ⟨rfl, OwnAt.nil, fun i hi => absurd hi (by simp), fun y hy => by cases hy⟩
theorem ArMk.below {w w' : World} {base : Nat} {A : Option Addr} {c : Nat} {l : List ArC} {vs : List ArV} (h : ArMk w base A c l vs) (hb : Below w.heap.size w w') : ArMk w' base A c l vs :=
  ⟨h.1, h.2.1.below hb, fun i hi => (h.2.2.1 i hi).keep (fun _ _ hp => hb.cell hp) fun _ h _ => h, h.2.2.2⟩
theorem ArMk.arms {w : World} {base : Nat} {A : Option Addr} {c : Nat} {l : List ArC} {vs : List ArV} (h : ArMk w base A c l vs) : Arms w A l vs :=
  ⟨h.1, h.2.1.row, fun i hi => (h.2.2.1 i hi).keep (fun _ _ _ => rfl) fun _ _ h => h⟩
theorem ArMk.push {w w' : World} {base : Nat} {A : Option Addr} {c : Nat} {l : List ArC} {vs : List ArV} (h : ArMk w base A c l vs) {y : ArC} {v : ArV} (hy : ArElem w (fun b => A.map (·.block) ≠ some b) y v) (hy2 : ∀ b, y.A.map (·.block) = some b → base ≤ b) {g o' c' : Nat}
    (h1 : OwnAt w' base 60 2 (some ⟨g, o', none⟩) (l.length + 1) c' (flat arC l ++ arC y)) (h2 : w.grownBy w' (A.map (·.block))) (h3 : A.map (·.block) = some g ∨ g = w.heap.size) : ArMk w' base (some ⟨g, o', none⟩) c' (l ++ [y]) (vs ++ [v]) := by
  have hk : ∀ p : Addr, A.map (·.block) ≠ some p.block → p.block < w.heap.size → w'.cell? p = w.cell? p := fun p hp hl => by
    have := h2.block p.block hl (fun e => hp e.symm)
    simp only [World.cell?, this]
  have hS : ∀ b, A.map (·.block) ≠ some b → b < w.heap.size → (some (⟨g, o', none⟩ : Addr)).map (·.block) ≠ some b := fun b hb hl e => by
    simp at e
    subst e
    rcases h3 with h3 | h3
    · exact hb h3
    · omega
  have hl := h.1
  refine ⟨by simp [hl], by rw [List.length_append, flat_append, flat_one]; exact h1, fun i hi => ?_, fun z hz => (List.mem_append.1 hz).elim (h.2.2.2 z) (fun hz => by rw [List.mem_singleton.1 hz]; exact hy2)⟩
  simp only [List.length_append, List.length_singleton] at hi
  simp only [List.getD_eq_getElem?_getD]
  rcases Nat.lt_or_ge i l.length with hlt | hge
  · have := (h.2.2.1 i hlt).keep hk hS
    rw [List.getElem?_append_left hlt, List.getElem?_append_left (by omega)]
    simpa only [List.getD_eq_getElem?_getD] using this
  · obtain rfl : i = l.length := by omega
    rw [List.getElem?_append_right (Nat.le_refl _), List.getElem?_append_right (by omega), Nat.sub_self, show l.length - vs.length = 0 by omega]
    exact hy.keep hk hS

/-- Arms out of numbers. -/
def gat : Nat → List Int → Option (List ArV)
  | _, [] => some []
  | 0, _ :: _ => none
  | _ + 1, [_] => none
  | n + 1, x :: m :: r => if m < 0 ∨ (r.length : Int) < m then none else (gat n (r.drop m.toNat)).map fun t => (x, r.take m.toNat) :: t
def gatF (l : List Int) : Option (List ArV) := gat l.length l
theorem gat_more : ∀ (n m : Nat) (l : List Int), l.length ≤ n → l.length ≤ m → gat n l = gat m l
  | _, _, [], _, _ => by simp [gat]
  | 0, _, _ :: _, h, _ => by simp at h
  | _, 0, _ :: _, _, h => by simp at h
  | n + 1, m + 1, [_], _, _ => by simp [gat]
  | n + 1, m + 1, x :: k :: r, h, h' => by
    simp only [gat]
    rw [gat_more n m (r.drop k.toNat) (by simp at h ⊢; omega) (by simp at h' ⊢; omega)]
theorem gatF_nil : gatF [] = some [] := by simp [gatF, gat]
theorem gatF_one (x : Int) : gatF [x] = none := by simp [gatF, gat]
theorem gatF_bad (x m : Int) (r : List Int) (h : m < 0 ∨ (r.length : Int) < m) : gatF (x :: m :: r) = none := by
  simp only [gatF, List.length_cons, gat]
  rw [if_pos h]
theorem gatF_good (x : Int) (k : Nat) (r : List Int) (h : k ≤ r.length) : gatF (x :: (k : Int) :: r) = (gatF (r.drop k)).map fun t => (x, r.take k) :: t := by
  simp only [gatF, List.length_cons, gat]
  rw [if_neg (by omega), Int.toNat_natCast, gat_more (r.length + 1) (r.drop k).length _ (by simp; omega) (Nat.le_refl _)]
end Go.Proofs.Ythglcnodoophaaa
