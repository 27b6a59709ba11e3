
/-
  Cells that are reached from a word: the plain law (carry.Cells).
-/
import Derived.Test.YtdjahlkjfpbifaaBdRead
import Derived.Test.YtdjahlkjfpbifaaRdF
import Derived.Test.YtdjahlkjfpbifaaSortOwn
namespace Go.Proofs.Ytdjahlkjfpbifaa
open Go.RowKit

/-- Breadth first; f rounds at most. -/
def bfsF (g : List Nat) : Nat → List Nat → List Int → List Int → Except Int (List Int)
  | _, [], _, out => .ok out
  | 0, _ :: _, _, out => .ok out
  | f + 1, u :: r, seen, out =>
    if readB (u : Int) = false then .error 3
    else if (u : Int) % 8 ≠ 4 ∨ seen.contains (readN (u : Int)) = true then bfsF g f r seen out
    else if (rdF g (readN (u : Int))).2.2 ≠ 0 then .error (rdF g (readN (u : Int))).2.2
    else bfsF g f (r ++ (rdF g (readN (u : Int))).1.parts) (seen ++ [readN (u : Int)]) (if (rdF g (readN (u : Int))).1.kind = 5 then out ++ [readN (u : Int)] else out)
theorem bfsF_nil (g : List Nat) (f : Nat) (seen out : List Int) : bfsF g f [] seen out = .ok out := by
  cases f <;> rfl
theorem bfsF_cons (g : List Nat) (f u : Nat) (r : List Nat) (seen out : List Int) : bfsF g (f + 1) (u :: r) seen out = if readB (u : Int) = false then .error 3
    else if (u : Int) % 8 ≠ 4 ∨ seen.contains (readN (u : Int)) = true then bfsF g f r seen out
    else if (rdF g (readN (u : Int))).2.2 ≠ 0 then .error (rdF g (readN (u : Int))).2.2
    else bfsF g f (r ++ (rdF g (readN (u : Int))).1.parts) (seen ++ [readN (u : Int)]) (if (rdF g (readN (u : Int))).1.kind = 5 then out ++ [readN (u : Int)] else out) := rfl
def bfs0 (g : List Nat) (u : Nat) : Except Int (List Int) := bfsF g (g.length * 401 + 1) [u] [] []
/-- The places that are not seen yet. -/
def unseen (g : List Nat) (seen : List Int) : Nat := ((List.range g.length).filter fun i : Nat => !seen.contains (i : Int)).length
theorem filter_lt {α : Type} {p q : α → Bool} : ∀ (l : List α) (a : α), (∀ x, q x = true → p x = true) → a ∈ l → p a = true → q a = false → (l.filter q).length < (l.filter p).length := by
  intro l
  induction l with
  | nil => intro a _ h; cases h
  | cons b l ih =>
    intro a hqp ha hp hq
    have hle : ∀ l : List α, (l.filter q).length ≤ (l.filter p).length := by
      intro l
      induction l with
      | nil => exact Nat.le_refl _
      | cons c l ih =>
        rw [List.filter_cons, List.filter_cons]
        by_cases hc : q c = true
        · rw [if_pos hc, if_pos (hqp c hc)]; simp; exact ih
        · rw [if_neg hc]
          split
          · simp; omega
          · exact ih
    rw [List.filter_cons, List.filter_cons]
    rcases List.mem_cons.1 ha with rfl | ha
    · rw [if_neg (by simp [hq]), if_pos hp]
      have := hle l
      simp
      omega
    · have := ih a hqp ha hp hq
      by_cases hc : q b = true
      · rw [if_pos hc, if_pos (hqp b hc)]; simp; exact this
      · rw [if_neg hc]
        split
        · simp; omega
        · exact this
theorem unseen_add {g : List Nat} {seen : List Int} {n : Int} (h0 : 0 ≤ n) (h1 : n < (g.length : Int)) (hn : seen.contains n = false) : unseen g (seen ++ [n]) + 1 ≤ unseen g seen := by
  unfold unseen
  refine filter_lt _ n.toNat (fun x hx => ?_) (List.mem_range.2 (by omega)) ?_ ?_
  · simp at hx ⊢
    exact hx.1
  · rw [show ((n.toNat : Nat) : Int) = n by omega, hn]; rfl
  · rw [show ((n.toNat : Nat) : Int) = n by omega]; simp
theorem unseen_nil (g : List Nat) : unseen g [] = g.length := by
  unfold unseen
  rw [List.filter_eq_self.2 (fun x _ => by simp), List.length_range]
theorem rdF_rng {h : List Nat} {p : Int} (e : (rdF h p).2.2 = 0) : 0 ≤ p ∧ p < (h.length : Int) := by
  by_cases hp : p < 0 ∨ (h.length : Int) ≤ p
  · rw [(rdF_out hp).1] at e
    cases e
  · omega
theorem rdF_okC {h : List Nat} {p : Int} (e : (rdF h p).2.2 = 0) : OkO (rdF h p).1 := by
  unfold rdF at *
  by_cases hp : p < 0 ∨ (h.length : Int) ≤ p
  · rw [if_pos hp] at e
    cases e
  · rw [if_neg hp] at e ⊢
    cases ho : progF h p.toNat with
    | none =>
      rw [ho] at e
      cases e
    | some o => exact (progF_ok ho).1
set_option maxRecDepth 100000 in
structure BInv (g : List Nat) (f : Nat) (todo : List Nat) (seen out : List Int) : Prop where
  gl : g.length ≤ 4000
  fit : ∀ x ∈ todo, x < 18446744073709551616
  cnt : out.length + unseen g seen ≤ g.length
  sn : seen.length + unseen g seen ≤ g.length
  mu : unseen g seen * 401 + todo.length ≤ f
  f0 : f ≤ g.length * 401 + 1
set_option maxRecDepth 100000 in
theorem BInv.start {g : List Nat} {u : Nat} (hg : g.length ≤ 4000) (hu : u < 18446744073709551616) : BInv g (g.length * 401 + 1) [u] [] [] :=
  ⟨hg, fun x hx => by rw [List.mem_singleton] at hx; subst hx; exact hu, by rw [unseen_nil]; simp, by rw [unseen_nil]; simp, by rw [unseen_nil]; simp, Nat.le_refl _⟩
theorem BInv.pos {g : List Nat} {f u : Nat} {r : List Nat} {seen out : List Int} (h : BInv g f (u :: r) seen out) : ∃ f', f = f' + 1 := by
  have := h.mu
  simp only [List.length_cons] at this
  exact ⟨f - 1, by omega⟩
set_option maxRecDepth 100000 in
theorem BInv.skip {g : List Nat} {f u : Nat} {r : List Nat} {seen out : List Int} (h : BInv g (f + 1) (u :: r) seen out) : BInv g f r seen out :=
  ⟨h.gl, fun x hx => h.fit x (List.mem_cons_of_mem _ hx), h.cnt, h.sn, by have := h.mu; simp only [List.length_cons] at this; omega, by have := h.f0; omega⟩
set_option maxRecDepth 100000 in
theorem BInv.add {g : List Nat} {f u : Nat} {r ps : List Nat} {seen out out' : List Int} {n : Int} (h : BInv g (f + 1) (u :: r) seen out) (h0 : 0 ≤ n) (h1 : n < (g.length : Int)) (hn : seen.contains n = false) (hp : ps.length ≤ 400) (hf : ∀ x ∈ ps, x < 18446744073709551616) (ho : out'.length ≤ out.length + 1) : BInv g f (r ++ ps) (seen ++ [n]) out' := by
  have hu := unseen_add h0 h1 hn
  have hm := h.mu
  have hc := h.cnt
  have hs := h.sn
  simp only [List.length_cons] at hm
  refine ⟨h.gl, fun x hx => ?_, by omega, by rw [List.length_append]; simp; omega, by rw [List.length_append]; omega, by have := h.f0; omega⟩
  rcases List.mem_append.1 hx with hx | hx
  · exact h.fit x (List.mem_cons_of_mem _ hx)
  · exact hf x hx
end Go.Proofs.Ytdjahlkjfpbifaa
