
/-
  CyclePlays: where a round begins; which actor a message names.
-/
import Derived.Test.YtbhdagjilmgahaaCp4
namespace Go.Proofs.Ytbhdagjilmgahaa
open Go.RowKit

theorem idx_spec5 {α : Type} (f : α → Bool) (d : α) : ∀ (l : List α) (k : Nat), (idxAt f l (k : Int) = -1 ∧ l.any f = false) ∨ ∃ i, i < l.length ∧ idxAt f l (k : Int) = ((k + i : Nat) : Int) ∧ f (l.getD i d) = true
  | [], _ => .inl ⟨rfl, rfl⟩
  | x :: r, k => by
    by_cases h : f x = true
    · exact .inr ⟨0, by simp, by simp [idxAt, h], by simpa using h⟩
    · have h' : f x = false := by simpa using h
      have e : idxAt f (x :: r) (k : Int) = idxAt f r ((k + 1 : Nat) : Int) := by simp [idxAt, h']
      rcases idx_spec5 f d r (k + 1) with ⟨h1, h0⟩ | ⟨i, h1, h2, h3⟩
      · exact .inl ⟨by rw [e, h1], by rw [List.any_cons, h', h0]; rfl⟩
      · exact .inr ⟨i + 1, by simp; omega, by rw [e, h2]; congr 1; omega, by simpa using h3⟩
theorem idxK (K : List KnC) (r : Int) : (idxAt (fun x : KnC => x.ref == r) K 0 = -1 ∧ ownF K r = false) ∨ ∃ i : Nat, i < K.length ∧ idxAt (fun x : KnC => x.ref == r) K 0 = (i : Int) ∧ rfK K i = r := by
  rcases idx_spec5 (fun x : KnC => x.ref == r) knc0 K 0 with ⟨h, h0⟩ | ⟨i, h1, h2, h3⟩
  · rw [any_refs] at h0
    exact .inl ⟨h, h0⟩
  · exact .inr ⟨i, h1, by rw [Nat.zero_add] at h2; exact h2, eq_of_beq h3⟩
theorem any_int (l : List Int) (y : Int) : (l.any fun x => y == x) = l.contains y := by
  induction l with
  | nil => rfl
  | cons x t ih => rw [List.any_cons, List.contains_cons, ih]
section
variable {W0 W w1 wc w : World} {N gn gr gm gt : Nat} {K : List KnC} {RA : Int → Option Addr × Nat} {Ac : Option Addr} {cc : Nat} {Ap : Option Addr} {cp gA : Nat} {l : List SlZ} {P : List (List Int)} {M told : List Int} {D : Option Addr} {cd : Nat}
theorem cp_start (hb : Below W0.heap.size W0 w1) (hnd : NdSt W w1 N gn gr gm gt K RA M told told M.length D cd 0) (hlo : W0.heap.size ≤ W.heap.size) (hbc : Below w1.heap.size w1 wc) (hc : OwnAt wc w1.heap.size 28 4 Ac K.length cc (flat knC K))
    (hbw : Below wc.heap.size wc w) (hA : Box w gA 3 #[.int .i64 2]) (hgA : wc.heap.size ≤ gA) (hp : OwnAt w wc.heap.size 23 1 Ap (l.length + 1) cp (flat slZ (⟨some ⟨gA, 0, none⟩, 1, 1⟩ :: l))) (hr : RowsZ W0 (fun b => b < W0.heap.size) l P) :
    CpSt W0 W w N gn gr gm gt K RA w.heap.size D Ac cc Ap (⟨some ⟨gA, 0, none⟩, 1, 1⟩ :: l) ([2] :: P) K M told told [] D cd none 0 0 := by
  have hnw := hnd.nw
  have hhi := hnd.hi
  have hnl := hnd.lo
  have hs1 := hb.size
  have hs2 := hbc.size
  have hs3 := hbw.size
  have hD1 : ∀ b, D.map (·.block) = some b → W.heap.size ≤ b ∧ b < w1.heap.size := fun b e => own_blkK hnd.du e
  have hC1 : ∀ b, Ac.map (·.block) = some b → w1.heap.size ≤ b ∧ b < wc.heap.size := fun b e => own_blkK hc e
  have hbc0 : Below W0.heap.size W0 wc := hb.trans (hbc.mono hs1)
  have hbw0 : Below W0.heap.size W0 w := hbc0.trans (hbw.mono (by omega))
  have hnew : ∀ b, wc.heap.size ≤ b → b < w.heap.size → PlB w.heap.size gn gm gt D Ac b := fun b h1 h2 => ⟨h2, fun e => by
    rcases e with e | e | e | e
    · omega
    · omega
    · omega
    · have := hD1 b e; omega, fun e => by have := hC1 b e; omega⟩
  refine ⟨hbw0, hnd.below (hbc.trans (hbw.mono hs2)), (hc.lower (by omega)).below hbw, OwnAt.nil, fun b hb => .inl hb, fun b hb => by have := hC1 b hb; omega, (fun b hb => by cases hb), (fun b hb => by cases hb), fun hpos => ?_, ⟨by simp [hr.1], fun i hi => ?_⟩, ⟨by omega, Nat.le_refl _⟩, hlo⟩
  · rcases hp.form with ⟨_, h0, _⟩ | ⟨g, o, rfl⟩
    · omega
    · have h1 := hp.lt
      exact ⟨g, o, rfl, hnew g h1.1 h1.2, hp.cells⟩
  · match i with
    | 0 => exact ⟨rfl, fun _ => ⟨gA, 0, rfl, hnew gA hgA hA.lt, fun j v hv => by
        match j, hv with
        | 0, hv => simp [ints] at hv; subst hv; exact hA.cell 0
        | j + 1, hv => simp [ints] at hv⟩⟩
    | i + 1 =>
      have hi' : i < l.length := by simpa using hi
      obtain ⟨h1, h2⟩ := hr.2 i hi'
      refine ⟨h1, h2.off (S := fun _ => False) (T' := PlB w.heap.size gn gm gt D Ac) (Only.of_below (w := W0) (hbw0.mono (Nat.le_refl _))) (fun b hb => ⟨hb, fun e => e⟩) (fun b hb => ⟨by omega, fun e => ?_, fun e => ?_⟩)⟩
      · rcases e with e | e | e | e
        · omega
        · omega
        · omega
        · have := hD1 b e; omega
      · have := hC1 b e
        omega
end
end Go.Proofs.Ytbhdagjilmgahaa
