
/-
  Rows of entries that a map holds, each in memory of its own.
-/
import Derived.Test.YtdjahlkjfpbifaaCa1
namespace Go.Proofs.Ytdjahlkjfpbifaa
open Go.RowKit Go.Maps Go.WideMaps

/-- Which blocks the rows lie in. -/
def RBlk (R : K2 → Option (Option Addr × Nat)) (b : Nat) : Prop := ∃ x p, R x = some p ∧ p.1.map (·.block) = some b
def rowA (R : K2 → Option (Option Addr × Nat)) (x : K2) : Option Addr × Nat := (R x).getD (none, 0)
def updR {α : Type} (R : K2 → α) (x : K2) (v : α) : K2 → α := fun y => if y = x then v else R y
/-- The map gm holds the rows T; each lies in a block of its own. -/
structure Rows1 (w : World) (base : Nat) (k : TypeId) (gm n : Nat) (R : K2 → Option (Option Addr × Nat)) (T : K2 → List Wa) : Prop where
  map : MapV k2L Try.prog k w gm n (fun x => (R x).map fun p => Value.slice p.1 (T x).length p.2)
  own : ∀ x p, R x = some p → OwnAt w base 77 2 p.1 (T x).length p.2 (flat waC (T x))
  nil : ∀ x, R x = none → T x = []
  apart : ∀ x y p q b, x ≠ y → R x = some p → R y = some q → p.1.map (·.block) = some b → q.1.map (·.block) ≠ some b
  ge : base ≤ gm
  len : ∀ x, (T x).length ≤ 5
section
variable {w w1 w' : World} {base : Nat} {k : TypeId} {gm n : Nat} {R : K2 → Option (Option Addr × Nat)} {T : K2 → List Wa}
theorem own_blk {e : TypeId} {m c s : Nat} {A : Option Addr} {xs : List Value} (h : OwnAt w base e s A m c xs) {b : Nat} (hb : A.map (·.block) = some b) : base ≤ b ∧ b < w.heap.size := by
  rcases h.form with ⟨rfl, _⟩ | ⟨g', o, rfl⟩
  · cases hb
  · have := h.lt
    simp at hb
    omega
theorem map_not_own {α : Type} {f : α → Lit} {F : α → Option Value} {e : TypeId} {m c s : Nat} {A : Option Addr} {xs : List Value} (hm : MapV f Try.prog k w gm n F) (h : OwnAt w base e s A m c xs) : A.map (·.block) ≠ some gm := fun e => by
  obtain ⟨D, ⟨es, clock, hb, _⟩, _⟩ := hm
  rcases h.2 with ⟨rfl, _⟩ | ⟨g, o, cur, rfl, _, hh, _⟩
  · cases e
  · simp at e
    subst e
    rw [hh] at hb
    cases hb
theorem only_grown {b : Nat} (h : w.grownBy w' (some b)) : Only (· = b) w w' := ⟨h.os, h.tape, h.output, h.size, fun i hi hne => h.block i hi (fun e => hne (by injection e))⟩
theorem Rows1.only {S : Nat → Prop} (h : Rows1 w base k gm n R T) (ho : Only S w w') (hg : ¬ S gm) (hb : ∀ b, RBlk R b → ¬ S b) : Rows1 w' base k gm n R T :=
  ⟨h.map.only ho hg, fun x p hp => (h.own x p hp).only ho fun b e => hb b ⟨x, p, hp, e⟩, h.nil, h.apart, h.ge, h.len⟩
theorem Rows1.mono1 (h : Rows1 w base k gm n R T) : Rows1 w base k gm (n + 1) R T :=
  ⟨h.map.mono (Nat.le_succ _), h.own, h.nil, h.apart, h.ge, h.len⟩
theorem Rows1.below (h : Rows1 w base k gm n R T) (hb : Below w.heap.size w w') : Rows1 w' base k gm n R T :=
  ⟨h.map.under hb, fun x p hp => (h.own x p hp).below hb, h.nil, h.apart, h.ge, h.len⟩
theorem Rows1.at (h : Rows1 w base k gm n R T) (x : K2) : OwnAt w base 77 2 (rowA R x).1 (T x).length (rowA R x).2 (flat waC (T x)) := by
  unfold rowA
  cases hr : R x with
  | none =>
    rw [h.nil x hr]
    exact OwnAt.nil
  | some p => exact h.own x p hr
theorem Rows1.val (h : Rows1 w base k gm n R T) (x : K2) : ((R x).map fun p => Value.slice p.1 (T x).length p.2).getD (.slice none 0 0) = .slice (rowA R x).1 (T x).length (rowA R x).2 := by
  unfold rowA
  cases hr : R x with
  | none => rw [h.nil x hr]; rfl
  | some p => rfl
theorem Rows1.blk_lt (h : Rows1 w base k gm n R T) {b : Nat} (hb : RBlk R b) : base ≤ b ∧ b < w.heap.size := by
  obtain ⟨x, p, hp, e⟩ := hb
  exact own_blk (h.own x p hp) e
theorem Rows1.blk_ne (h : Rows1 w base k gm n R T) {b : Nat} (hb : RBlk R b) : b ≠ gm := fun e => by
  obtain ⟨x, p, hp, e'⟩ := hb
  exact map_not_own h.map (h.own x p hp) (by rw [e', e])
theorem rowA_blk {x : K2} {b : Nat} (hb : (rowA R x).1.map (·.block) = some b) : RBlk R b := by
  unfold rowA at hb
  cases hr : R x with
  | none => rw [hr] at hb; cases hb
  | some p => rw [hr] at hb; exact ⟨x, p, hr, hb⟩
/-- A site's row is laid anew, perhaps in its own block. -/
theorem Rows1.put {t e : TypeId} (h : Rows1 w base k gm n R T) (K : Keyed Try.prog k) (ht : Try.prog.underlying t = some (.map k e)) (hn : n < maxLen) {key : Value} {x : K2} (hkey : keyOf Try.prog k key = some (k2L x)) {A' : Option Addr} {c' : Nat} {L : List Wa} (hL : L.length ≤ 5)
    (ho : Only (fun b => (rowA R x).1.map (·.block) = some b) w w1) (hown : OwnAt w1 base 77 2 A' L.length c' (flat waC L)) (hA : ∀ b, A'.map (·.block) = some b → (rowA R x).1.map (·.block) = some b ∨ w.heap.size ≤ b) :
    ∃ w2, (Instr.mapUpdate t (.map (some gm)) key (.slice A' L.length c')).run Try.prog w1 = .ok () w2 ∧ Rows1 w2 base k gm (n + 1) (updR R x (some (A', c'))) (updR T x L) ∧ Only (· = gm) w1 w2 := by
  have hgm : ¬ (rowA R x).1.map (·.block) = some gm := fun e' => h.blk_ne (rowA_blk e') rfl
  have hm1 := h.map.only ho hgm
  obtain ⟨w2, hrun, hm2, hg⟩ := hm1.put K ht hn k2L_inj k2L_key hkey (.slice A' L.length c')
  have ho2 := only_grown hg
  have hng : A'.map (·.block) ≠ some gm := map_not_own hm1 hown
  refine ⟨w2, hrun, ⟨?_, fun y p hp => ?_, fun y hy => ?_, fun y z p q b hne hp hq hb => ?_, h.ge, fun y => ?_⟩, ho2⟩
  · have e : (fun y => if y = x then some (Value.slice A' L.length c') else (R y).map fun p => Value.slice p.1 (T y).length p.2) = fun y => (updR R x (some (A', c')) y).map fun p => Value.slice p.1 (updR T x L y).length p.2 := by
      funext y
      unfold updR
      by_cases hy : y = x
      · rw [if_pos hy, if_pos hy, if_pos hy]; rfl
      · rw [if_neg hy, if_neg hy, if_neg hy]
    rw [← e]
    exact hm2
  · unfold updR at hp ⊢
    by_cases hy : y = x
    · rw [if_pos hy] at hp ⊢
      injection hp with hp
      subst hp
      exact hown.only ho2 fun b hb e => hng (by rw [hb, e])
    · rw [if_neg hy] at hp ⊢
      have h1 := (h.own y p hp).only ho fun b hb hb' => by
        obtain ⟨x', p', hp', e'⟩ := rowA_blk hb'
        unfold rowA at hb'
        cases hr : R x with
        | none => rw [hr] at hb'; cases hb'
        | some q => rw [hr] at hb'; exact h.apart y x p q b hy hp hr hb hb'
      exact h1.only ho2 fun b hb e => h.blk_ne ⟨y, p, hp, hb⟩ e
  · unfold updR at hy ⊢
    by_cases hyx : y = x
    · rw [if_pos hyx] at hy; cases hy
    · rw [if_neg hyx] at hy ⊢
      exact h.nil y hy
  · unfold updR at hp hq
    have key : ∀ (y : K2) (p : Option Addr × Nat) (b : Nat), y ≠ x → R y = some p → p.1.map (·.block) = some b → A'.map (·.block) ≠ some b := fun y p b hy hp hb e' => by
      rcases hA b e' with h1 | h1
      · unfold rowA at h1
        cases hr : R x with
        | none => rw [hr] at h1; cases h1
        | some q => rw [hr] at h1; exact h.apart y x p q b hy hp hr hb h1
      · have := (own_blk (h.own y p hp) hb).2
        omega
    by_cases hy : y = x
    · rw [if_pos hy] at hp
      injection hp with hp
      subst hp
      have hz : z ≠ x := fun e' => hne (by rw [hy, e'])
      rw [if_neg hz] at hq
      exact fun e' => key z q b hz hq e' hb
    · rw [if_neg hy] at hp
      by_cases hz : z = x
      · rw [if_pos hz] at hq
        injection hq with hq
        subst hq
        exact key y p b hy hp hb
      · rw [if_neg hz] at hq
        exact h.apart y z p q b hne hp hq hb
  · unfold updR
    by_cases hy : y = x
    · rw [if_pos hy]; exact hL
    · rw [if_neg hy]; exact h.len y
theorem Rows1.made (hb : base ≤ w.heap.size) : Rows1 (w.alloc (.map #[] 0)) base k w.heap.size 0 (fun _ => none) (fun _ => []) :=
  ⟨MapV.made w, (fun x p hp => by cases hp), fun _ _ => rfl, (fun x y p q b _ hp => by cases hp), hb, fun _ => by simp⟩
end

/-- A cache in memory. -/
structure CaSt (w : World) (base gk gm n : Nat) (AI : Option Addr) (cI : Nat) (ims : List Im) (R : K2 → Option (Option Addr × Nat)) (T : K2 → List Wa) (hits misses : Int) : Prop where
  box : Box w gk 174 #[.slice AI ims.length cI, .map (some gm), .int .i64 hits, .int .i64 misses]
  rows : Rows1 w base 176 gm n R T
  ims : OwnAt w base 81 3 AI ims.length cI (flat imC ims)
  ge : base ≤ gk
section
variable {w w' : World} {base gk gm n : Nat} {AI : Option Addr} {cI : Nat} {ims : List Im} {R : K2 → Option (Option Addr × Nat)} {T : K2 → List Wa} {hits misses : Int}
theorem CaSt.below (h : CaSt w base gk gm n AI cI ims R T hits misses) (hb : Below w.heap.size w w') : CaSt w' base gk gm n AI cI ims R T hits misses :=
  ⟨h.box.below hb h.box.lt, h.rows.below hb, h.ims.below hb, h.ge⟩
theorem box_not_own {e e' : TypeId} {cs : Array Value} {g m c s : Nat} {A : Option Addr} {xs : List Value} (hb : Box w g e cs) (h : OwnAt w base e' s A m c xs) (hne : e ≠ e') : A.map (·.block) ≠ some g := fun e1 => by
  rcases h.2 with ⟨rfl, _⟩ | ⟨g', o, cur, rfl, _, hh, _⟩
  · cases e1
  · simp at e1
    subst e1
    unfold Box at hb
    rw [hh] at hb
    injection hb with hb
    injection hb with h1 h2 h3
    exact hne h2.symm
theorem own_not_own {e e' : TypeId} {m c s m' c' s' : Nat} {A A' : Option Addr} {xs xs' : List Value} (h : OwnAt w base e s A m c xs) (h' : OwnAt w base e' s' A' m' c' xs') (hne : e ≠ e') {b : Nat} (hb : A.map (·.block) = some b) : A'.map (·.block) ≠ some b := fun e1 => by
  rcases h.2 with ⟨rfl, _⟩ | ⟨g, o, cur, rfl, _, hh, _⟩
  · cases hb
  · rcases h'.2 with ⟨rfl, _⟩ | ⟨g', o', cur', rfl, _, hh', _⟩
    · cases e1
    · simp at e1 hb
      subst e1 hb
      rw [hh] at hh'
      injection hh' with hh'
      injection hh' with h1 h2 h3
      exact hne h2
theorem only_afterC {w wr w2 : World} {S S' : Nat → Prop} (h : Only S w wr) (k : Only S' wr w2) (hT : ∀ b, S' b → S b ∨ w.heap.size ≤ b) : Only S w w2 :=
  ⟨k.os.trans h.os, k.tape.trans h.tape, k.output.trans h.output, Nat.le_trans h.size k.size, fun i hi hne => (k.block i (Nat.lt_of_lt_of_le hi h.size) (fun e => by
    rcases hT i e with e | e
    · exact hne e
    · omega)).trans (h.block i hi hne)⟩
theorem upd_blk {x : K2} {A' : Option Addr} {c' s : Nat} (hA : ∀ b, A'.map (·.block) = some b → (rowA R x).1.map (·.block) = some b ∨ s ≤ b) : ∀ b, RBlk (updR R x (some (A', c'))) b → RBlk R b ∨ s ≤ b := fun b hb => by
  obtain ⟨y, p, hp, e⟩ := hb
  unfold updR at hp
  by_cases hy : y = x
  · rw [if_pos hy] at hp
    injection hp with hp
    subst hp
    exact (hA b e).imp_left rowA_blk
  · rw [if_neg hy] at hp
    exact .inl ⟨y, p, hp, e⟩
theorem CaSt.k_gm (h : CaSt w base gk gm n AI cI ims R T hits misses) : gk ≠ gm := fun e => by
  obtain ⟨D, ⟨es, clock, hb, _⟩, _⟩ := h.rows.map
  have h1 := h.box
  unfold Box at h1
  rw [e, hb] at h1
  cases h1
end
end Go.Proofs.Ytdjahlkjfpbifaa
