
/-
  Links: rows of the call's own: each row's two lists in blocks of their own.
-/
import Derived.Test.YtgjimjpbogadjaaLk1
import Derived.Test.YtgjimjpbogadjaaLkDI
import Derived.Test.YtgjimjpbogadjaaOwnOnly
import Derived.Laws.AppendOwnNone
namespace Go.Proofs.Ytgjimjpbogadjaa
open Go.RowKit

def blkS (A : Option Addr) (b : Nat) : Prop := A.map (·.block) = some b
theorem blkS_lt {w : World} {base e k n c : Nat} {A : Option Addr} {xs : List Value} (ho : OwnAt w base e k A n c xs) {b : Nat} (hb : blkS A b) : base ≤ b ∧ b < w.heap.size := by
  rcases ho.form with ⟨rfl, _⟩ | ⟨g1, o1, rfl⟩
  · cases hb
  · simp [blkS] at hb; subst hb; exact ho.lt
/-- A line of the call's own. -/
structure LineOwn (w : World) (base : Nat) (y : BC) (ys : List Int) : Prop where
  len : y.len = ys.length
  own : OwnAt w base 3 1 y.A ys.length y.cap (ints ys)
  rng : ∀ v ∈ ys, I64 v
  big : ys.length ≤ 17592186044416
theorem LineOwn.below {w w' : World} {base : Nat} {y : BC} {ys : List Int} (h : LineOwn w base y ys) (hb : Below w.heap.size w w') : LineOwn w' base y ys := ⟨h.len, h.own.below hb, h.rng, h.big⟩
theorem LineOwn.only {w w' : World} {base : Nat} {T : Nat → Prop} {y : BC} {ys : List Int} (h : LineOwn w base y ys) (ho : Only T w w') (hT : ∀ b, blkS y.A b → ¬ T b) : LineOwn w' base y ys := ⟨h.len, h.own.only ho hT, h.rng, h.big⟩
theorem LineOwn.lower {w : World} {base base' : Nat} {y : BC} {ys : List Int} (h : LineOwn w base y ys) (hb : base' ≤ base) : LineOwn w base' y ys := ⟨h.len, h.own.lower hb, h.rng, h.big⟩
theorem LineOwn.iin {w : World} {base : Nat} {y : BC} {ys : List Int} (h : LineOwn w base y ys) : IIn w (fun b => blkS y.A b) 0 y ys := by
  refine ⟨h.len, fun hp => ?_, ?_, ?_, ?_, h.rng, h.big⟩
  · obtain ⟨b, o, e, _, hc⟩ := h.own.row hp
    exact ⟨b, o, e, by rw [e]; rfl, hc⟩
  · rw [h.len]
    rcases h.own.2 with ⟨_, h0, h1⟩ | ⟨_, _, _, _, _, _, h3, _⟩
    · omega
    · exact h3
  · rcases h.own.2 with ⟨_, _, h1⟩ | ⟨_, _, _, _, _, _, _, h4, _⟩
    · rw [h1]; exact Nat.zero_le _
    · exact h4
  · intro e
    rcases h.own.form with ⟨_, _, h0⟩ | ⟨g, o, h0⟩
    · exact h0
    · rw [h0] at e; cases e

/-- The blocks of a row's two lists. -/
def lkB (x : LkC) (b : Nat) : Prop := blkS x.W.A b ∨ blkS x.L.A b
structure LkOwn (w : World) (base : Nat) (x : LkC) (v : Lk) : Prop where
  ref : x.r = v.ref
  W : LineOwn w base x.W v.ws
  L : LineOwn w base x.L v.ls
  two : ∀ b, blkS x.W.A b → ¬ blkS x.L.A b
section
variable {w w' : World} {base base' : Nat} {x : LkC} {v : Lk}
theorem LkOwn.lt (h : LkOwn w base x v) {b : Nat} (hb : lkB x b) : base ≤ b ∧ b < w.heap.size := by
  rcases hb with hb | hb
  · exact blkS_lt h.W.own hb
  · exact blkS_lt h.L.own hb
theorem LkOwn.below (h : LkOwn w base x v) (hb : Below w.heap.size w w') : LkOwn w' base x v := ⟨h.ref, h.W.below hb, h.L.below hb, h.two⟩
theorem LkOwn.only {T : Nat → Prop} (h : LkOwn w base x v) (ho : Only T w w') (hT : ∀ b, lkB x b → ¬ T b) : LkOwn w' base x v := ⟨h.ref, h.W.only ho (fun b hb => hT b (.inl hb)), h.L.only ho (fun b hb => hT b (.inr hb)), h.two⟩
theorem LkOwn.lower (h : LkOwn w base x v) (hb : base' ≤ base) : LkOwn w base' x v := ⟨h.ref, h.W.lower hb, h.L.lower hb, h.two⟩
theorem LkOwn.iin (h : LkOwn w base x v) : LkIn w (fun b => lkB x b) 0 x v := ⟨h.ref, h.W.iin.keep (fun _ _ => rfl) (fun _ hb => .inl hb), h.L.iin.keep (fun _ _ => rfl) (fun _ hb => .inr hb)⟩
end

/-- Rows of the call's own, in blocks of their own. -/
structure OwnLks (w : World) (base : Nat) (A : Option Addr) (c : Nat) (l : List LkC) (vs : List Lk) : Prop where
  len : l.length = vs.length
  row : OwnAt w base 114 3 A l.length c (flat lkC l)
  each : ∀ i, i < l.length → LkOwn w base (l.getD i lkc0) (vs.getD i lk0)
  off : ∀ i, i < l.length → ∀ b, lkB (l.getD i lkc0) b → ¬ blkS A b
  part : ∀ i j, i < l.length → j < l.length → i ≠ j → ∀ b, lkB (l.getD i lkc0) b → ¬ lkB (l.getD j lkc0) b
section
variable {w w' : World} {base : Nat} {A : Option Addr} {c : Nat} {l : List LkC} {vs : List Lk}
theorem OwnLks.nil : OwnLks w base none 0 [] [] := ⟨rfl, OwnAt.nil, (fun i hi => absurd hi (by simp)), (fun i hi => absurd hi (by simp)), (fun i j hi => absurd hi (by simp))⟩
theorem OwnLks.below (h : OwnLks w base A c l vs) (hb : Below w.heap.size w w') : OwnLks w' base A c l vs := ⟨h.len, h.row.below hb, fun i hi => (h.each i hi).below hb, h.off, h.part⟩
theorem OwnLks.lkRow (h : OwnLks w base A c l vs) (hm : l.length * 56 ≤ reachBytes) : lkRow w (base ≤ ·) 0 A c l vs := by
  refine ⟨h.len, ?_, fun i hi => (h.each i hi).iin.keep (fun _ _ => rfl) (fun b hb => ((h.each i hi).lt hb).1), ?_, ?_, ?_, hm⟩
  · intro hp
    obtain ⟨b, o, e, _, hc⟩ := h.row.row hp
    subst e
    exact ⟨b, o, rfl, h.row.lt.1, hc⟩
  · rcases h.row.2 with ⟨_, h0, h1⟩ | ⟨_, _, _, _, _, _, h3, _⟩
    · omega
    · exact h3
  · rcases h.row.2 with ⟨_, _, h1⟩ | ⟨_, _, _, _, _, _, _, h4, _⟩
    · rw [h1]; exact Nat.zero_le _
    · exact h4
  · intro e
    rcases h.row.form with ⟨_, _, h0⟩ | ⟨g, o, h0⟩
    · exact h0
    · rw [h0] at e; cases e
theorem getD_setS {α : Type} (l : List α) (d : α) (k i : Nat) (x : α) (hk : k < l.length) : (l.set k x).getD i d = if i = k then x else l.getD i d := by
  rw [List.getD_eq_getElem?_getD, List.getElem?_set]
  by_cases e : k = i
  · subst e; rw [if_pos rfl, if_pos hk, if_pos rfl]; rfl
  · rw [if_neg e, if_neg (fun h => e h.symm), List.getD_eq_getElem?_getD]
/-- One list of a row replaced: what turned is its block alone. -/
theorem OwnLks.putW {g o : Nat} (h : OwnLks w base (some ⟨g, o, none⟩) c l vs) {q : Nat} (hq : q < l.length) (ho : Only (fun b => blkS (l.getD q lkc0).W.A b) w w') {y : BC} {ys : List Int} (hy : LineOwn w' base y ys) (hyb : ∀ b, blkS y.A b → blkS (l.getD q lkc0).W.A b ∨ w.heap.size ≤ b) :
    OwnLks (w'.setCell ⟨g, o + q * 3 + 1, none⟩ (.slice y.A y.len y.cap)) base (some ⟨g, o, none⟩) c (l.set q ⟨(l.getD q lkc0).r, y, (l.getD q lkc0).L⟩) (vs.set q ⟨(vs.getD q lk0).ref, ys, (vs.getD q lk0).ls⟩) := by
  have hgq : ¬ blkS (l.getD q lkc0).W.A g := fun hb => h.off q hq g (.inl hb) rfl
  have hglt := h.row.lt
  have hyg : ¬ blkS y.A g := fun hb => by
    rcases hyb g hb with h1 | h1
    · exact hgq h1
    · omega
  obtain ⟨z, hz⟩ : ∃ z : LkC, z = ⟨(l.getD q lkc0).r, y, (l.getD q lkc0).L⟩ := ⟨_, rfl⟩
  have hzb : ∀ b, lkB z b → lkB (l.getD q lkc0) b ∨ w.heap.size ≤ b := fun b hb => by
    subst hz
    rcases hb with hb | hb
    · rcases hyb b hb with h1 | h1; exact .inl (.inl h1); exact .inr h1
    · exact .inl (.inr hb)
  have hlen : (l.set q z).length = l.length := List.length_set ..
  have hos : Only (fun b => b = g) w' (w'.setCell ⟨g, o + q * 3 + 1, none⟩ (.slice y.A y.len y.cap)) := (Only.refl (fun b => b = g) w').set (p := ⟨g, o + q * 3 + 1, none⟩) rfl _
  have hvq : q < vs.length := by rw [← h.len]; exact hq
  have hzo : LkOwn w' base z ⟨(vs.getD q lk0).ref, ys, (vs.getD q lk0).ls⟩ := by
    subst hz
    have he := h.each q hq
    refine ⟨he.ref, hy, he.L.only ho (fun b hb hb2 => he.two b hb2 hb), fun b hb hb2 => ?_⟩
    rcases hyb b hb with h1 | h1
    · exact he.two b h1 hb2
    · have := (blkS_lt he.L.own hb2).2
      omega
  rw [← hz]
  refine ⟨by rw [hlen, List.length_set]; exact h.len, ?_, fun i hi => ?_, fun i hi b hb => ?_, fun i j hi hj hne b hb => ?_⟩
  · have h1 : OwnAt w' base 114 3 (some ⟨g, o, none⟩) l.length c (flat lkC l) := h.row.only ho (fun b hb => by simp at hb; subst hb; exact hgq)
    have h2 := h1.set (j := q * 3 + 1) (.slice y.A y.len y.cap)
    rw [hlen]
    have h3 := flat_set (j := 1) lkC_len l (.slice y.A y.len y.cap) (getD_some lkc0 hq) (by decide) z (by rw [hz]; rfl)
    rw [← h3]
    exact h2
  · rw [hlen] at hi
    rw [getD_setS l lkc0 q i z hq, getD_setS vs lk0 q i _ hvq]
    by_cases e : i = q
    · rw [if_pos e, if_pos e]
      refine hzo.only hos (fun b hb e => ?_)
      subst e
      rcases hzb b hb with h1 | h1
      · exact h.off q hq b h1 rfl
      · omega
    · rw [if_neg e, if_neg e]
      exact ((h.each i hi).only ho (fun b hb hb2 => h.part i q hi hq e b hb (.inl hb2))).only hos (fun b hb e => by subst e; exact h.off i hi _ hb rfl)
  · rw [hlen] at hi
    rw [getD_setS l lkc0 q i z hq] at hb
    by_cases e : i = q
    · rw [if_pos e] at hb
      intro h2
      simp [blkS] at h2
      subst h2
      rcases hzb _ hb with h1 | h1
      · exact h.off q hq _ h1 rfl
      · omega
    · rw [if_neg e] at hb
      exact h.off i hi b hb
  · rw [hlen] at hi hj
    rw [getD_setS l lkc0 q i z hq] at hb
    rw [getD_setS l lkc0 q j z hq]
    by_cases e : i = q
    · rw [if_pos e] at hb
      rw [if_neg (fun e2 => hne (e.trans e2.symm))]
      intro h2
      rcases hzb b hb with h1 | h1
      · exact h.part q j hq hj (fun e2 => hne (e.trans e2)) b h1 h2
      · have := ((h.each j hj).lt h2).2
        omega
    · rw [if_neg e] at hb
      by_cases e2 : j = q
      · rw [if_pos e2]
        intro h2
        rcases hzb b h2 with h1 | h1
        · exact h.part i q hi hq e b hb h1
        · have := ((h.each i hi).lt hb).2
          omega
      · rw [if_neg e2]
        exact h.part i j hi hj hne b hb
/-- One list of a row replaced: what turned is its block alone. -/
theorem OwnLks.putL {g o : Nat} (h : OwnLks w base (some ⟨g, o, none⟩) c l vs) {q : Nat} (hq : q < l.length) (ho : Only (fun b => blkS (l.getD q lkc0).L.A b) w w') {y : BC} {ys : List Int} (hy : LineOwn w' base y ys) (hyb : ∀ b, blkS y.A b → blkS (l.getD q lkc0).L.A b ∨ w.heap.size ≤ b) :
    OwnLks (w'.setCell ⟨g, o + q * 3 + 2, none⟩ (.slice y.A y.len y.cap)) base (some ⟨g, o, none⟩) c (l.set q ⟨(l.getD q lkc0).r, (l.getD q lkc0).W, y⟩) (vs.set q ⟨(vs.getD q lk0).ref, (vs.getD q lk0).ws, ys⟩) := by
  have hgq : ¬ blkS (l.getD q lkc0).L.A g := fun hb => h.off q hq g (.inr hb) rfl
  have hglt := h.row.lt
  have hyg : ¬ blkS y.A g := fun hb => by
    rcases hyb g hb with h1 | h1
    · exact hgq h1
    · omega
  obtain ⟨z, hz⟩ : ∃ z : LkC, z = ⟨(l.getD q lkc0).r, (l.getD q lkc0).W, y⟩ := ⟨_, rfl⟩
  have hzb : ∀ b, lkB z b → lkB (l.getD q lkc0) b ∨ w.heap.size ≤ b := fun b hb => by
    subst hz
    rcases hb with hb | hb
    · exact .inl (.inl hb)
    · rcases hyb b hb with h1 | h1; exact .inl (.inr h1); exact .inr h1
  have hlen : (l.set q z).length = l.length := List.length_set ..
  have hos : Only (fun b => b = g) w' (w'.setCell ⟨g, o + q * 3 + 2, none⟩ (.slice y.A y.len y.cap)) := (Only.refl (fun b => b = g) w').set (p := ⟨g, o + q * 3 + 2, none⟩) rfl _
  have hvq : q < vs.length := by rw [← h.len]; exact hq
  have hzo : LkOwn w' base z ⟨(vs.getD q lk0).ref, (vs.getD q lk0).ws, ys⟩ := by
    subst hz
    have he := h.each q hq
    refine ⟨he.ref, he.W.only ho (fun b hb hb2 => he.two b hb hb2), hy, fun b hb hb2 => ?_⟩
    rcases hyb b hb2 with h1 | h1
    · exact he.two b hb h1
    · have := (blkS_lt he.W.own hb).2
      omega
  rw [← hz]
  refine ⟨by rw [hlen, List.length_set]; exact h.len, ?_, fun i hi => ?_, fun i hi b hb => ?_, fun i j hi hj hne b hb => ?_⟩
  · have h1 : OwnAt w' base 114 3 (some ⟨g, o, none⟩) l.length c (flat lkC l) := h.row.only ho (fun b hb => by simp at hb; subst hb; exact hgq)
    have h2 := h1.set (j := q * 3 + 2) (.slice y.A y.len y.cap)
    rw [hlen]
    have h3 := flat_set (j := 2) lkC_len l (.slice y.A y.len y.cap) (getD_some lkc0 hq) (by decide) z (by rw [hz]; rfl)
    rw [← h3]
    exact h2
  · rw [hlen] at hi
    rw [getD_setS l lkc0 q i z hq, getD_setS vs lk0 q i _ hvq]
    by_cases e : i = q
    · rw [if_pos e, if_pos e]
      refine hzo.only hos (fun b hb e => ?_)
      subst e
      rcases hzb b hb with h1 | h1
      · exact h.off q hq b h1 rfl
      · omega
    · rw [if_neg e, if_neg e]
      exact ((h.each i hi).only ho (fun b hb hb2 => h.part i q hi hq e b hb (.inr hb2))).only hos (fun b hb e => by subst e; exact h.off i hi _ hb rfl)
  · rw [hlen] at hi
    rw [getD_setS l lkc0 q i z hq] at hb
    by_cases e : i = q
    · rw [if_pos e] at hb
      intro h2
      simp [blkS] at h2
      subst h2
      rcases hzb _ hb with h1 | h1
      · exact h.off q hq _ h1 rfl
      · omega
    · rw [if_neg e] at hb
      exact h.off i hi b hb
  · rw [hlen] at hi hj
    rw [getD_setS l lkc0 q i z hq] at hb
    rw [getD_setS l lkc0 q j z hq]
    by_cases e : i = q
    · rw [if_pos e] at hb
      rw [if_neg (fun e2 => hne (e.trans e2.symm))]
      intro h2
      rcases hzb b hb with h1 | h1
      · exact h.part q j hq hj (fun e2 => hne (e.trans e2)) b h1 h2
      · have := ((h.each j hj).lt h2).2
        omega
    · rw [if_neg e] at hb
      by_cases e2 : j = q
      · rw [if_pos e2]
        intro h2
        rcases hzb b h2 with h1 | h1
        · exact h.part i q hi hq e b hb h1
        · have := ((h.each i hi).lt hb).2
          omega
      · rw [if_neg e2]
        exact h.part i j hi hj hne b hb
/-- One row more, in a block that is new. -/
theorem OwnLks.push {w w' : World} {base : Nat} {A A' : Option Addr} {c c' : Nat} {l : List LkC} {vs : List Lk} (h : OwnLks w base A c l vs) {y : LkC} {ys : Lk} (hy : LkOwn w base y ys) (hyA : ∀ b, lkB y b → ¬ blkS A b ∧ ∀ i, i < l.length → ¬ lkB (l.getD i lkc0) b)
    (hrow : OwnAt w' base 114 3 A' (l.length + 1) c' (flat lkC (l ++ [y]))) (ho : Only (fun b => blkS A b) w w') (hA' : ∀ b, blkS A' b → blkS A b ∨ w.heap.size ≤ b) : OwnLks w' base A' c' (l ++ [y]) (vs ++ [ys]) := by
  have hg : ∀ i, (l ++ [y]).getD i lkc0 = if i < l.length then l.getD i lkc0 else if i = l.length then y else lkc0 := fun i => by
    rw [List.getD_eq_getElem?_getD, List.getElem?_append]
    by_cases e : i < l.length
    · rw [if_pos e, if_pos e, List.getD_eq_getElem?_getD]
    · rw [if_neg e, if_neg e]
      by_cases e2 : i = l.length
      · rw [if_pos e2, e2, Nat.sub_self]; rfl
      · rw [if_neg e2, List.getElem?_eq_none (by simp; omega)]; rfl
  have hv : ∀ i, (vs ++ [ys]).getD i lk0 = if i < l.length then vs.getD i lk0 else if i = l.length then ys else lk0 := fun i => by
    rw [List.getD_eq_getElem?_getD, List.getElem?_append, ← h.len]
    by_cases e : i < l.length
    · rw [if_pos e, if_pos e, List.getD_eq_getElem?_getD]
    · rw [if_neg e, if_neg e]
      by_cases e2 : i = l.length
      · rw [if_pos e2, e2, Nat.sub_self]; rfl
      · rw [if_neg e2, List.getElem?_eq_none (by simp; omega)]; rfl
  have hoffA : ∀ i, i < l.length + 1 → ∀ b, lkB ((l ++ [y]).getD i lkc0) b → ¬ blkS A b ∧ b < w.heap.size := fun i hi b hb => by
    rw [hg i] at hb
    by_cases e : i < l.length
    · rw [if_pos e] at hb
      exact ⟨h.off i e b hb, ((h.each i e).lt hb).2⟩
    · rw [if_neg e, if_pos (by omega)] at hb
      exact ⟨(hyA b hb).1, (hy.lt hb).2⟩
  refine ⟨by simp [h.len], by simpa using hrow, fun i hi => ?_, fun i hi b hb hb2 => ?_, fun i j hi hj hne b hb hb2 => ?_⟩
  · rw [List.length_append, List.length_singleton] at hi
    have hT := fun b hb => (hoffA i hi b hb).1
    rw [hg i] at hT ⊢
    rw [hv i]
    by_cases e : i < l.length
    · rw [if_pos e] at hT ⊢
      rw [if_pos e]
      exact (h.each i e).only ho hT
    · rw [if_neg e, if_pos (show i = l.length by omega)] at hT ⊢
      rw [if_neg e, if_pos (show i = l.length by omega)]
      exact hy.only ho hT
  · rw [List.length_append, List.length_singleton] at hi
    have h1 := hoffA i hi b hb
    rcases hA' b hb2 with h2 | h2
    · exact h1.1 h2
    · omega
  · rw [List.length_append, List.length_singleton] at hi hj
    rw [hg i] at hb
    rw [hg j] at hb2
    by_cases e : i < l.length
    · rw [if_pos e] at hb
      by_cases e2 : j < l.length
      · rw [if_pos e2] at hb2
        exact h.part i j e e2 hne b hb hb2
      · rw [if_neg e2, if_pos (by omega)] at hb2
        exact (hyA b hb2).2 i e hb
    · rw [if_neg e, if_pos (by omega)] at hb
      by_cases e2 : j < l.length
      · rw [if_pos e2] at hb2
        exact (hyA b hb).2 j e2 hb2
      · omega
theorem LkOwn.new {w w1 : World} {base : Nat} {A : Option Addr} {c : Nat} {l : List LkC} {vs : List Lk} {y : LkC} {v : Lk} (h : OwnLks w base A c l vs) (hy : LkOwn w1 w.heap.size y v) : ∀ b, lkB y b → ¬ blkS A b ∧ ∀ i, i < l.length → ¬ lkB (l.getD i lkc0) b := fun b hb => by
  have h1 := (hy.lt hb).1
  exact ⟨fun h2 => by have := (blkS_lt h.row h2).2; omega, fun i hi h2 => by have := ((h.each i hi).lt h2).2; omega⟩
end

/-- One row appended, in a region that draws its order. -/
theorem step_push_lk {ops : Array Oper} {o : Oper} {a : Act} {w : World} {K : Act → World → Prop} {Q : Exit → Act → World → Prop} {E : Prop} (hgd : o.guard = none) (s x : Operand)
    (ho : o.op = .call { callee := .builtin .append, args := #[s, x], argTypes := #[96, 96] })
    (base : Nat) (A : Option Addr) (c m : Nat) (l : List LkC) (vs : List Lk) (hm : l.length = m) (hs : a.eval s = .slice A m c) (hmk : OwnLks w base A c l vs) (g : Nat) (y : LkC) (v : Lk) (hx : a.eval x = .slice (some ⟨g, 0, none⟩) 1 1) (hyc : ∀ j u, (lkC y)[j]? = some u → w.cell? ⟨g, j, none⟩ = some u)
    (hy : LkOwn w base y v) (hyA : ∀ b, lkB y b → ¬ blkS A b ∧ ∀ i, i < l.length → ¬ lkB (l.getD i lkc0) b)
    (hb : (m + 1) * 56 ≤ 140737488355328) (hbase : base ≤ w.heap.size)
    (h : ∀ A' c' w', OwnLks w' base A' c' (l ++ [y]) (vs ++ [v]) → Below base w w' → Only (fun b => blkS A b) w w' → K (a.put o.dst (.slice A' (m + 1) c')) w') :
    if Region.wanted o (yielded ops a.tmps) = true then Oper.wp Try.prog o a w K Q else E := by
  subst hm
  obtain ⟨i0, z0, hi0, hz0, hz1, hz2, hz3⟩ := lk_parts
  refine step_append_q hgd s x _ ho base 114 i0 z0 3 56 Try.underlying96 hi0 hz0 hz1 hz2 hz3 (by decide) A l.length c (flat lkC l) hs hmk.row ⟨g, 0, none⟩ 1 1 (lkC y) hx rfl ?_ (lk_one y) (by unfold maxLen; omega) hb hbase (by decide) ?_
  · intro j u hu
    rw [addr_add, Nat.zero_add]
    exact hyc j u hu
  · intro g' o' c' w' h1 h2 h3
    have ho : Only (fun b => blkS A b) w w' := ⟨h2.os, h2.tape, h2.output, h2.size, fun i hi hne => h2.block i hi (fun e => hne e.symm)⟩
    refine h _ c' w' (hmk.push hy hyA (by rw [show flat lkC (l ++ [y]) = flat lkC l ++ lkC y by simp [flat]]; exact h1) ho (fun b hb => ?_)) (ho.to_below (Below.refl _ _) hbase fun i hi => (blkS_lt hmk.row hi).1) ho
    simp [blkS] at hb
    subst hb
    rcases h3 with h3 | h3
    · exact .inl h3
    · exact .inr (by omega)

theorem wp_append_none {P : Program} {w : World} {o : Oper} {a : Act} {K : Act → World → Prop} {Q : Exit → Act → World → Prop} (s x : Operand) (t : TypeId)
    (ho : o.op = .call { callee := .builtin .append, args := #[s, x], argTypes := #[t, t] })
    (base : Nat) (e : TypeId) (i : TypeInfo) (size : Nat) (ht : P.underlying t = some (.slice e)) (hi : P.info? e = some i)
    (v : Value) (n : Nat) (xs : List Value) (hs : a.eval s = v) (hown : w.ownsRow base e size v n xs) (hx : a.eval x = .slice none 0 0)
    (h : K (a.put o.dst v) w) : Oper.wp P o a w K Q := by
  have hrun := run_append_owned_none (P := P) (w := w) base t o.type e i size ht hi v n xs hown
  unfold Oper.wp
  simp [execOp, ho, resolve, invoke, builtin, hs, hx, hrun, Result.andThen]
  exact h
/-- The numbers of a row appended to nil, in a region that draws its order. -/
theorem step_catnil {ops : Array Oper} {o : Oper} {a : Act} {w : World} {K : Act → World → Prop} {Q : Exit → Act → World → Prop} {E : Prop} (hgd : o.guard = none) (s x : Operand)
    (ho : o.op = .call { callee := .builtin .append, args := #[s, x], argTypes := #[56, 56] })
    (hs : a.eval s = .slice none 0 0) (A : Option Addr) (c : Nat) (xs : List Int) (hx : a.eval x = .slice A xs.length c) (S : Nat → Prop) (h0 : IIn w S 0 ⟨A, xs.length, c⟩ xs)
    (h : ∀ A' c' w', LineOwn w' w.heap.size ⟨A', xs.length, c'⟩ xs → Below w.heap.size w w' → K (a.put o.dst (.slice A' xs.length c')) w') :
    if Region.wanted o (yielded ops a.tmps) = true then Oper.wp Try.prog o a w K Q else E := by
  have hw : Region.wanted o (yielded ops a.tmps) = true := by simp [Region.wanted, hgd]
  rw [if_pos hw]
  obtain ⟨i0, hi0, hz0, hz1, hz2⟩ := info_parts int_info
  have hrng := h0.2.2.2.2.2.1
  have hbig := h0.2.2.2.2.2.2
  have hrow := h0.row
  have hcA := h0.2.2.2.2.1
  dsimp only at hrow hcA
  rcases A with _ | ad
  · obtain rfl := hcA rfl
    have hxs : xs = [] := by
      rcases xs with _ | ⟨x, r⟩
      · rfl
      · obtain ⟨b, o, h, _⟩ := hrow (Nat.zero_lt_succ _)
        cases h
    subst hxs
    exact wp_append_none s x 56 ho w.heap.size 3 i0 1 Try.underlying56 hi0 (.slice none 0 0) 0 [] hs (World.ownsRow_nil _ _ _ _) hx (h none 0 w ⟨rfl, OwnAt.nil, hrng, hbig⟩ (Below.refl _ _))
  · have hnews : ∀ j u, (ints xs)[j]? = some u → w.cell? (ad.add j) = some u := by
      intro j u hu
      have hj : j < (ints xs).length := (List.getElem?_eq_some_iff.1 hu).1
      obtain ⟨b, o, e, _, hc⟩ := hrow (by omega)
      obtain rfl := Option.some.inj e
      rw [addr_add]
      exact hc j u hu
    have hone : ∀ u ∈ ints xs, u.oneCell' = true := by
      intro u hu
      simp only [ints, List.mem_map] at hu
      obtain ⟨x, _, rfl⟩ := hu
      rfl
    refine wp_append_own w s x 56 ho w.heap.size 3 i0 (.int .i64 0) 1 8 Try.underlying56 hi0 hz0 hz1 hz2 rfl (by decide) _ 0 [] hs (World.ownsRow_nil _ _ _ _) ad xs.length c (ints xs) hx (by simp [ints]) hnews hone (by unfold maxLen; omega) (by omega) (Nat.le_refl _) ?_
    intro v' w' hown hg _
    rw [Nat.zero_add, List.nil_append] at hown
    obtain ⟨A', cap, rfl, ho2⟩ := OwnAt.of_own hown
    exact h A' cap w' ⟨rfl, ho2, hrng, hbig⟩ ((Below.refl _ _).grown hg (Nat.le_refl _) (fun k hk => by cases hk))

theorem cloneI (A : Option Addr) (c : Nat) (xs : List Int) (S : Nat → Prop) (w : World) (h : IIn w S 0 ⟨A, xs.length, c⟩ xs) :
    Calls Try.prog 128 #[.slice A xs.length c] w fun e w' => ∃ A' c', e = .returned (.slice A' xs.length c') ∧ LineOwn w' w.heap.size ⟨A', xs.length, c'⟩ xs ∧ Below w.heap.size w w' := by
  refine (clone_any A c xs _ w h.row h.2.2.2.2.1 (by have := h.2.2.2.2.2.2; omega)).mono ?_
  rintro e w' ⟨v, rfl, ho, hb⟩
  obtain ⟨A', cap, rfl, ho2⟩ := OwnAt.of_own ho
  exact ⟨A', cap, rfl, ⟨rfl, ho2, h.2.2.2.2.2.1, h.2.2.2.2.2.2⟩, hb⟩
theorem lk_pair1 {w4 w5 : World} {B : Nat} {r : Int} {y z : BC} {ws ls : List Int} (hB : B ≤ w4.heap.size) (hy : LineOwn w4 B y ws) (hz : LineOwn w5 w4.heap.size z ls) (hb : Below w4.heap.size w4 w5) : LkOwn w5 B ⟨r, y, z⟩ ⟨r, ws, ls⟩ :=
  ⟨rfl, hy.below hb, hz.lower hB, fun b h1 h2 => by have := (blkS_lt hy.own h1).2; have := (blkS_lt hz.own h2).1; omega⟩
theorem lk_pair2 {w4 w5 : World} {B : Nat} {r : Int} {y z : BC} {ws ls : List Int} (hB : B ≤ w4.heap.size) (hz : LineOwn w4 B z ls) (hy : LineOwn w5 w4.heap.size y ws) (hb : Below w4.heap.size w4 w5) : LkOwn w5 B ⟨r, y, z⟩ ⟨r, ws, ls⟩ :=
  ⟨rfl, hy.lower hB, hz.below hb, fun b h1 h2 => by have := (blkS_lt hz.own h2).2; have := (blkS_lt hy.own h1).1; omega⟩
end Go.Proofs.Ytgjimjpbogadjaa
