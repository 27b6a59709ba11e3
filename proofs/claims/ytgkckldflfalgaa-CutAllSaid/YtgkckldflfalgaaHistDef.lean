
/-
  Histories in plain Lean: whether they are right; what came ahead of what; counts of places, and numbers.
-/
import Derived.Lib.Hide
namespace Go.Proofs.Ytgkckldflfalgaa

/-- An event: place, kind, message. -/
abbrev Ev := Int × Int × Int
def evForm (x : Ev) : Prop := x.2.1 < 1 ∨ 3 < x.2.1
def evArg (x : Ev) : Prop := (x.1 < 0 ∨ 8 ≤ x.1) ∨ (x.2.1 ≠ 1 ∧ (x.2.2 < 0 ∨ 999 < x.2.2))
instance (x : Ev) : Decidable (evForm x) := by unfold evForm; infer_instance
instance (x : Ev) : Decidable (evArg x) := by unfold evArg; infer_instance
def evHas (l : List Ev) (k m : Int) : Bool := l.any fun y => y.2.1 == k && y.2.2 == m
def histF (pre : List Ev) : List Ev → Int
  | [] => 0
  | x :: xs => if evForm x then 3 else if evArg x then 1 else if x.2.1 = 2 ∧ evHas pre 2 x.2.2 = true then 5 else if x.2.1 = 3 ∧ evHas pre 2 x.2.2 = false then 4 else if x.2.1 = 3 ∧ evHas pre 3 x.2.2 = true then 5 else histF (pre ++ [x]) xs
def history (l : List Ev) : Int := if 200 < l.length then 2 else histF [] l
theorem evHas_snoc (l : List Ev) (x : Ev) (k m : Int) : evHas (l ++ [x]) k m = (evHas l k m || (x.2.1 == k && x.2.2 == m)) := by simp [evHas]

def evAt (l : List Ev) (i : Nat) : Ev := l.getD i (0, 0, 0)
/-- One step: x is ahead of e. -/
def dirB (x e : Ev) : Bool := x.1 == e.1 || (e.2.1 == 3 && x.2.1 == 2 && x.2.2 == e.2.2)
theorem dir_iff (x e : Ev) : dirB x e = true ↔ x.1 = e.1 ∨ (e.2.1 = 3 ∧ x.2.1 = 2 ∧ x.2.2 = e.2.2) := by
  simp [dirB, and_assoc]
/-- Bef l i j: event j is ahead of event i. -/
inductive Bef (l : List Ev) : Nat → Nat → Prop where
  | one {i k : Nat} : k < i → dirB (evAt l k) (evAt l i) = true → Bef l i k
  | more {i k j : Nat} : k < i → dirB (evAt l k) (evAt l i) = true → Bef l k j → Bef l i j

section
variable {l : List Ev}
theorem Bef.lt {i j : Nat} (h : Bef l i j) : j < i := by
  induction h with
  | one h _ => exact h
  | more h _ _ ih => omega
theorem Bef.trans {i k j : Nat} (h : Bef l i k) (h2 : Bef l k j) : Bef l i j := by
  induction h with
  | one h d => exact .more h d h2
  | more h d _ ih => exact .more h d (ih h2)
theorem bef_iff {i j : Nat} : Bef l i j ↔ ∃ k, k < i ∧ dirB (evAt l k) (evAt l i) = true ∧ (j = k ∨ Bef l k j) := by
  constructor
  · intro h
    cases h with
    | one h d => exact ⟨j, h, d, .inl rfl⟩
    | more h d h2 => exact ⟨_, h, d, .inr h2⟩
  · rintro ⟨k, h, d, rfl | h2⟩
    · exact .one h d
    · exact .more h d h2
/-- i, and what is ahead of it. -/
def Upto (l : List Ev) (i j : Nat) : Prop := j = i ∨ Bef l i j
def Lst (l : List Ev) (i : Nat) (p : Int) (j : Nat) : Prop := ∃ k, k < i ∧ (evAt l k).1 = p ∧ Upto l k j
def Snd (l : List Ev) (i : Nat) (m : Int) (j : Nat) : Prop := ∃ k, k < i ∧ (evAt l k).2.1 = 2 ∧ (evAt l k).2.2 = m ∧ Upto l k j
theorem Upto.le {i j : Nat} (h : Upto l i j) : j ≤ i := by
  rcases h with rfl | h
  · exact Nat.le_refl _
  · exact Nat.le_of_lt h.lt
theorem Lst.lt {i j : Nat} {p : Int} (h : Lst l i p j) : j < i := by
  obtain ⟨k, h1, _, h2⟩ := h
  have := h2.le
  omega
theorem Snd.lt {i j : Nat} {m : Int} (h : Snd l i m j) : j < i := by
  obtain ⟨k, h1, _, _, h2⟩ := h
  have := h2.le
  omega
theorem bef_parts {i j : Nat} : Bef l i j ↔ Lst l i (evAt l i).1 j ∨ ((evAt l i).2.1 = 3 ∧ Snd l i (evAt l i).2.2 j) := by
  rw [bef_iff]
  constructor
  · rintro ⟨k, h, d, hj⟩
    rcases (dir_iff _ _).1 d with hp | ⟨h3, h2, hm⟩
    · exact .inl ⟨k, h, hp, hj⟩
    · exact .inr ⟨h3, k, h, h2, hm, hj⟩
  · rintro (⟨k, h, hp, hj⟩ | ⟨h3, k, h, h2, hm, hj⟩)
    · exact ⟨k, h, (dir_iff _ _).2 (.inl hp), hj⟩
    · exact ⟨k, h, (dir_iff _ _).2 (.inr ⟨h3, h2, hm⟩), hj⟩
theorem lst_next {i j : Nat} {p : Int} : Lst l (i + 1) p j ↔ Lst l i p j ∨ ((evAt l i).1 = p ∧ Upto l i j) := by
  constructor
  · rintro ⟨k, h, hp, hj⟩
    by_cases e : k = i
    · subst e; exact .inr ⟨hp, hj⟩
    · exact .inl ⟨k, by omega, hp, hj⟩
  · rintro (⟨k, h, hp, hj⟩ | ⟨hp, hj⟩)
    · exact ⟨k, by omega, hp, hj⟩
    · exact ⟨i, by omega, hp, hj⟩
theorem lst_here {i j : Nat} : Lst l (i + 1) (evAt l i).1 j ↔ Upto l i j := by
  rw [lst_next]
  constructor
  · rintro (h | h)
    · exact .inr (bef_parts.2 (.inl h))
    · exact h.2
  · exact fun h => .inr ⟨rfl, h⟩
theorem lst_other {i j : Nat} {p : Int} (hp : (evAt l i).1 ≠ p) : Lst l (i + 1) p j ↔ Lst l i p j := by
  rw [lst_next]
  exact ⟨fun h => h.elim id fun h => absurd h.1 hp, .inl⟩
theorem snd_next {i j : Nat} {m : Int} : Snd l (i + 1) m j ↔ Snd l i m j ∨ ((evAt l i).2.1 = 2 ∧ (evAt l i).2.2 = m ∧ Upto l i j) := by
  constructor
  · rintro ⟨k, h, h2, hm, hj⟩
    by_cases e : k = i
    · subst e; exact .inr ⟨h2, hm, hj⟩
    · exact .inl ⟨k, by omega, h2, hm, hj⟩
  · rintro (⟨k, h, h2, hm, hj⟩ | ⟨h2, hm, hj⟩)
    · exact ⟨k, by omega, h2, hm, hj⟩
    · exact ⟨i, by omega, h2, hm, hj⟩
theorem snd_here {i j : Nat} (h2 : (evAt l i).2.1 = 2) (hno : ∀ k, k < i → ¬ ((evAt l k).2.1 = 2 ∧ (evAt l k).2.2 = (evAt l i).2.2)) : Snd l (i + 1) (evAt l i).2.2 j ↔ Upto l i j := by
  rw [snd_next]
  constructor
  · rintro (⟨k, h, h2, hm, _⟩ | h)
    · exact absurd ⟨h2, hm⟩ (hno k h)
    · exact h.2.2
  · exact fun h => .inr ⟨h2, rfl, h⟩
theorem snd_other {i j : Nat} {m : Int} (h : ¬ ((evAt l i).2.1 = 2 ∧ (evAt l i).2.2 = m)) : Snd l (i + 1) m j ↔ Snd l i m j := by
  rw [snd_next]
  exact ⟨fun h1 => h1.elim id fun h1 => absurd ⟨h1.1, h1.2.1⟩ h, .inl⟩

open Classical in
/-- How many of place q there are in S, among the first n. -/
noncomputable def cnt (l : List Ev) (S : Nat → Prop) (q : Int) : Nat → Nat
  | 0 => 0
  | n + 1 => cnt l S q n + if (evAt l n).1 = q ∧ S n then 1 else 0
variable {S T : Nat → Prop} {q : Int} {n : Nat}
open Classical in
theorem cnt_succ : cnt l S q (n + 1) = cnt l S q n + if (evAt l n).1 = q ∧ S n then 1 else 0 := rfl
theorem cnt_le : cnt l S q n ≤ n := by
  induction n with
  | zero => exact Nat.le_refl _
  | succ n ih => unfold cnt; split <;> omega
theorem cnt_mono (h : ∀ j, j < n → (evAt l j).1 = q → S j → T j) : cnt l S q n ≤ cnt l T q n := by
  induction n with
  | zero => exact Nat.le_refl _
  | succ n ih =>
    have := ih fun j hj => h j (by omega)
    unfold cnt
    split
    · rename_i hc
      rw [if_pos ⟨hc.1, h n (by omega) hc.1 hc.2⟩]
      omega
    · omega
theorem cnt_congr (h : ∀ j, j < n → (evAt l j).1 = q → (S j ↔ T j)) : cnt l S q n = cnt l T q n :=
  Nat.le_antisymm (cnt_mono fun j hj hq => (h j hj hq).1) (cnt_mono fun j hj hq => (h j hj hq).2)
theorem cnt_lt (h : ∀ j, j < n → (evAt l j).1 = q → S j → T j) {j : Nat} (hj : j < n) (hq : (evAt l j).1 = q) (ht : T j) (hs : ¬ S j) : cnt l S q n < cnt l T q n := by
  induction n with
  | zero => omega
  | succ n ih =>
    unfold cnt
    by_cases e : j = n
    · subst e
      have := cnt_mono (n := j) (S := S) (T := T) (q := q) (l := l) fun i hi => h i (by omega)
      rw [if_neg (fun hc => hs hc.2), if_pos ⟨hq, ht⟩]
      omega
    · have := ih (fun i hi => h i (by omega)) (by omega)
      split
      · rename_i hc
        rw [if_pos ⟨hc.1, h n (by omega) hc.1 hc.2⟩]
        omega
      · omega
theorem cnt_none (h : ∀ j, j < n → ¬ S j) : cnt l S q n = 0 := by
  induction n with
  | zero => rfl
  | succ n ih =>
    unfold cnt
    rw [ih fun j hj => h j (by omega), if_neg (fun hc => h n (by omega) hc.2)]
theorem cnt_more {m : Nat} (h : ∀ j, n ≤ j → ¬ S j) (hm : n ≤ m) : cnt l S q m = cnt l S q n := by
  induction m with
  | zero => rw [show n = 0 by omega]
  | succ m ih =>
    by_cases e : n = m + 1
    · rw [e]
    · conv => lhs; unfold cnt
      rw [ih (by omega), if_neg (fun hc => h m (by omega) hc.2), Nat.add_zero]
theorem cnt_one {i : Nat} (hi : i < n) (hs : ¬ S i) : cnt l (fun j => j = i ∨ S j) q n = cnt l S q n + if (evAt l i).1 = q then 1 else 0 := by
  induction n with
  | zero => omega
  | succ n ih =>
    rw [cnt_succ, cnt_succ]
    by_cases e : i = n
    · subst e
      have h0 : cnt l (fun j => j = i ∨ S j) q i = cnt l S q i := cnt_congr fun j hj _ => ⟨fun h => h.elim (fun e => by omega) id, .inr⟩
      rw [h0]
      by_cases hq : (evAt l i).1 = q
      · rw [if_pos ⟨hq, .inl rfl⟩, if_neg (fun hc => hs hc.2), if_pos hq]
      · rw [if_neg (fun hc => hq hc.1), if_neg (fun hc => hq hc.1), if_neg hq]
    · rw [ih (by omega)]
      by_cases hc : (evAt l n).1 = q ∧ S n
      · have h2 : (evAt l n).1 = q ∧ (n = i ∨ S n) := ⟨hc.1, .inr hc.2⟩
        rw [if_pos hc, if_pos h2]
        omega
      · have h2 : ¬ ((evAt l n).1 = q ∧ (n = i ∨ S n)) := fun h => hc ⟨h.1, h.2.elim (fun e2 => by omega) id⟩
        rw [if_neg hc, if_neg h2]
        omega

/-- Of place q, S has a beginning. -/
def Pre (l : List Ev) (S : Nat → Prop) (q : Int) : Prop := ∀ j j', j' < j → (evAt l j).1 = q → (evAt l j').1 = q → S j → S j'
theorem pre_upto (i : Nat) (q : Int) : Pre l (Upto l i) q := by
  intro j j' hj hq hq' h
  have hb : Bef l j j' := .one hj ((dir_iff _ _).2 (.inl (by rw [hq, hq'])))
  rcases h with rfl | h
  · exact .inr hb
  · exact .inr (h.trans hb)
theorem pre_lst (i : Nat) (p q : Int) : Pre l (Lst l i p) q := by
  rintro j j' hj hq hq' ⟨k, h1, h2, h3⟩
  exact ⟨k, h1, h2, pre_upto k q j j' hj hq hq' h3⟩
theorem pre_snd (i : Nat) (m q : Int) : Pre l (Snd l i m) q := by
  rintro j j' hj hq hq' ⟨k, h1, h2, h4, h3⟩
  exact ⟨k, h1, h2, h4, pre_upto k q j j' hj hq hq' h3⟩
theorem pre_or (hs : Pre l S q) (ht : Pre l T q) : Pre l (fun j => S j ∨ T j) q := fun j j' hj hq hq' h => h.imp (hs j j' hj hq hq') (ht j j' hj hq hq')
theorem pre_total (hs : Pre l S q) (ht : Pre l T q) : (∀ j, (evAt l j).1 = q → S j → T j) ∨ (∀ j, (evAt l j).1 = q → T j → S j) := by
  by_cases h : ∀ j, (evAt l j).1 = q → S j → T j
  · exact .inl h
  · right
    simp only [Classical.not_forall] at h
    obtain ⟨j, hq, hj, hn⟩ := h
    intro j' hq' hj'
    rcases Nat.lt_trichotomy j' j with h1 | h1 | h1
    · exact hs j j' h1 hq hq' hj
    · subst h1; exact absurd hj' hn
    · exact absurd (ht j' j h1 hq' hq hj') hn
theorem cnt_or (hs : Pre l S q) (ht : Pre l T q) : cnt l (fun j => S j ∨ T j) q n = max (cnt l S q n) (cnt l T q n) := by
  rcases pre_total hs ht with h | h
  · rw [Nat.max_eq_right (cnt_mono fun j _ => h j)]
    exact cnt_congr fun j _ hq => ⟨fun h1 => h1.elim (h j hq) id, .inr⟩
  · rw [Nat.max_eq_left (cnt_mono fun j _ => h j)]
    exact cnt_congr fun j _ hq => ⟨fun h1 => h1.elim id (h j hq), .inl⟩
theorem sub_of_cnt (hs : Pre l S q) (ht : Pre l T q) (h : cnt l S q n ≤ cnt l T q n) : ∀ j, j < n → (evAt l j).1 = q → S j → T j := by
  intro j hj hq hS
  apply Classical.byContradiction
  intro hT
  rcases pre_total hs ht with h1 | h1
  · exact hT (h1 j hq hS)
  · have := cnt_lt (fun i _ => h1 i) hj hq hS hT
    omega

/-- The events up to i, of place q. -/
theorem cnt_upto {i : Nat} (hi : i < n) : cnt l (Upto l i) q n = max (cnt l (Lst l i (evAt l i).1) q n) (if (evAt l i).2.1 = 3 then cnt l (Snd l i (evAt l i).2.2) q n else 0) + if (evAt l i).1 = q then 1 else 0 := by
  have h1 : cnt l (Upto l i) q n = cnt l (Bef l i) q n + if (evAt l i).1 = q then 1 else 0 := cnt_one hi (fun h => absurd h.lt (Nat.lt_irrefl _))
  rw [h1]
  congr 1
  by_cases h3 : (evAt l i).2.1 = 3
  · rw [if_pos h3, ← cnt_or (pre_lst _ _ _) (pre_snd _ _ _)]
    exact cnt_congr fun j _ _ => by rw [bef_parts]; simp [h3]
  · rw [if_neg h3, Nat.max_eq_left (Nat.zero_le _)]
    exact cnt_congr fun j _ _ => by rw [bef_parts]; simp [h3]
/-- One clock is less than another one just if the event is ahead. -/
theorem less_upto {i k : Nat} {q0 : Int} (hi : i < n) (hq : (evAt l i).1 = q0) (hlt : cnt l (Upto l i) q0 n ≤ cnt l (Upto l k) q0 n) : Upto l k i :=
  sub_of_cnt (pre_upto i q0) (pre_upto k q0) hlt i hi hq (.inl rfl)
theorem upto_sub {i k : Nat} (h : Upto l k i) : ∀ j, Upto l i j → Upto l k j := fun j hj => by
  rcases h with rfl | h
  · exact hj
  · rcases hj with rfl | hj
    · exact .inr h
    · exact .inr (h.trans hj)

open Classical in
/-- The greatest number of S's, among the first n; 0 if there is none. -/
noncomputable def mx (f : Nat → Nat) (S : Nat → Prop) : Nat → Nat
  | 0 => 0
  | n + 1 => max (mx f S n) (if S n then f n else 0)
theorem mx_congr {f g : Nat → Nat} (h : ∀ j, j < n → (S j ↔ T j)) (hf : ∀ j, j < n → S j → f j = g j) : mx f S n = mx g T n := by
  induction n with
  | zero => rfl
  | succ n ih =>
    unfold mx
    rw [ih (fun j hj => h j (by omega)) (fun j hj => hf j (by omega))]
    by_cases hs : S n
    · rw [if_pos hs, if_pos ((h n (by omega)).1 hs), hf n (by omega) hs]
    · rw [if_neg hs, if_neg (fun ht => hs ((h n (by omega)).2 ht))]
theorem mx_or {f : Nat → Nat} : mx f (fun j => S j ∨ T j) n = max (mx f S n) (mx f T n) := by
  induction n with
  | zero => rfl
  | succ n ih =>
    unfold mx
    rw [ih]
    by_cases hs : S n <;> by_cases ht : T n <;> simp [hs, ht] <;> omega
theorem mx_more {f : Nat → Nat} {m : Nat} (h : ∀ j, n ≤ j → ¬ S j) (hm : n ≤ m) : mx f S m = mx f S n := by
  induction m with
  | zero => rw [show n = 0 by omega]
  | succ m ih =>
    by_cases e : n = m + 1
    · rw [e]
    · conv => lhs; unfold mx
      rw [ih (by omega), if_neg (fun hc => h m (by omega) hc)]
      omega
theorem mx_none {f : Nat → Nat} (h : ∀ j, j < n → ¬ S j) : mx f S n = 0 := by
  induction n with
  | zero => rfl
  | succ n ih =>
    unfold mx
    rw [ih fun j hj => h j (by omega), if_neg (h n (by omega))]
    rfl
theorem mx_le {f : Nat → Nat} {j : Nat} (hj : j < n) (hs : S j) : f j ≤ mx f S n := by
  induction n with
  | zero => omega
  | succ n ih =>
    unfold mx
    by_cases e : j = n
    · subst e; rw [if_pos hs]; omega
    · have := ih (by omega); omega

open Classical in
theorem mx_succ {f : Nat → Nat} : mx f S (n + 1) = max (mx f S n) (if S n then f n else 0) := rfl
theorem mx_bound {f : Nat → Nat} {B : Nat} (h : ∀ j, j < n → f j ≤ B) : mx f S n ≤ B := by
  induction n with
  | zero => exact Nat.zero_le _
  | succ n ih =>
    have h1 := ih fun j hj => h j (by omega)
    have h2 := h n (by omega)
    rw [mx_succ]
    split <;> omega
noncomputable def numF (l : List Ev) : Nat → Nat → Nat
  | 0, _ => 0
  | n + 1, i => 1 + mx (numF l n) (Bef l i) i
theorem numF_any : ∀ (n m i : Nat), i < n → i < m → numF l n i = numF l m i := by
  intro n
  induction n with
  | zero => intro m i h; omega
  | succ n ih =>
    intro m i hn hm
    cases m with
    | zero => omega
    | succ m =>
      show 1 + mx (numF l n) (Bef l i) i = 1 + mx (numF l m) (Bef l i) i
      rw [mx_congr (fun j _ => Iff.rfl) (fun j hj _ => ih m j (by omega) (by omega))]
/-- How long a row there is that leads to i. -/
noncomputable def num (l : List Ev) (i : Nat) : Nat := numF l (i + 1) i
theorem num_eq (i : Nat) : num l i = 1 + mx (num l) (Bef l i) i := by
  show 1 + mx (numF l i) (Bef l i) i = _
  rw [mx_congr (fun j _ => Iff.rfl) (fun j hj _ => numF_any i (j + 1) j hj (by omega))]
  rfl
theorem num_le (i : Nat) : num l i ≤ i + 1 := by
  induction i using Nat.strongRecOn with
  | ind i ih =>
    rw [num_eq]
    have : ∀ n, n ≤ i → mx (num l) (Bef l i) n ≤ i := by
      intro n
      induction n with
      | zero => intro _; exact Nat.zero_le _
      | succ n ihn =>
        intro hn
        unfold mx
        have h1 := ihn (by omega)
        have h2 := ih n (by omega)
        split <;> omega
    have := this i (Nat.le_refl _)
    omega
theorem num_step {i : Nat} (hi : i ≤ n) : num l i = max (mx (num l) (Lst l i (evAt l i).1) n) (if (evAt l i).2.1 = 3 then mx (num l) (Snd l i (evAt l i).2.2) n else 0) + 1 := by
  rw [num_eq, Nat.add_comm]
  congr 1
  rw [← mx_more (m := n) (fun j hj h => absurd h.lt (by omega)) hi]
  by_cases h3 : (evAt l i).2.1 = 3
  · rw [if_pos h3, ← mx_or]
    exact mx_congr (fun j _ => by rw [bef_parts]; simp [h3]) (fun _ _ _ => rfl)
  · rw [if_neg h3, Nat.max_eq_left (Nat.zero_le _)]
    exact mx_congr (fun j _ => by rw [bef_parts]; simp [h3]) (fun _ _ _ => rfl)
theorem mx_upto {i : Nat} (hi : i < n) : mx (num l) (Upto l i) n = num l i := by
  have h1 : mx (num l) (Upto l i) n = max (mx (num l) (fun j => j = i) n) (mx (num l) (Bef l i) n) := mx_or
  have h2 : mx (num l) (fun j => j = i) n = num l i := by
    rw [mx_more (n := i + 1) (fun j hj h => by omega) (by omega)]
    unfold mx
    rw [mx_none (fun j hj h => by omega), if_pos rfl]
    omega
  have h3 : mx (num l) (Bef l i) n = mx (num l) (Bef l i) i := mx_more (fun j hj h => absurd h.lt (by omega)) (by omega)
  have h4 := num_eq (l := l) i
  rw [h1, h2, h3]
  omega
end

/-- What a right history's event i is like. -/
structure Good1 (l : List Ev) (i : Nat) : Prop where
  kind : 1 ≤ (evAt l i).2.1 ∧ (evAt l i).2.1 ≤ 3
  place : 0 ≤ (evAt l i).1 ∧ (evAt l i).1 < 8
  msg : (evAt l i).2.1 ≠ 1 → 0 ≤ (evAt l i).2.2 ∧ (evAt l i).2.2 ≤ 999
  uniq : (evAt l i).2.1 = 2 → ∀ k, k < i → ¬ ((evAt l k).2.1 = 2 ∧ (evAt l k).2.2 = (evAt l i).2.2)
  sent : (evAt l i).2.1 = 3 → ∃ k, k < i ∧ (evAt l k).2.1 = 2 ∧ (evAt l k).2.2 = (evAt l i).2.2
  once : (evAt l i).2.1 = 3 → ∀ k, k < i → ¬ ((evAt l k).2.1 = 3 ∧ (evAt l k).2.2 = (evAt l i).2.2)
theorem has_iff (pre l : List Ev) (k m : Int) : evHas pre k m = true ↔ ∃ j, j < pre.length ∧ (evAt (pre ++ l) j).2.1 = k ∧ (evAt (pre ++ l) j).2.2 = m := by
  unfold evHas
  rw [List.any_eq_true]
  constructor
  · rintro ⟨x, hx, hc⟩
    obtain ⟨j, hj, rfl⟩ := List.getElem_of_mem hx
    simp only [Bool.and_eq_true, beq_iff_eq] at hc
    refine ⟨j, hj, ?_⟩
    have : evAt (pre ++ l) j = pre[j] := by simp [evAt, List.getD_eq_getElem?_getD, List.getElem?_append_left hj, List.getElem?_eq_getElem hj]
    rw [this]
    exact hc
  · rintro ⟨j, hj, h1, h2⟩
    have : evAt (pre ++ l) j = pre[j] := by simp [evAt, List.getD_eq_getElem?_getD, List.getElem?_append_left hj, List.getElem?_eq_getElem hj]
    rw [this] at h1 h2
    exact ⟨pre[j], List.getElem_mem hj, by simp [h1, h2]⟩
theorem histF_good : ∀ (xs pre : List Ev), histF pre xs = 0 → ∀ i, i < xs.length → Good1 (pre ++ xs) (pre.length + i) := by
  intro xs
  induction xs with
  | nil => intro pre _ i hi; simp at hi
  | cons x xs ih =>
    intro pre h i hi
    unfold histF at h
    by_cases c1 : evForm x
    · rw [if_pos c1] at h; omega
    rw [if_neg c1] at h
    by_cases c2 : evArg x
    · rw [if_pos c2] at h; omega
    rw [if_neg c2] at h
    by_cases c3 : x.2.1 = 2 ∧ evHas pre 2 x.2.2 = true
    · rw [if_pos c3] at h; omega
    rw [if_neg c3] at h
    by_cases c4 : x.2.1 = 3 ∧ evHas pre 2 x.2.2 = false
    · rw [if_pos c4] at h; omega
    rw [if_neg c4] at h
    by_cases c5 : x.2.1 = 3 ∧ evHas pre 3 x.2.2 = true
    · rw [if_pos c5] at h; omega
    rw [if_neg c5] at h
    cases i with
    | zero =>
      have e : evAt (pre ++ x :: xs) (pre.length + 0) = x := by simp [evAt, List.getD_eq_getElem?_getD]
      unfold evForm at c1
      unfold evArg at c2
      refine ⟨by rw [e]; omega, by rw [e]; omega, by rw [e]; intro; omega, ?_, ?_, ?_⟩
      · rw [e]
        intro h2 k hk hc
        exact c3 ⟨h2, (has_iff pre (x :: xs) 2 x.2.2).2 ⟨k, by omega, hc⟩⟩
      · rw [e]
        intro h3
        have : evHas pre 2 x.2.2 = true := by
          cases hh : evHas pre 2 x.2.2 with
          | true => rfl
          | false => exact absurd ⟨h3, hh⟩ c4
        obtain ⟨j, hj, hc⟩ := (has_iff pre (x :: xs) 2 x.2.2).1 this
        exact ⟨j, by omega, hc⟩
      · rw [e]
        intro h3 k hk hc
        exact c5 ⟨h3, (has_iff pre (x :: xs) 3 x.2.2).2 ⟨k, by omega, hc⟩⟩
    | succ i =>
      have := ih (pre ++ [x]) h i (by simpa using hi)
      rw [List.append_assoc, List.singleton_append, List.length_append, List.length_singleton, Nat.add_assoc, Nat.add_comm 1 i] at this
      exact this
theorem hist_good {l : List Ev} (h : history l = 0) : l.length ≤ 200 ∧ ∀ i, i < l.length → Good1 l i := by
  unfold history at h
  by_cases c : 200 < l.length
  · rw [if_pos c] at h; omega
  · rw [if_neg c] at h
    refine ⟨by omega, fun i hi => ?_⟩
    have := histF_good l [] h i hi
    simpa using this
end Go.Proofs.Ytgkckldflfalgaa
