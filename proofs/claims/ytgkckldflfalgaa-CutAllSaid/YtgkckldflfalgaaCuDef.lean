
/-
  CutAll: cuts of a history, in plain Lean: those that are whole are as many as the sets of events that hold what came ahead.
-/
import Derived.Test.YtgkckldflfalgaaEv3
namespace Go.Proofs.Ytgkckldflfalgaa

/-! ### events by place -/
def plF (l : List Ev) (p : Int) : List Ev := l.filter fun x => x.1 == p
def rkF (l : List Ev) (i : Nat) : Nat := (plF (l.take i) (evAt l i).1).length
theorem evAt_get {l : List Ev} {i : Nat} (hi : i < l.length) : l[i]? = some (evAt l i) := by
  unfold evAt
  rw [List.getD_eq_getElem?_getD, List.getElem?_eq_getElem hi]
  rfl
theorem pl_succ {l : List Ev} {i : Nat} (hi : i < l.length) (p : Int) : plF (l.take (i + 1)) p = plF (l.take i) p ++ if (evAt l i).1 = p then [evAt l i] else [] := by
  unfold plF
  rw [List.take_add_one, evAt_get hi, List.filter_append]
  congr 1
  by_cases h : (evAt l i).1 = p
  · simp [h]
  · simp [h]
theorem pl_mono {l : List Ev} {i j : Nat} (h : i ≤ j) (p : Int) : (plF (l.take i) p).length ≤ (plF (l.take j) p).length := by
  have e : l.take i = (l.take j).take i := by rw [List.take_take, Nat.min_eq_left h]
  rw [e]
  exact ((List.take_sublist i (l.take j)).filter _).length_le
theorem pl_here {l : List Ev} {i : Nat} (hi : i < l.length) : (plF (l.take (i + 1)) (evAt l i).1).length = rkF l i + 1 := by
  rw [pl_succ hi, if_pos rfl, List.length_append]
  rfl
theorem rk_lt {l : List Ev} {i : Nat} (hi : i < l.length) : rkF l i < (plF l (evAt l i).1).length := by
  have h := pl_mono (l := l) (show i + 1 ≤ l.length by omega) (evAt l i).1
  rw [pl_here hi, List.take_length] at h
  omega
theorem rk_mono {l : List Ev} {i j : Nat} (hj : j < l.length) (h : i < j) (hp : (evAt l i).1 = (evAt l j).1) : rkF l i < rkF l j := by
  have h1 := pl_mono (l := l) (show i + 1 ≤ j by omega) (evAt l i).1
  rw [pl_here (by omega)] at h1
  unfold rkF at *
  rw [hp] at h1 ⊢
  omega
theorem rk_inj {l : List Ev} {i j : Nat} (hi : i < l.length) (hj : j < l.length) (hp : (evAt l i).1 = (evAt l j).1) (h : rkF l i = rkF l j) : i = j := by
  rcases Nat.lt_trichotomy i j with h1 | h1 | h1
  · have := rk_mono hj h1 hp; omega
  · exact h1
  · have := rk_mono hi h1 hp.symm; omega
theorem pl_at {l : List Ev} {i : Nat} (hi : i < l.length) : (plF l (evAt l i).1)[rkF l i]? = some (evAt l i) := by
  have e2 : plF (l.take (i + 1) ++ l.drop (i + 1)) (evAt l i).1 = (plF (l.take i) (evAt l i).1 ++ [evAt l i]) ++ plF (l.drop (i + 1)) (evAt l i).1 := by
    unfold plF
    rw [List.filter_append]
    congr 1
    have := pl_succ hi (evAt l i).1
    rw [if_pos rfl] at this
    exact this
  rw [List.take_append_drop] at e2
  rw [e2, List.getElem?_append_left (by rw [List.length_append, List.length_singleton]; unfold rkF; omega), List.getElem?_append_right (by unfold rkF; omega)]
  have : rkF l i - (plF (l.take i) (evAt l i).1).length = 0 := by unfold rkF; omega
  rw [this]
  rfl
theorem pl_from {l : List Ev} {p : Int} : ∀ (m : Nat), m ≤ l.length → ∀ t, t < (plF (l.take m) p).length → ∃ i, i < m ∧ (evAt l i).1 = p ∧ rkF l i = t
  | 0, _, t, h => by simp [plF] at h
  | m + 1, hm, t, h => by
    by_cases h1 : t < (plF (l.take m) p).length
    · obtain ⟨i, h2, h3⟩ := pl_from m (by omega) t h1
      exact ⟨i, by omega, h3⟩
    · rw [pl_succ (by omega)] at h
      by_cases hp : (evAt l m).1 = p
      · rw [if_pos hp, List.length_append, List.length_singleton] at h
        exact ⟨m, by omega, hp, by unfold rkF; rw [hp]; omega⟩
      · rw [if_neg hp, List.append_nil] at h
        omega

/-! ### cuts -/
def cval (c : List Int) (p : Int) : Int := c.getD p.toNat 0
def InC (l : List Ev) (c : List Int) (i : Nat) : Prop := (rkF l i : Int) < cval c (evAt l i).1
instance (l : List Ev) (c : List Int) (i : Nat) : Decidable (InC l c i) := by unfold InC; infer_instance
structure Con (l : List Ev) (c : List Int) : Prop where
  len : c.length = 8
  lo : ∀ p : Nat, p < 8 → 0 ≤ c.getD p 0 ∧ c.getD p 0 ≤ ((plF l (p : Int)).length : Int)
  sent : ∀ i k, k < i → i < l.length → (evAt l i).2.1 = 3 → (evAt l k).2.1 = 2 → (evAt l k).2.2 = (evAt l i).2.2 → InC l c i → InC l c k
def cut0 : List Int := List.replicate 8 0
def upC (c : List Int) (p : Nat) : List Int := c.set p (c.getD p 0 + 1)
def sndF (l : List Ev) : Nat → Int → Option (Int × Nat)
  | 0, _ => none
  | j + 1, m => if (evAt l j).2.1 = 2 ∧ (evAt l j).2.2 = m then some ((evAt l j).1, rkF l j) else sndF l j m
def hasC (c : List Int) (s : Int × Nat) : Bool := decide ((s.2 : Int) < cval c s.1)
/-- May the cut grow by one event of place p? -/
def okC (l : List Ev) (c : List Int) (p : Nat) : Bool :=
  match (plF l (p : Int))[(c.getD p 0).toNat]? with
  | none => false
  | some x => !(x.2.1 == 3 && !hasC c ((sndF l l.length x.2.2).getD (0, 0)))
theorem cut0_at (p : Nat) : cut0.getD p 0 = 0 := by
  simp only [cut0, List.getD_eq_getElem?_getD, List.getElem?_replicate]
  split <;> rfl
theorem con0 (l : List Ev) : Con l cut0 where
  len := by simp [cut0]
  lo := fun p hp => by
    rw [cut0_at]
    omega
  sent := fun i k _ _ _ _ _ h => by
    unfold InC cval at h
    rw [cut0_at] at h
    omega
theorem getD_set (c : List Int) (p q : Nat) (v : Int) (hp : p < c.length) : (c.set p v).getD q 0 = if q = p then v else c.getD q 0 := by
  simp only [List.getD_eq_getElem?_getD, List.getElem?_set]
  by_cases h : p = q
  · subst h; simp [hp]
  · rw [if_neg h, if_neg (fun e => h e.symm)]
/-- All events lie at places 0 to 7, and the messages are as they should. -/
structure HGood (l : List Ev) : Prop where
  pl : ∀ i, i < l.length → 0 ≤ (evAt l i).1 ∧ (evAt l i).1 < 8
  uniq : ∀ i, i < l.length → (evAt l i).2.1 = 2 → ∀ k, k < i → ¬ ((evAt l k).2.1 = 2 ∧ (evAt l k).2.2 = (evAt l i).2.2)
  sent : ∀ i, i < l.length → (evAt l i).2.1 = 3 → ∃ k, k < i ∧ (evAt l k).2.1 = 2 ∧ (evAt l k).2.2 = (evAt l i).2.2
theorem snd_at {l : List Ev} (h : HGood l) {k : Nat} (h2 : (evAt l k).2.1 = 2) : ∀ j, k < j → j ≤ l.length → sndF l j (evAt l k).2.2 = some ((evAt l k).1, rkF l k)
  | j + 1, hj, hl => by
    unfold sndF
    by_cases e : j = k
    · subst e
      rw [if_pos ⟨h2, rfl⟩]
    · rw [if_neg (fun hc => h.uniq j (by omega) hc.1 k (by omega) ⟨h2, hc.2.symm⟩)]
      exact snd_at h h2 j (by omega) (by omega)
section
variable {l : List Ev} {c : List Int}
theorem in_set (h : HGood l) (hl : c.length = 8) {p : Nat} (hp : p < 8) (v : Int) {i : Nat} (hi : i < l.length) : InC l (c.set p v) i ↔ (rkF l i : Int) < if (evAt l i).1 = (p : Int) then v else cval c (evAt l i).1 := by
  unfold InC cval
  rw [getD_set c p _ v (by omega)]
  have h1 := h.pl i hi
  by_cases e : (evAt l i).1 = (p : Int)
  · rw [if_pos (by omega), if_pos e]
  · rw [if_neg (by omega), if_neg e]
theorem ok_next (h : HGood l) (hc : Con l c) {p : Nat} (hp : p < 8) (ho : okC l c p = true) : ∃ i, i < l.length ∧ (evAt l i).1 = (p : Int) ∧ (rkF l i : Int) = c.getD p 0 ∧ ((evAt l i).2.1 = 3 → ∀ k, k < i → (evAt l k).2.1 = 2 → (evAt l k).2.2 = (evAt l i).2.2 → InC l c k) := by
  have hlo := hc.lo p hp
  unfold okC at ho
  cases hx : (plF l (p : Int))[(c.getD p 0).toNat]? with
  | none => rw [hx] at ho; cases ho
  | some x =>
    have hlt := (List.getElem?_eq_some_iff.1 hx).1
    obtain ⟨i, hi, hpi, hrk⟩ := pl_from (p := (p : Int)) l.length (Nat.le_refl _) (c.getD p 0).toNat (by rw [List.take_length]; exact hlt)
    have e := pl_at hi
    rw [hpi, hrk, hx] at e
    injection e with e
    subst e
    refine ⟨i, hi, hpi, by omega, fun h3 k hk h2 hm => ?_⟩
    rw [hx] at ho
    dsimp only at ho
    rw [← hm, snd_at h h2 l.length (by omega) (Nat.le_refl _), h3] at ho
    simp [hasC] at ho
    exact ho
theorem con_up (h : HGood l) (hc : Con l c) {p : Nat} (hp : p < 8) (ho : okC l c p = true) : Con l (upC c p) := by
  obtain ⟨i, hi, hpi, hrk, hs⟩ := ok_next h hc hp ho
  have hl := hc.len
  have hin : ∀ j, j < l.length → (InC l (upC c p) j ↔ InC l c j ∨ j = i) := fun j hj => by
    unfold upC
    rw [in_set h hl hp _ hj]
    unfold InC
    by_cases e : (evAt l j).1 = (p : Int)
    · rw [if_pos e, e]
      have ec : cval c (p : Int) = c.getD p 0 := by unfold cval; rw [Int.toNat_natCast]
      rw [ec]
      constructor
      · intro h1
        by_cases h2 : (rkF l j : Int) < c.getD p 0
        · exact .inl h2
        · exact .inr (rk_inj hj hi (by rw [e, hpi]) (by omega))
      · rintro (h1 | rfl)
        · omega
        · omega
    · rw [if_neg e]
      constructor
      · exact .inl
      · rintro (h1 | rfl)
        · exact h1
        · exact absurd hpi e
  refine ⟨by unfold upC; rw [List.length_set, hl], fun q hq => ?_, fun j k hk hj h3 h2 hm hjc => ?_⟩
  · unfold upC
    rw [getD_set c p q _ (by omega)]
    by_cases e : q = p
    · subst e
      rw [if_pos rfl]
      have h1 := hc.lo q hq
      have h2 := rk_lt hi
      rw [hpi] at h2
      omega
    · rw [if_neg e]
      exact hc.lo q hq
  · rw [hin k (by omega)]
    rcases (hin j hj).1 hjc with h1 | rfl
    · exact .inl (hc.sent j k hk hj h3 h2 hm h1)
    · exact .inl (hs h3 k hk h2 hm)
/-- A whole cut with event b, none behind it: one less is whole, and may grow by it. -/
theorem con_down (h : HGood l) (hc : Con l c) {b : Nat} (hb : b < l.length) (hin : InC l c b) (hmax : ∀ i, i < l.length → InC l c i → i ≤ b) :
    ∃ c' : List Int, ∃ p : Nat, p < 8 ∧ Con l c' ∧ okC l c' p = true ∧ upC c' p = c ∧ ∀ i, i < l.length → InC l c' i → i < b := by
  obtain ⟨p, hp⟩ : ∃ p : Nat, (evAt l b).1 = (p : Int) := ⟨(evAt l b).1.toNat, by have := h.pl b hb; omega⟩
  have hp8 : p < 8 := by have := h.pl b hb; omega
  have hl := hc.len
  have hlo := hc.lo p hp8
  have ec : cval c (p : Int) = c.getD p 0 := by unfold cval; rw [Int.toNat_natCast]
  have hrb : (rkF l b : Int) < c.getD p 0 := by unfold InC at hin; rw [hp, ec] at hin; exact hin
  have hrk : (rkF l b : Int) = c.getD p 0 - 1 := by
    obtain ⟨i, hi, hpi, hri⟩ := pl_from (p := (p : Int)) l.length (Nat.le_refl _) (c.getD p 0 - 1).toNat (by rw [List.take_length]; omega)
    have hic : InC l c i := by unfold InC; rw [hpi, ec, hri]; omega
    have h1 := hmax i hi hic
    rcases Nat.lt_or_ge i b with h2 | h2
    · have := rk_mono hb h2 (by rw [hpi, hp]); omega
    · obtain rfl : i = b := by omega
      omega
  have hin' : ∀ j, j < l.length → (InC l (c.set p (c.getD p 0 - 1)) j ↔ InC l c j ∧ j ≠ b) := fun j hj => by
    rw [in_set h hl hp8 _ hj]
    unfold InC
    by_cases e : (evAt l j).1 = (p : Int)
    · rw [if_pos e, e, ec]
      constructor
      · intro h1
        exact ⟨by omega, fun e => by subst e; omega⟩
      · rintro ⟨h1, h2⟩
        have : rkF l j ≠ rkF l b := fun e3 => h2 (rk_inj hj hb (by rw [e, hp]) e3)
        omega
    · rw [if_neg e]
      exact ⟨fun h1 => ⟨h1, fun e3 => e (by rw [e3]; exact hp)⟩, fun h1 => h1.1⟩
  have hg : (c.set p (c.getD p 0 - 1)).getD p 0 = c.getD p 0 - 1 := by rw [getD_set c p p _ (by omega), if_pos rfl]
  refine ⟨c.set p (c.getD p 0 - 1), p, hp8, ⟨by rw [List.length_set, hl], fun q hq => ?_, fun j k hk hj h3 h2 hm hjc => ?_⟩, ?_, ?_, fun i hi hic => ?_⟩
  · rw [getD_set c p q _ (by omega)]
    by_cases e : q = p
    · subst e
      rw [if_pos rfl]
      omega
    · rw [if_neg e]
      exact hc.lo q hq
  · obtain ⟨h4, h5⟩ := (hin' j hj).1 hjc
    refine (hin' k (by omega)).2 ⟨hc.sent j k hk hj h3 h2 hm h4, ?_⟩
    have := hmax j hj h4
    omega
  · unfold okC
    rw [hg, show (c.getD p 0 - 1).toNat = rkF l b by omega]
    have e1 := pl_at hb
    rw [hp] at e1
    rw [e1]
    by_cases h3 : (evAt l b).2.1 = 3
    · obtain ⟨k, hk, h2, hm⟩ := h.sent b hb h3
      have h4 := (hin' k (by omega)).2 ⟨hc.sent b k hk hb h3 h2 hm hin, by omega⟩
      show (!((evAt l b).2.1 == 3 && !hasC _ ((sndF l l.length (evAt l b).2.2).getD (0, 0)))) = true
      rw [← hm, snd_at h h2 l.length (by omega) (Nat.le_refl _)]
      have : hasC (c.set p (c.getD p 0 - 1)) ((evAt l k).1, rkF l k) = true := decide_eq_true h4
      rw [show (some ((evAt l k).1, rkF l k)).getD (0, 0) = ((evAt l k).1, rkF l k) from rfl, this]
      simp
    · show (!((evAt l b).2.1 == 3 && _)) = true
      simp [h3]
  · unfold upC
    rw [hg, List.set_set, show c.getD p 0 - 1 + 1 = c.getD p 0 by omega]
    rw [List.getD_eq_getElem?_getD, List.getElem?_eq_getElem (show p < c.length by omega)]
    exact List.set_getElem_self _
  · obtain ⟨h1, h2⟩ := (hin' i hi).1 hic
    have := hmax i hi h1
    omega
/-- A whole cut without events is the empty one. -/
theorem con_none (hc : Con l c) (hno : ∀ i, i < l.length → ¬ InC l c i) : c = cut0 := by
  have hl := hc.len
  refine List.ext_getElem? fun p => ?_
  by_cases hp : p < 8
  · have h1 := hc.lo p hp
    have h2 : c.getD p 0 = 0 := by
      refine Classical.byContradiction fun hne => ?_
      obtain ⟨i, hi, hpi, hri⟩ := pl_from (p := (p : Int)) l.length (Nat.le_refl _) 0 (by rw [List.take_length]; omega)
      refine hno i hi ?_
      unfold InC cval
      rw [hpi, hri, Int.toNat_natCast]
      omega
    rw [List.getD_eq_getElem?_getD, List.getElem?_eq_getElem (show p < c.length by omega)] at h2
    rw [List.getElem?_eq_getElem (show p < c.length by omega)]
    have h3 : c[p] = 0 := h2
    have h4 := cut0_at p
    rw [List.getD_eq_getElem?_getD, List.getElem?_eq_getElem (show p < cut0.length by simp [cut0]; omega)] at h4
    rw [h3, List.getElem?_eq_getElem (show p < cut0.length by simp [cut0]; omega)]
    have h5 : cut0[p]'(by simp [cut0]; omega) = 0 := h4
    rw [h5]
  · rw [List.getElem?_eq_none (by omega), List.getElem?_eq_none (by simp [cut0]; omega)]
/-- Whoever holds the empty cut and grows holds each whole one. -/
theorem con_all (h : HGood l) (S : List Int → Prop) (h0 : S cut0) (hs : ∀ c p, S c → Con l c → p < 8 → okC l c p = true → S (upC c p)) : ∀ b, ∀ c, Con l c → (∀ i, i < l.length → InC l c i → i < b) → S c
  | 0, c, hc, hb => by
    rw [con_none hc (fun i hi hic => by have := hb i hi hic; omega)]
    exact h0
  | b + 1, c, hc, hb => by
    by_cases hin : b < l.length ∧ InC l c b
    · obtain ⟨c', p, hp, hc', ho, rfl, hlt⟩ := con_down h hc hin.1 hin.2 (fun i hi hic => by have := hb i hi hic; omega)
      exact hs c' p (con_all h S h0 hs b c' hc' hlt) hc' hp ho
    · refine con_all h S h0 hs b c hc fun i hi hic => ?_
      have h1 := hb i hi hic
      rcases Nat.lt_or_ge i b with h2 | h2
      · exact h2
      · obtain rfl : i = b := by omega
        exact absurd ⟨hi, hic⟩ hin
end
end Go.Proofs.Ytgkckldflfalgaa
