
/-
  CutAll: sets of events as masks; the breadth first search meets each whole cut once.
-/
import Derived.Test.YtgkckldflfalgaaCuDef
namespace Go.Proofs.Ytgkckldflfalgaa

theorem nodup_lenC {α : Type} [DecidableEq α] : ∀ (l m : List α), l.Nodup → (∀ y ∈ l, y ∈ m) → l.length ≤ m.length
  | [], _, _, _ => Nat.zero_le _
  | a :: l, m, hn, h => by
    rw [List.nodup_cons] at hn
    have ha := h a (List.mem_cons_self ..)
    have h1 := nodup_lenC l (m.erase a) hn.2 fun y hy => (List.mem_erase_of_ne (fun e => by subst e; exact hn.1 hy)).2 (h y (List.mem_cons_of_mem _ hy))
    rw [List.length_erase_of_mem ha] at h1
    have := List.length_pos_of_mem ha
    rw [List.length_cons]
    omega

/-! ### masks -/
def mkM (f : Nat → Bool) : Nat → Nat
  | 0 => 0
  | n + 1 => mkM f n + if f n = true then 2 ^ n else 0
theorem mkM_lt (f : Nat → Bool) : ∀ n, mkM f n < 2 ^ n
  | 0 => by simp [mkM]
  | n + 1 => by
    have := mkM_lt f n
    unfold mkM
    rw [Nat.pow_succ]
    split <;> omega
theorem mkM_bit (f : Nat → Bool) (i : Nat) : ∀ n, (mkM f n).testBit i = (decide (i < n) && f i)
  | 0 => by simp [mkM]
  | n + 1 => by
    have h1 := mkM_lt f n
    have h2 := mkM_bit f i n
    unfold mkM
    by_cases hf : f n = true
    · rw [if_pos hf, Nat.add_comm]
      rcases Nat.lt_trichotomy i n with h | h | h
      · rw [Nat.testBit_two_pow_add_gt h, h2]
        simp [h, show i < n + 1 by omega]
      · subst h
        rw [Nat.testBit_two_pow_add_eq, Nat.testBit_lt_two_pow h1]
        simp [hf]
      · rw [Nat.testBit_lt_two_pow]
        · simp [show ¬ i < n + 1 by omega]
        · calc 2 ^ n + mkM f n < 2 ^ (n + 1) := by rw [Nat.pow_succ]; omega
            _ ≤ 2 ^ i := Nat.pow_le_pow_right (by decide) (by omega)
    · rw [if_neg hf, Nat.add_zero, h2]
      by_cases h : i < n
      · simp [h, show i < n + 1 by omega]
      · by_cases e : i = n
        · subst e; simp [hf]
        · simp [h, show ¬ i < n + 1 by omega]
theorem mask_ext {n a b : Nat} (ha : a < 2 ^ n) (hb : b < 2 ^ n) (h : ∀ i, i < n → a.testBit i = b.testBit i) : a = b := by
  refine Nat.eq_of_testBit_eq fun i => ?_
  rcases Nat.lt_or_ge i n with hi | hi
  · exact h i hi
  · have h2 : 2 ^ n ≤ 2 ^ i := Nat.pow_le_pow_right (by decide) hi
    rw [Nat.testBit_lt_two_pow (by omega), Nat.testBit_lt_two_pow (by omega)]
def Clo1 (l : List Ev) (m : Nat) : Prop := ∀ i, i < l.length → ∀ k, k < i → m.testBit i = true → Bef l i k → m.testBit k = true
open Classical in
noncomputable def okM (l : List Ev) (m : Nat) : Bool := decide (Clo1 l m)
theorem okM_iff {l : List Ev} {m : Nat} : okM l m = true ↔ Clo1 l m := by unfold okM; exact @decide_eq_true_iff _ (Classical.propDecidable _)
noncomputable def manyTo (l : List Ev) (t : Nat) : Nat := ((List.range t).filter (okM l)).length
noncomputable def manyF (l : List Ev) : Nat := manyTo l (2 ^ l.length)
theorem many_succ (l : List Ev) (t : Nat) : manyTo l (t + 1) = manyTo l t + if okM l t = true then 1 else 0 := by
  unfold manyTo
  rw [List.range_succ, List.filter_append, List.length_append]
  congr 1
  by_cases h : okM l t = true
  · simp [h]
  · simp [h]
theorem many_le (l : List Ev) (t : Nat) : manyTo l t ≤ t := by
  unfold manyTo
  have := List.length_filter_le (okM l) (List.range t)
  rw [List.length_range] at this
  exact this
def maskOf (l : List Ev) (c : List Int) : Nat := mkM (fun i => decide (InC l c i)) l.length
theorem mask_bit (l : List Ev) (c : List Int) {i : Nat} (hi : i < l.length) : (maskOf l c).testBit i = true ↔ InC l c i := by
  unfold maskOf
  rw [mkM_bit]
  simp [hi]
/-- How many of place p a mask holds, among the first j. -/
def cbF (l : List Ev) (m : Nat) (p : Int) : Nat → Nat
  | 0 => 0
  | j + 1 => cbF l m p j + if (evAt l j).1 = p ∧ m.testBit j = true then 1 else 0
def cutOf (l : List Ev) (m : Nat) : List Int := (List.range 8).map fun p : Nat => (cbF l m (p : Int) l.length : Int)
section
variable {l : List Ev} {m : Nat} {p : Int}
theorem cut_at (l : List Ev) (m : Nat) {q : Nat} (hq : q < 8) : (cutOf l m).getD q 0 = (cbF l m (q : Int) l.length : Int) := by
  unfold cutOf
  rw [List.getD_eq_getElem?_getD, List.getElem?_map, List.getElem?_range hq]
  rfl
theorem pl_len {j : Nat} (hj : j < l.length) (p : Int) : (plF (l.take (j + 1)) p).length = (plF (l.take j) p).length + if (evAt l j).1 = p then 1 else 0 := by
  rw [pl_succ hj, List.length_append]
  split <;> rfl
theorem cb_le : ∀ j, j ≤ l.length → cbF l m p j ≤ (plF (l.take j) p).length
  | 0, _ => Nat.zero_le _
  | j + 1, h => by
    have ih := cb_le j (by omega)
    rw [pl_len (by omega)]
    unfold cbF
    by_cases h1 : (evAt l j).1 = p
    · rw [if_pos h1]
      split <;> omega
    · rw [if_neg h1, if_neg (fun h => h1 h.1)]
      omega
theorem cb_full : ∀ j, j ≤ l.length → (∀ k, k < j → (evAt l k).1 = p → m.testBit k = true) → cbF l m p j = (plF (l.take j) p).length
  | 0, _, _ => by simp [cbF, plF]
  | j + 1, h, hall => by
    have ih := cb_full j (by omega) (fun k hk => hall k (by omega))
    rw [pl_len (by omega)]
    unfold cbF
    rw [ih]
    by_cases h1 : (evAt l j).1 = p
    · rw [if_pos h1, if_pos ⟨h1, hall j (by omega) h1⟩]
    · rw [if_neg h1, if_neg (fun h => h1 h.1)]
theorem cb_none {i : Nat} : ∀ j, i ≤ j → (∀ k, i ≤ k → k < j → (evAt l k).1 = p → ¬ m.testBit k = true) → cbF l m p j = cbF l m p i
  | 0, h, _ => by obtain rfl : i = 0 := by omega
                  rfl
  | j + 1, h, hno => by
    by_cases e : i = j + 1
    · rw [e]
    · have ih := cb_none j (by omega) (fun k h1 h2 => hno k h1 (by omega))
      show cbF l m p j + _ = _
      rw [ih, if_neg (fun h1 => hno j (by omega) (by omega) h1.1 h1.2)]
      rfl
theorem cb_mono {i j : Nat} (h : i ≤ j) : cbF l m p i ≤ cbF l m p j := by
  induction j with
  | zero => obtain rfl : i = 0 := by omega
            exact Nat.le_refl _
  | succ j ih =>
    by_cases e : i = j + 1
    · rw [e]; exact Nat.le_refl _
    · have := ih (by omega)
      show _ ≤ cbF l m p j + _
      omega
theorem cutOf_in (h : HGood l) (hc : Clo1 l m) {i : Nat} (hi : i < l.length) : InC l (cutOf l m) i ↔ m.testBit i = true := by
  have hp := h.pl i hi
  have e : cval (cutOf l m) (evAt l i).1 = (cbF l m (evAt l i).1 l.length : Int) := by
    unfold cval
    rw [cut_at l m (by omega), Int.toNat_of_nonneg hp.1]
  unfold InC
  rw [e]
  have hdir : ∀ a b, b < a → (evAt l b).1 = (evAt l a).1 → Bef l a b := fun a b hab hpl => .one hab ((dir_iff _ _).2 (.inl hpl))
  constructor
  · intro h1
    refine Classical.byContradiction fun hno => ?_
    have h2 : cbF l m (evAt l i).1 l.length = cbF l m (evAt l i).1 i := cb_none l.length (by omega) fun k hk hkl hpk hb => by
      rcases Nat.lt_or_ge i k with h3 | h3
      · exact hno (hc k hkl i h3 hb (hdir k i h3 hpk.symm))
      · obtain rfl : k = i := by omega
        exact hno hb
    have h3 := cb_le (m := m) (p := (evAt l i).1) i (Nat.le_of_lt hi)
    unfold rkF at h1
    omega
  · intro hb
    have h2 := cb_full (m := m) (p := (evAt l i).1) (i + 1) hi fun k hk hpk => by
      rcases Nat.lt_or_ge k i with h3 | h3
      · exact hc i hi k h3 hb (hdir i k h3 hpk)
      · obtain rfl : k = i := by omega
        exact hb
    rw [pl_here hi] at h2
    have h3 := cb_mono (l := l) (m := m) (p := (evAt l i).1) (show i + 1 ≤ l.length from hi)
    omega
theorem cutOf_con (h : HGood l) (hc : Clo1 l m) : Con l (cutOf l m) where
  len := by simp [cutOf]
  lo := fun q hq => by
    rw [cut_at l m hq]
    have := cb_le (m := m) (p := (q : Int)) l.length (Nat.le_refl _)
    rw [List.take_length] at this
    omega
  sent := fun i k hk hi h3 h2 hm hin => (cutOf_in h hc (by omega)).2 (hc i hi k hk ((cutOf_in h hc hi).1 hin) (.one hk ((dir_iff _ _).2 (.inr ⟨h3, h2, hm⟩))))
theorem mask_cut (h : HGood l) (hc : Clo1 l m) (hm : m < 2 ^ l.length) : maskOf l (cutOf l m) = m :=
  mask_ext (mkM_lt _ _) hm fun i hi => by
    rw [Bool.eq_iff_iff]
    exact (mask_bit l _ hi).trans (cutOf_in h hc hi)
theorem bef_in {c : List Int} (hc : Con l c) {i k : Nat} (hb : Bef l i k) : i < l.length → InC l c i → InC l c k := by
  have one : ∀ a b, b < a → a < l.length → dirB (evAt l b) (evAt l a) = true → InC l c a → InC l c b := fun a b hab ha hd hin => by
    rcases (dir_iff _ _).1 hd with hp | ⟨h3, h2, hm⟩
    · have := rk_mono ha hab hp
      unfold InC at *
      rw [hp]
      omega
    · exact hc.sent a b hab ha h3 h2 hm hin
  induction hb with
  | one h d => exact fun hi hin => one _ _ h hi d hin
  | more h d _ ih => exact fun hi hin => ih (by omega) (one _ _ h hi d hin)
theorem mask_clo {c : List Int} (hc : Con l c) : Clo1 l (maskOf l c) := fun i hi k hk hb hbef =>
  (mask_bit l c (by omega)).2 (bef_in hc hbef hi ((mask_bit l c hi).1 hb))
theorem cut_mask {c : List Int} (hc : Con l c) : cutOf l (maskOf l c) = c := by
  have key : ∀ q : Nat, q < 8 → ∀ j, j ≤ l.length → (cbF l (maskOf l c) (q : Int) j : Int) = min ((plF (l.take j) (q : Int)).length : Int) (c.getD q 0) := fun q hq j => by
    have hlo := hc.lo q hq
    induction j with
    | zero =>
      intro _
      show ((0 : Nat) : Int) = _
      rw [show (plF (l.take 0) (q : Int)).length = 0 by simp [plF]]
      omega
    | succ j ih =>
      intro hj
      have ih := ih (by omega)
      rw [pl_len (by omega)]
      unfold cbF
      by_cases hp : (evAt l j).1 = (q : Int)
      · have hb := mask_bit l c (show j < l.length by omega)
        have hrk : rkF l j = (plF (l.take j) (q : Int)).length := by unfold rkF; rw [hp]
        unfold InC cval at hb
        rw [hp, Int.toNat_natCast, hrk] at hb
        rw [if_pos hp]
        by_cases h1 : ((plF (l.take j) (q : Int)).length : Int) < c.getD q 0
        · rw [if_pos ⟨hp, hb.2 h1⟩]
          omega
        · rw [if_neg (fun h2 => h1 (hb.1 h2.2))]
          omega
      · rw [if_neg hp, if_neg (fun h2 => hp h2.1)]
        omega
  have hl := hc.len
  refine List.ext_getElem? fun q => ?_
  by_cases hq : q < 8
  · have h1 := key q hq l.length (Nat.le_refl _)
    rw [List.take_length] at h1
    have h2 := hc.lo q hq
    have h3 := cut_at l (maskOf l c) hq
    rw [h1, show min ((plF l (q : Int)).length : Int) (c.getD q 0) = c.getD q 0 by omega] at h3
    rw [List.getD_eq_getElem?_getD, List.getD_eq_getElem?_getD, List.getElem?_eq_getElem (show q < (cutOf l (maskOf l c)).length by simp [cutOf]; omega), List.getElem?_eq_getElem (show q < c.length by omega)] at h3
    rw [List.getElem?_eq_getElem (show q < (cutOf l (maskOf l c)).length by simp [cutOf]; omega), List.getElem?_eq_getElem (show q < c.length by omega)]
    exact congrArg some h3
  · rw [List.getElem?_eq_none (by simp [cutOf]; omega), List.getElem?_eq_none (by omega)]
theorem con_many (S : List (List Int)) (hn : S.Nodup) (hS : ∀ c ∈ S, Con l c) : S.length ≤ manyF l := by
  unfold manyF manyTo
  have h1 : (S.map (maskOf l)).Nodup := by
    rw [List.Nodup, List.pairwise_map]
    refine List.Pairwise.imp_of_mem ?_ hn
    intro a b ha hb hne e
    exact hne (by rw [← cut_mask (hS a ha), ← cut_mask (hS b hb), e])
  have h2 := nodup_lenC _ ((List.range (2 ^ l.length)).filter (okM l)) h1 fun y hy => by
    obtain ⟨c, hc, rfl⟩ := List.mem_map.1 hy
    refine List.mem_filter.2 ⟨List.mem_range.2 (mkM_lt _ _), okM_iff.2 (mask_clo (hS c hc))⟩
  rw [List.length_map] at h2
  exact h2
theorem many_con (h : HGood l) (S : List (List Int)) (hS : ∀ c, Con l c → c ∈ S) : manyF l ≤ S.length := by
  unfold manyF manyTo
  have hz : ∀ m ∈ (List.range (2 ^ l.length)).filter (okM l), m < 2 ^ l.length ∧ Clo1 l m := fun m hm => by
    obtain ⟨h1, h2⟩ := List.mem_filter.1 hm
    exact ⟨List.mem_range.1 h1, okM_iff.1 h2⟩
  have h1 : (((List.range (2 ^ l.length)).filter (okM l)).map (cutOf l)).Nodup := by
    rw [List.Nodup, List.pairwise_map]
    refine List.Pairwise.imp_of_mem ?_ (List.Nodup.sublist List.filter_sublist List.nodup_range)
    intro a b ha hb hne e
    exact hne (by rw [← mask_cut h (hz a ha).2 (hz a ha).1, ← mask_cut h (hz b hb).2 (hz b hb).1, e])
  have h2 := nodup_lenC _ S h1 fun y hy => by
    obtain ⟨m, hm, rfl⟩ := List.mem_map.1 hy
    exact hS _ (cutOf_con h (hz m hm).2)
  rw [List.length_map] at h2
  exact h2
end

/-! ### breadth first -/
def stepC (l : List Ev) (c : List Int) (S : List (List Int)) (p : Nat) : List (List Int) := if okC l c p = true ∧ S.contains (upC c p) = false then S ++ [upC c p] else S
def rowC (l : List Ev) (c : List Int) (S : List (List Int)) (n : Nat) : List (List Int) := (List.range n).foldl (stepC l c) S
theorem rowC_succ (l : List Ev) (c : List Int) (S : List (List Int)) (n : Nat) : rowC l c S (n + 1) = stepC l c (rowC l c S n) n := by
  unfold rowC
  rw [List.range_succ, List.foldl_append]
  rfl
structure Bfs (l : List Ev) (S : List (List Int)) (d : Nat) : Prop where
  nd : S.Nodup
  con : ∀ c ∈ S, Con l c
  zero : cut0 ∈ S
  succ : ∀ j, j < d → ∀ p, p < 8 → okC l (S.getD j []) p = true → upC (S.getD j []) p ∈ S
theorem bfs0 (l : List Ev) : Bfs l [cut0] 0 := ⟨by simp, (fun c hc => by rw [List.mem_singleton.1 hc]; exact con0 l), by simp, fun j hj => by omega⟩
section
variable {l : List Ev} {S : List (List Int)} {d : Nat}
theorem row_pre (l : List Ev) (c : List Int) (S : List (List Int)) : ∀ n, ∃ E, rowC l c S n = S ++ E
  | 0 => ⟨[], by simp [rowC]⟩
  | n + 1 => by
    obtain ⟨E, h⟩ := row_pre l c S n
    rw [rowC_succ, h]
    unfold stepC
    split
    · exact ⟨E ++ [upC c n], by rw [List.append_assoc]⟩
    · exact ⟨E, rfl⟩
theorem row_good (h : HGood l) (hb : Bfs l S d) {c : List Int} (hc : c ∈ S) : ∀ n, n ≤ 8 → (rowC l c S n).Nodup ∧ (∀ x ∈ rowC l c S n, Con l x) ∧ ∀ p, p < n → okC l c p = true → upC c p ∈ rowC l c S n
  | 0, _ => ⟨hb.nd, hb.con, fun p hp => by omega⟩
  | n + 1, hn => by
    obtain ⟨h1, h2, h3⟩ := row_good h hb hc n (by omega)
    rw [rowC_succ]
    unfold stepC
    by_cases hk : okC l c n = true ∧ (rowC l c S n).contains (upC c n) = false
    · rw [if_pos hk]
      have hni : upC c n ∉ rowC l c S n := by have := hk.2; simpa using this
      refine ⟨?_, fun x hx => ?_, fun p hp ho => ?_⟩
      · rw [List.nodup_append]
        exact ⟨h1, by simp, fun a ha b hb' e => by rw [List.mem_singleton] at hb'; subst hb' e; exact hni ha⟩
      · rcases List.mem_append.1 hx with hx | hx
        · exact h2 x hx
        · rw [List.mem_singleton.1 hx]
          exact con_up h (hb.con c hc) (by omega) hk.1
      · by_cases e : p = n
        · subst e
          exact List.mem_append_right _ (List.mem_singleton.2 rfl)
        · exact List.mem_append_left _ (h3 p (by omega) ho)
    · rw [if_neg hk]
      refine ⟨h1, h2, fun p hp ho => ?_⟩
      by_cases e : p = n
      · subst e
        have : ¬ (rowC l c S p).contains (upC c p) = false := fun h4 => hk ⟨ho, h4⟩
        simpa using this
      · exact h3 p (by omega) ho
theorem bfs_next (h : HGood l) (hb : Bfs l S d) (hd : d < S.length) : Bfs l (rowC l (S.getD d []) S 8) (d + 1) := by
  have hc : S.getD d [] ∈ S := by
    rw [List.getD_eq_getElem?_getD, List.getElem?_eq_getElem hd]
    exact List.getElem_mem hd
  obtain ⟨h1, h2, h3⟩ := row_good h hb hc 8 (Nat.le_refl _)
  obtain ⟨E, hE⟩ := row_pre l (S.getD d []) S 8
  have hg : ∀ j, j ≤ d → (rowC l (S.getD d []) S 8).getD j [] = S.getD j [] := fun j hj => by
    rw [hE]
    simp only [List.getD_eq_getElem?_getD]
    rw [List.getElem?_append_left (by omega)]
  refine ⟨h1, h2, by rw [hE]; exact List.mem_append_left _ hb.zero, fun j hj p hp ho => ?_⟩
  rw [hg j (by omega)] at ho ⊢
  by_cases e : j = d
  · subst e
    exact h3 p hp ho
  · rw [hE]
    exact List.mem_append_left _ (hb.succ j (by omega) p hp ho)
theorem bfs_small (hb : Bfs l S d) : S.length ≤ manyF l := con_many S hb.nd hb.con
theorem bfs_done (h : HGood l) (hb : Bfs l S S.length) : S.length = manyF l := by
  refine Nat.le_antisymm (bfs_small hb) (many_con h S fun c hc => ?_)
  refine con_all h (fun x => x ∈ S) hb.zero (fun c p hc _ hp ho => ?_) l.length c hc (fun i hi _ => hi)
  obtain ⟨j, hj⟩ := List.mem_iff_getElem?.1 hc
  have hjl := (List.getElem?_eq_some_iff.1 hj).1
  have e : S.getD j [] = c := by rw [List.getD_eq_getElem?_getD, hj]; rfl
  have := hb.succ j hjl p hp (by rw [e]; exact ho)
  rw [e] at this
  exact this
theorem many_small (h10 : l.length ≤ 10) : manyF l ≤ 1024 := by
  have h1 := many_le l (2 ^ l.length)
  have h2 : 2 ^ l.length ≤ 2 ^ 10 := Nat.pow_le_pow_right (by decide) h10
  unfold manyF
  omega
end
end Go.Proofs.Ytgkckldflfalgaa
