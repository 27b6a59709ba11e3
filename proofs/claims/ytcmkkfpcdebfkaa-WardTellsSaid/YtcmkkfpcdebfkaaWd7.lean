/-
  What becomes of a supervisor whose child ends: the plain law.
-/
import Derived.Test.YtcmkkfpcdebfkaaWd6
namespace Go.Proofs.Ytcmkkfpcdebfkaa
open Go.RowKit

def deadC (x : Ch) : Ch := (x.1, x.2.1, false)
/-- The ids of those that live. -/
def liveIds (l : List Ch) : List Int := (l.filter (fun x => x.2.2)).map (·.1)
theorem liveIds_append (a b : List Ch) : liveIds (a ++ b) = liveIds a ++ liveIds b := by simp [liveIds]
theorem liveIds_one (x : Ch) : liveIds [x] = if x.2.2 = true then [x.1] else [] := by
  unfold liveIds
  by_cases h : x.2.2 = true <;> simp [h]
theorem liveIds_len (l : List Ch) : (liveIds l).length ≤ l.length := by
  unfold liveIds
  rw [List.length_map]
  exact List.length_filter_le _ _
theorem deadC_eq {x : Ch} (h : x.2.2 = false) : deadC x = x := by
  obtain ⟨a, b, c⟩ := x
  dsimp only at h
  subst h
  rfl

theorem stopL_mid : ∀ (n : Nat) (a m c : List Ch), m.length = n → stopL a.length n (a ++ (m ++ c)) = (a ++ (m.map deadC ++ c), (liveIds m).reverse)
  | 0, a, m, c, h => by
    obtain rfl : m = [] := List.length_eq_zero_iff.mp h
    rfl
  | n + 1, a, m, c, h => by
    obtain ⟨m', x, rfl⟩ : ∃ m' x, m = m' ++ [x] := ⟨m.dropLast, m.getLast (by intro e; subst e; simp at h), (List.dropLast_concat_getLast _).symm⟩
    have hm' : m'.length = n := by simpa using h
    have hl : a ++ (m' ++ [x] ++ c) = (a ++ m') ++ x :: c := by simp
    have hn : a.length + n = (a ++ m').length := by rw [List.length_append, hm']
    have hx : (a ++ (m' ++ [x] ++ c)).getD (a.length + n) (0, 0, false) = x := by
      rw [hl, hn, List.getD_eq_getElem?_getD, List.getElem?_append_right (Nat.le_refl _)]
      simp
    have hs : ∀ y : Ch, (a ++ (m' ++ [x] ++ c)).set (a.length + n) y = a ++ (m' ++ y :: c) := fun y => by
      rw [hl, hn, List.set_append_right _ _ (Nat.le_refl _)]
      simp
    by_cases hv : x.2.2 = true
    · rw [stopL_live hx hv, hs, stopL_mid n a m' _ hm', liveIds_append, liveIds_one, if_pos hv]
      simp [deadC]
    · have hv' : x.2.2 = false := by simpa using hv
      rw [stopL_dead hx hv', show a ++ (m' ++ [x] ++ c) = a ++ (m' ++ x :: c) by simp, stopL_mid n a m' _ hm', liveIds_append, liveIds_one, if_neg hv]
      simp [deadC_eq hv']
theorem stopL_seg (f n : Nat) (l : List Ch) (h : f + n ≤ l.length) :
    stopL f n l = (l.take f ++ (((l.drop f).take n).map deadC ++ l.drop (f + n)), (liveIds ((l.drop f).take n)).reverse) := by
  have h1 := stopL_mid n (l.take f) ((l.drop f).take n) (l.drop (f + n)) (by simp; omega)
  rw [List.length_take, Nat.min_eq_left (by omega)] at h1
  have h2 : l.take f ++ ((l.drop f).take n ++ l.drop (f + n)) = l := by
    rw [← List.drop_drop, List.take_append_drop, List.take_append_drop]
  rw [h2] at h1
  exact h1
theorem stopL_len (f n : Nat) (l : List Ch) (h : f + n ≤ l.length) : (stopL f n l).1.length = l.length := by
  rw [stopL_seg f n l h]
  simp
  omega
theorem stopL_get (f n : Nat) (l : List Ch) (h : f + n ≤ l.length) (j : Nat) :
    (stopL f n l).1[j]? = if f ≤ j ∧ j < f + n then l[j]?.map deadC else l[j]? := by
  rw [stopL_seg f n l h]
  dsimp only
  have hlf : (l.take f).length = f := by simp; omega
  have hln : (((l.drop f).take n).map deadC).length = n := by simp; omega
  rcases Nat.lt_or_ge j f with h1 | h1
  · rw [List.getElem?_append_left (by omega), if_neg (by omega), List.getElem?_take, if_pos h1]
  · rw [List.getElem?_append_right (by omega), hlf]
    rcases Nat.lt_or_ge j (f + n) with h2 | h2
    · rw [List.getElem?_append_left (by omega), if_pos ⟨h1, h2⟩, List.getElem?_map, List.getElem?_take, if_pos (by omega), List.getElem?_drop, show f + (j - f) = j by omega]
    · rw [List.getElem?_append_right (by omega), hln, if_neg (by omega), List.getElem?_drop, show f + n + (j - f - n) = j by omega]

/-- No two children bear one id. -/
def Uniq (l : List Ch) : Prop := ∀ (i j : Nat) (x y : Ch), l[i]? = some x → l[j]? = some y → x.1 = y.1 → i = j
theorem get_snoc {l : List Ch} {x y : Ch} {i : Nat} (h : (l ++ [x])[i]? = some y) : (i < l.length ∧ l[i]? = some y) ∨ (i = l.length ∧ y = x) := by
  rcases Nat.lt_or_ge i l.length with hl | hl
  · exact .inl ⟨hl, by rwa [List.getElem?_append_left hl] at h⟩
  · rw [List.getElem?_append_right hl] at h
    rcases hh : i - l.length with _ | k
    · rw [hh] at h
      simp at h
      exact .inr ⟨by omega, h.symm⟩
    · rw [hh] at h
      simp at h
theorem chF_uniq : ∀ (l pre : List Ch), chF pre l = 0 → Uniq pre → Uniq (pre ++ l)
  | [], pre, _, h => by simpa using h
  | x :: r, pre, hc, h => by
    unfold chF at hc
    split at hc
    · cases hc
    · split at hc
      · cases hc
      · rename_i _ ha
        have hn : ∀ (i : Nat) (p : Ch), pre[i]? = some p → p.1 ≠ x.1 := fun i p hp e => ha (List.any_eq_true.2 ⟨p, List.mem_of_getElem? hp, by simp [isId, e]⟩)
        have hu : Uniq (pre ++ [x]) := fun i j y z hi hj e => by
          rcases get_snoc hi with ⟨h1, h2⟩ | ⟨h1, rfl⟩
          · rcases get_snoc hj with ⟨h3, h4⟩ | ⟨h3, rfl⟩
            · exact h i j y z h2 h4 e
            · exact absurd e (hn i y h2)
          · rcases get_snoc hj with ⟨h3, h4⟩ | ⟨h3, _⟩
            · exact absurd e.symm (hn j z h4)
            · omega
        have := chF_uniq r (pre ++ [x]) hc hu
        simpa using this
theorem uniq_of {l : List Ch} (h : chF [] l = 0) : Uniq l := by
  have := chF_uniq l [] h (fun i j x y hi => by simp at hi)
  simpa using this
theorem Uniq.set {l : List Ch} (h : Uniq l) {i : Nat} {x y : Ch} (hx : l[i]? = some x) (hy : y.1 = x.1) : Uniq (l.set i y) := by
  have hg : ∀ (j : Nat) (z : Ch), (l.set i y)[j]? = some z → ∃ z' : Ch, l[j]? = some z' ∧ z'.1 = z.1 := fun j z hj => by
    rw [List.getElem?_set] at hj
    split at hj
    · rename_i e
      subst e
      split at hj
      · injection hj with hj
        subst hj
        exact ⟨x, hx, hy.symm⟩
      · cases hj
    · exact ⟨z, hj, rfl⟩
  intro a b p q ha hb e
  obtain ⟨p', h1, h2⟩ := hg a p ha
  obtain ⟨q', h3, h4⟩ := hg b q hb
  exact h a b p' q' h1 h3 (by rw [h2, h4]; exact e)
theorem live_in {l : List Ch} (hu : Uniq l) {f n k : Nat} {x : Ch} (hx : l[k]? = some x) (hf : f ≤ k) (hk : k < f + n) :
    (liveIds ((l.drop f).take n)).reverse.any (fun y => x.1 == y) = x.2.2 := by
  rw [Bool.eq_iff_iff]
  constructor
  · intro h
    obtain ⟨i, hi, he⟩ := List.any_eq_true.1 h
    rw [List.mem_reverse] at hi
    unfold liveIds at hi
    obtain ⟨y, hy, rfl⟩ := List.mem_map.1 hi
    obtain ⟨hm, hl⟩ := List.mem_filter.1 hy
    obtain ⟨j, hj⟩ := List.mem_iff_getElem?.1 hm
    rw [List.getElem?_take] at hj
    split at hj
    · rw [List.getElem?_drop] at hj
      have hjk := hu _ _ _ _ hj hx (by have := eq_of_beq he; exact this.symm)
      rw [hjk, hx] at hj
      injection hj with hj
      subst hj
      exact hl
    · cases hj
  · intro h
    refine List.any_eq_true.2 ⟨x.1, ?_, by simp⟩
    rw [List.mem_reverse]
    unfold liveIds
    refine List.mem_map.2 ⟨x, List.mem_filter.2 ⟨List.mem_iff_getElem?.2 ⟨k - f, ?_⟩, h⟩, rfl⟩
    rw [List.getElem?_take, if_pos (by omega), List.getElem?_drop, show f + (k - f) = k by omega]
    exact hx

/-- Which children are asked: from which one on, how many. -/
def rngF (how : Int) (i : Nat) : Nat := if how = 2 then 0 else i
def rngN (how : Int) (i len : Nat) : Nat := if how = 2 then len else if how = 3 then len - i else 1
theorem rng_le (how : Int) {i len : Nat} (h : i < len) : rngF how i ≤ i ∧ i < rngF how i + rngN how i len ∧ rngF how i + rngN how i len ≤ len := by
  unfold rngF rngN
  split
  · omega
  · split <;> omega
def touchB (how : Int) (i k : Nat) : Bool := k == i || (how == 2 || (how == 3 && decide (i < k)))
theorem touch_rng (how : Int) {i len k : Nat} (h : i < len) (hk : k < len) :
    touchB how i k = decide (rngF how i ≤ k ∧ k < rngF how i + rngN how i len) := by
  unfold touchB rngF rngN
  rw [Bool.eq_iff_iff]
  simp only [Bool.or_eq_true, Bool.and_eq_true, beq_iff_eq, decide_eq_true_eq]
  split
  · simp [*]
  · split <;> omega

/-- The last time, 0 where there is none. -/
def lastT (l : List Int) : Int := l.getLast?.getD 0
def childAt (v : Wd) (i : Nat) : Ch := v.ch.getD i (0, 0, false)
/-- What is wrong with a fall; 0: nothing. -/
def fallE (v : Wd) (id now : Int) : Int :=
  if wardF v ≠ 0 then wardF v
  else if idxAt (isId id) v.ch 0 < 0 then 4
  else if (childAt v (idxAt (isId id) v.ch 0).toNat).2.2 = false then 8
  else if now < lastT v.tm ∨ 1099511627776 < now then 21 else 0
abbrev PlV := List Int × List Int × Bool
def quietB (x : Ch) (failed : Bool) : Bool := x.2.1 == 3 || (x.2.1 == 2 && !failed)
def keptT (v : Wd) (now : Int) : List Int := v.tm.filter (fun t => !decide (t ≤ now - v.win))
/-- The supervisor then, and its plan. -/
def fallV (v : Wd) (i : Nat) (failed : Bool) (now : Int) : Wd × PlV :=
  let c1 := v.ch.set i (deadC (childAt v i))
  if quietB (childAt v i) failed = true then (⟨v.how, v.most, v.win, c1, v.tm⟩, [], [], false)
  else if v.most ≤ (keptT v now).length then (⟨v.how, v.most, v.win, c1.map deadC, keptT v now⟩, (liveIds c1).reverse, [], true)
  else (⟨v.how, v.most, v.win, v.ch, keptT v now ++ [now]⟩, (liveIds ((c1.drop (rngF v.how i)).take (rngN v.how i v.ch.length))).reverse,
    liveIds ((v.ch.drop (rngF v.how i)).take (rngN v.how i v.ch.length)), false)

/-- The children as they stand while those stopped are started again: those before k are as they were. -/
def mixC (ch s : List Ch) (k : Nat) : List Ch := ch.take k ++ s.drop k
theorem mixC_len {ch s : List Ch} (h : s.length = ch.length) (k : Nat) : (mixC ch s k).length = ch.length := by
  unfold mixC
  simp
  omega
theorem mixC_at {ch s : List Ch} (_h : s.length = ch.length) {k : Nat} (hk : k < ch.length) : (mixC ch s k).getD k (0, 0, false) = s.getD k (0, 0, false) := by
  unfold mixC
  rw [List.getD_eq_getElem?_getD, List.getElem?_append_right (by simp; omega), List.getElem?_drop, List.length_take, Nat.min_eq_left (by omega), Nat.sub_self, Nat.add_zero, List.getD_eq_getElem?_getD]
theorem mixC_cons {ch s : List Ch} (h : s.length = ch.length) {k : Nat} (hk : k < ch.length) : mixC ch s k = ch.take k ++ s.getD k (0, 0, false) :: s.drop (k + 1) := by
  unfold mixC
  rw [drop_getD s (0, 0, false) (by omega)]
theorem mixC_next {ch s : List Ch} {k : Nat} (hk : k < ch.length) : mixC ch s (k + 1) = ch.take k ++ ch.getD k (0, 0, false) :: s.drop (k + 1) := by
  unfold mixC
  rw [take_getD ch (0, 0, false) hk]
  simp
theorem mixC_set {ch s : List Ch} (h : s.length = ch.length) {k : Nat} (hk : k < ch.length) : (mixC ch s k).set k (ch.getD k (0, 0, false)) = mixC ch s (k + 1) := by
  rw [mixC_next hk]
  unfold mixC
  rw [List.set_append_right _ _ (by simp; omega), List.length_take, Nat.min_eq_left (by omega), Nat.sub_self, drop_getD s (0, 0, false) (by omega)]
  rfl
theorem mixC_same {ch s : List Ch} (h : s.length = ch.length) {k : Nat} (hk : k < ch.length) (he : s.getD k (0, 0, false) = ch.getD k (0, 0, false)) : mixC ch s k = mixC ch s (k + 1) := by
  rw [mixC_cons h hk, mixC_next hk, he]

section
variable {ch : List Ch} {i f n : Nat}
/-- Those stopped: child i was taken down before. -/
def stC (ch : List Ch) (i f n : Nat) : List Ch := (stopL f n (ch.set i (deadC (ch.getD i (0, 0, false))))).1
theorem stC_len (h3 : f + n ≤ ch.length) : (stC ch i f n).length = ch.length := by
  unfold stC
  rw [stopL_len _ _ _ (by simpa using h3), List.length_set]
theorem stC_in (_h1 : f ≤ i) (h2 : i < f + n) (h3 : f + n ≤ ch.length) {k : Nat} (hk1 : f ≤ k) (hk2 : k < f + n) : (stC ch i f n).getD k (0, 0, false) = deadC (ch.getD k (0, 0, false)) := by
  unfold stC
  rw [List.getD_eq_getElem?_getD, stopL_get _ _ _ (by simpa using h3), if_pos ⟨hk1, hk2⟩, List.getElem?_set]
  split
  · rename_i e
    subst e
    rw [if_pos (by omega)]
    rfl
  · rw [getD_some (0, 0, false) (show k < ch.length by omega)]
    rfl
theorem mixC_first (h1 : f ≤ i) (_h2 : i < f + n) (h3 : f + n ≤ ch.length) : mixC ch (stC ch i f n) f = stC ch i f n := by
  unfold mixC
  conv => rhs; rw [← List.take_append_drop f (stC ch i f n)]
  congr 1
  apply List.ext_getElem?
  intro j
  rw [List.getElem?_take, List.getElem?_take]
  split
  · rename_i hj
    unfold stC
    rw [stopL_get _ _ _ (by simpa using h3), if_neg (by omega), List.getElem?_set, if_neg (by omega)]
  · rfl
theorem mixC_last (_h1 : f ≤ i) (h2 : i < f + n) (h3 : f + n ≤ ch.length) : mixC ch (stC ch i f n) (f + n) = ch := by
  unfold mixC
  conv => rhs; rw [← List.take_append_drop (f + n) ch]
  congr 1
  apply List.ext_getElem?
  intro j
  rw [List.getElem?_drop, List.getElem?_drop]
  unfold stC
  rw [stopL_get _ _ _ (by simpa using h3), if_neg (by omega), List.getElem?_set, if_neg (by omega)]
end
theorem seg_snoc (l : List Ch) {f k n : Nat} (h1 : f ≤ k) (h2 : k < l.length) (_h3 : k < f + n) : liveIds ((l.drop f).take (k + 1 - f)) = liveIds ((l.drop f).take (k - f)) ++ (if (l.getD k (0, 0, false)).2.2 = true then [(l.getD k (0, 0, false)).1] else []) := by
  rw [show k + 1 - f = (k - f) + 1 by omega, take_getD (l.drop f) (0, 0, false) (by simp; omega), liveIds_append, liveIds_one]
  have : (l.drop f).getD (k - f) (0, 0, false) = l.getD k (0, 0, false) := by
    rw [List.getD_eq_getElem?_getD, List.getElem?_drop, show f + (k - f) = k by omega, List.getD_eq_getElem?_getD]
  rw [this]

/-- The ids of those below n that live and are asked, from the last on. -/
def stopT (t : Nat → Bool) (l : List Ch) : Nat → List Int
  | 0 => []
  | n + 1 => if t n = true ∧ (l.getD n (0, 0, false)).2.2 = true then (l.getD n (0, 0, false)).1 :: stopT t l n else stopT t l n
theorem stopT_seg (t : Nat → Bool) (l : List Ch) (f n : Nat) (h : f + n ≤ l.length) (ht : ∀ k, k < l.length → t k = decide (f ≤ k ∧ k < f + n)) :
    ∀ m, m ≤ l.length → stopT t l m = (liveIds ((l.drop f).take (min (m - f) n))).reverse
  | 0, _ => by simp [stopT, liveIds]
  | m + 1, hm => by
    have ih := stopT_seg t l f n h ht m (by omega)
    unfold stopT
    rw [ih, ht m (by omega)]
    by_cases hin : f ≤ m ∧ m < f + n
    · have e1 : min (m - f) n = m - f := by omega
      have e2 : min (m + 1 - f) n = m + 1 - f := by omega
      rw [e1, e2, seg_snoc l hin.1 (by omega) hin.2]
      by_cases hv : (l.getD m (0, 0, false)).2.2 = true
      · rw [if_pos ⟨decide_eq_true hin, hv⟩, if_pos hv]
        simp
      · rw [if_neg (fun h => hv h.2), if_neg hv]
        simp
    · rw [if_neg (fun h => hin (of_decide_eq_true h.1))]
      have e : min (m + 1 - f) n = min (m - f) n := by omega
      rw [e]
theorem stopT_all (l : List Ch) : stopT (fun _ => true) l l.length = (liveIds l).reverse := by
  rw [stopT_seg (fun _ => true) l 0 l.length (by omega) (fun k hk => by simp [hk]) _ (Nat.le_refl _)]
  simp
theorem stopT_rng (how : Int) (l : List Ch) {i : Nat} (h : i < l.length) : stopT (touchB how i) l l.length = (liveIds ((l.drop (rngF how i)).take (rngN how i l.length))).reverse := by
  have hr := rng_le how h
  rw [stopT_seg (touchB how i) l (rngF how i) (rngN how i l.length) hr.2.2 (fun k hk => touch_rng how h hk) _ (Nat.le_refl _)]
  rw [Nat.min_eq_right (by omega)]
theorem tmF_last : ∀ (l : List Int) (a : Int), 0 ≤ a → tmF a l = 0 → 0 ≤ l.getLast?.getD a
  | [], a, h, _ => by simpa using h
  | t :: r, a, h, ht => by
    unfold tmF at ht
    split at ht
    · cases ht
    · rename_i hn
      have ih := tmF_last r t (by omega) ht
      rw [List.getLast?_cons]
      simpa using ih
theorem lastT_pos {l : List Int} (h : tmF 0 l = 0) : 0 ≤ lastT l := tmF_last l 0 (Int.le_refl _) h
theorem wardF_zero {v : Wd} (h : wardF v = 0) : chF [] v.ch = 0 ∧ tmF 0 v.tm = 0 ∧ v.ch.length ≤ 20 ∧ v.tm.length ≤ 50 ∧ (1 ≤ v.how ∧ v.how ≤ 3) ∧ (0 ≤ v.most ∧ v.most ≤ 50) ∧ 1 ≤ v.win ∧ v.win ≤ 1099511627776 := by
  unfold wardF at h
  split at h
  · cases h
  · split at h
    · cases h
    · split at h
      · exact ⟨by assumption, h, by omega, by omega, by omega, by omega, by omega, by omega⟩
      · exact absurd h (by assumption)
end Go.Proofs.Ytcmkkfpcdebfkaa
