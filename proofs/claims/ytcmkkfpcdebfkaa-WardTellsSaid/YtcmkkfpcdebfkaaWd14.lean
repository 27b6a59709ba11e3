/-
  A fall, whatever is handed in (ward.Down).
-/
import Derived.Test.YtcmkkfpcdebfkaaWd13
namespace Go.Proofs.Ytcmkkfpcdebfkaa
open Go.RowKit

theorem fallV_quiet {v : Wd} {i : Nat} {failed : Bool} (now : Int) (h : quietB (v.ch.getD i (0, 0, false)) failed = true) :
    fallV v i failed now = (⟨v.how, v.most, v.win, v.ch.set i (deadC (v.ch.getD i (0, 0, false))), v.tm⟩, pl0) := by
  unfold fallV childAt
  dsimp only
  rw [if_pos h]
  rfl
theorem stopL_all (l : List Ch) (n : Nat) (h : n = l.length) : stopL 0 n l = (l.map deadC, (liveIds l).reverse) := by
  subst h
  rw [stopL_seg _ _ _ (by omega)]
  simp
theorem fallV_gave {v : Wd} {i : Nat} {failed : Bool} {now : Int} (h : quietB (v.ch.getD i (0, 0, false)) failed = false) (h2 : v.most ≤ (keptT v now).length) :
    fallV v i failed now = (⟨v.how, v.most, v.win, (stopL 0 v.ch.length (v.ch.set i (deadC (v.ch.getD i (0, 0, false))))).1, keptT v now⟩, (stopL 0 v.ch.length (v.ch.set i (deadC (v.ch.getD i (0, 0, false))))).2, [], true) := by
  unfold fallV childAt
  dsimp only
  rw [if_neg (by rw [h]; decide), if_pos h2, stopL_all _ _ (by simp)]
theorem fallV_again {v : Wd} {i : Nat} {failed : Bool} {now : Int} (hi : i < v.ch.length) (h : quietB (v.ch.getD i (0, 0, false)) failed = false) (h2 : ¬ v.most ≤ (keptT v now).length) :
    fallV v i failed now = (⟨v.how, v.most, v.win, v.ch, keptT v now ++ [now]⟩, (stopL (rngF v.how i) (rngN v.how i v.ch.length) (v.ch.set i (deadC (v.ch.getD i (0, 0, false))))).2, liveIds ((v.ch.drop (rngF v.how i)).take (rngN v.how i v.ch.length)), false) := by
  have hr := rng_le v.how hi
  unfold fallV childAt
  dsimp only
  rw [if_neg (by rw [h]; decide), if_neg h2, stopL_seg _ _ _ (by rw [List.length_set]; exact hr.2.2)]
theorem downW (x : WA) (v : Wd) (id : Int) (failed : Bool) (now : Int) (W : World) (h : WIn W x v) :
    Calls Try.prog 118 #[wardV x v, .int .i64 id, .bool failed, .int .i64 now] W (FallPost (fallQ v id failed now) (fallE v id now) W) := by
  by_cases he : fallE v id now = 0
  · obtain ⟨i, hi⟩ := fallOk_of he
    rw [fallQ_ok he hi.idx, he]
    cases hq : quietB (v.ch.getD i (0, 0, false)) failed with
    | true =>
      rw [fallV_quiet now hq]
      exact downW_quiet x v id failed now W i h hi hq
    | false =>
      by_cases hm : v.most ≤ (keptT v now).length
      · rw [fallV_gave hq hm]
        exact downW_gave x v id failed now W i h hi hq hm
      · rw [fallV_again hi.lt hq hm]
        exact downW_again x v id failed now W i h hi hq hm
  · rw [fallQ_bad failed he]
    exact downW_bad x v id failed now W h he

/-- A fall: child, failed, time. -/
abbrev Fl := Int × Bool × Int
/-- Falls one after the other. -/
def playF (v : Wd) : List Fl → Int × Wd × List PlV
  | [] => (0, v, [])
  | f :: r =>
    if fallE v f.1 f.2.2 ≠ 0 then (fallE v f.1 f.2.2, wd0, [])
    else if (fallQ v f.1 f.2.1 f.2.2).2.2.2 = true then (0, (fallQ v f.1 f.2.1 f.2.2).1, [(fallQ v f.1 f.2.1 f.2.2).2])
    else if (playF (fallQ v f.1 f.2.1 f.2.2).1 r).1 ≠ 0 then ((playF (fallQ v f.1 f.2.1 f.2.2).1 r).1, wd0, [])
    else (0, (playF (fallQ v f.1 f.2.1 f.2.2).1 r).2.1, (fallQ v f.1 f.2.1 f.2.2).2 :: (playF (fallQ v f.1 f.2.1 f.2.2).1 r).2.2)
theorem playF_bad {v : Wd} {f : Fl} (r : List Fl) (h : fallE v f.1 f.2.2 ≠ 0) : playF v (f :: r) = (fallE v f.1 f.2.2, wd0, []) := by
  rw [playF, if_pos h]
theorem playF_gave {v : Wd} {f : Fl} (r : List Fl) (h : fallE v f.1 f.2.2 = 0) (h2 : (fallQ v f.1 f.2.1 f.2.2).2.2.2 = true) : playF v (f :: r) = (0, (fallQ v f.1 f.2.1 f.2.2).1, [(fallQ v f.1 f.2.1 f.2.2).2]) := by
  rw [playF, if_neg (by rw [h]; decide), if_pos h2]
theorem playF_next {v : Wd} {f : Fl} (r : List Fl) (h : fallE v f.1 f.2.2 = 0) (h2 : (fallQ v f.1 f.2.1 f.2.2).2.2.2 = false) : playF v (f :: r) =
    if (playF (fallQ v f.1 f.2.1 f.2.2).1 r).1 ≠ 0 then ((playF (fallQ v f.1 f.2.1 f.2.2).1 r).1, wd0, [])
    else (0, (playF (fallQ v f.1 f.2.1 f.2.2).1 r).2.1, (fallQ v f.1 f.2.1 f.2.2).2 :: (playF (fallQ v f.1 f.2.1 f.2.2).1 r).2.2) := by
  rw [playF, if_neg (by rw [h]; decide), if_neg (by rw [h2]; decide)]
/-- What went before is put ahead. -/
def ahead (out : List PlV) (p : Int × Wd × List PlV) : Int × Wd × List PlV := if p.1 ≠ 0 then (p.1, wd0, []) else (0, p.2.1, out ++ p.2.2)
theorem ahead_nil (v : Wd) (out : List PlV) : ahead out (playF v []) = (0, v, out) := by simp [ahead, playF]
theorem ahead_bad {v : Wd} {f : Fl} (out : List PlV) (r : List Fl) (h : fallE v f.1 f.2.2 ≠ 0) : ahead out (playF v (f :: r)) = (fallE v f.1 f.2.2, wd0, []) := by
  rw [playF_bad r h, ahead, if_pos h]
theorem ahead_gave {v : Wd} {f : Fl} (out : List PlV) (r : List Fl) (h : fallE v f.1 f.2.2 = 0) (h2 : (fallQ v f.1 f.2.1 f.2.2).2.2.2 = true) : ahead out (playF v (f :: r)) = (0, (fallQ v f.1 f.2.1 f.2.2).1, out ++ [(fallQ v f.1 f.2.1 f.2.2).2]) := by
  rw [playF_gave r h h2]
  simp [ahead]
theorem ahead_next {v : Wd} {f : Fl} (out : List PlV) (r : List Fl) (h : fallE v f.1 f.2.2 = 0) (h2 : (fallQ v f.1 f.2.1 f.2.2).2.2.2 = false) : ahead out (playF v (f :: r)) = ahead (out ++ [(fallQ v f.1 f.2.1 f.2.2).2]) (playF (fallQ v f.1 f.2.1 f.2.2).1 r) := by
  rw [playF_next r h h2]
  generalize playF (fallQ v f.1 f.2.1 f.2.2).1 r = p
  by_cases h3 : p.1 = 0
  · rw [if_neg (by rw [h3]; decide)]
    simp [ahead, h3]
  · rw [if_pos h3]
    simp [ahead, h3]
theorem playF_form : ∀ (l : List Fl) (v : Wd), (playF v l).1 ≠ 0 → playF v l = ((playF v l).1, wd0, [])
  | [], v, h => by simp [playF] at h
  | f :: r, v, h => by
    by_cases h1 : fallE v f.1 f.2.2 = 0
    · cases h2 : (fallQ v f.1 f.2.1 f.2.2).2.2.2 with
      | true => rw [playF_gave r h1 h2] at h; exact absurd rfl h
      | false =>
        rw [playF_next r h1 h2] at h ⊢
        generalize playF (fallQ v f.1 f.2.1 f.2.2).1 r = p at *
        by_cases h3 : p.1 = 0
        · rw [if_neg (by rw [h3]; decide)] at h
          exact absurd rfl h
        · rw [if_pos h3]
    · rw [playF_bad r h1]
theorem ahead_zero (v : Wd) (l : List Fl) : ahead [] (playF v l) = playF v l := by
  unfold ahead
  by_cases h : (playF v l).1 = 0
  · rw [if_neg (by rw [h]; decide)]
    simp [← h]
  · rw [if_pos h]
    exact (playF_form l v h).symm
/-- What Play makes. -/
def playQ (v : Wd) (l : List Fl) : Int × Wd × List PlV := if wardF v ≠ 0 then (wardF v, wd0, []) else if 50 < l.length then (2, wd0, []) else playF v l

theorem chF_ids : ∀ (l m pre pre' : List Ch), l.map (fun x => (x.1, x.2.1)) = m.map (fun x => (x.1, x.2.1)) → pre.map (·.1) = pre'.map (·.1) → chF pre l = chF pre' m
  | [], [], _, _, _, _ => rfl
  | [], y :: m, _, _, h, _ => by cases h
  | x :: l, [], _, _, h, _ => by cases h
  | x :: l, y :: m, pre, pre', h, hp => by
    simp only [List.map_cons, List.cons.injEq, Prod.mk.injEq] at h
    obtain ⟨⟨e1, e2⟩, h3⟩ := h
    have ea : pre.any (isId x.1) = pre'.any (isId y.1) := by
      rw [e1]
      have : ∀ q : List Ch, q.any (isId y.1) = (q.map (·.1)).any (fun z => z == y.1) := fun q => by rw [List.any_map]; rfl
      rw [this, this, hp]
    unfold chF
    rw [e2, ea, chF_ids l m (pre ++ [x]) (pre' ++ [y]) h3 (by simp [hp, e1])]
theorem tmF_app : ∀ (l : List Int) (a b : Int), tmF a l = 0 → l.getLast?.getD a ≤ b → b ≤ 1099511627776 → tmF a (l ++ [b]) = 0
  | [], a, b, _, h, h2 => by
    simp at h
    simp [tmF]
    omega
  | t :: r, a, b, ht, h, h2 => by
    unfold tmF at ht
    split at ht
    · cases ht
    · rename_i hn
      rw [List.getLast?_cons] at h
      rw [List.cons_append]
      unfold tmF
      rw [if_neg hn]
      exact tmF_app r t b ht (by simpa using h) h2
theorem tmF_filter (p : Int → Bool) : ∀ (l : List Int) (a b : Int), b ≤ a → tmF a l = 0 → tmF b (l.filter p) = 0 ∧ (l.filter p).getLast?.getD b ≤ l.getLast?.getD a
  | [], a, b, hb, _ => by simp [tmF, hb]
  | t :: r, a, b, hb, ht => by
    unfold tmF at ht
    split at ht
    · cases ht
    · rename_i hn
      by_cases hp : p t = true
      · rw [List.filter_cons_of_pos hp]
        have ih := tmF_filter p r t t (Int.le_refl _) ht
        refine ⟨?_, ?_⟩
        · unfold tmF
          rw [if_neg (by omega)]
          exact ih.1
        · rw [List.getLast?_cons, List.getLast?_cons]
          simpa using ih.2
      · rw [List.filter_cons_of_neg hp]
        have ih := tmF_filter p r t b (by omega) ht
        refine ⟨ih.1, ?_⟩
        rw [List.getLast?_cons]
        simpa using ih.2
theorem wardF_of {v : Wd} (h1 : chF [] v.ch = 0) (h2 : tmF 0 v.tm = 0) (h3 : v.ch.length ≤ 20) (h4 : v.tm.length ≤ 50) (h5 : 1 ≤ v.how ∧ v.how ≤ 3) (h6 : 0 ≤ v.most ∧ v.most ≤ 50) (h7 : 1 ≤ v.win) (h8 : v.win ≤ 1099511627776) : wardF v = 0 := by
  unfold wardF
  rw [if_neg (by omega), if_neg (by omega), if_pos h1]
  exact h2
theorem ids_set {l : List Ch} {i : Nat} (hi : i < l.length) (b : Bool) : (l.set i ((l.getD i (0, 0, false)).1, (l.getD i (0, 0, false)).2.1, b)).map (fun x => (x.1, x.2.1)) = l.map (fun x => (x.1, x.2.1)) := by
  apply List.ext_getElem?
  intro j
  rw [List.getElem?_map, List.getElem?_map, List.getElem?_set]
  split
  · rename_i e
    subst e
    rw [getD_some (0, 0, false) hi]
    rfl
  · rfl
/-- A supervisor that was right is right after a fall. -/
theorem fallQ_right {v : Wd} {id : Int} {failed : Bool} {now : Int} (he : fallE v id now = 0) : wardF (fallQ v id failed now).1 = 0 := by
  obtain ⟨i, hi⟩ := fallOk_of he
  obtain ⟨h1, h2, h3, h4, h5, h6, h7, h8⟩ := wardF_zero hi.right
  have hc1 : chF [] (v.ch.set i (deadC (v.ch.getD i (0, 0, false)))) = 0 :=
    (chF_ids _ _ [] [] (ids_set hi.lt false) rfl).trans h1
  have hk := tmF_filter (fun t => !decide (t ≤ now - v.win)) v.tm 0 0 (Int.le_refl _) h2
  have hkl : (keptT v now).length ≤ v.tm.length := List.length_filter_le _ _
  rw [fallQ_ok he hi.idx]
  cases hq : quietB (v.ch.getD i (0, 0, false)) failed with
  | true =>
    rw [fallV_quiet now hq]
    exact wardF_of hc1 h2 (by rw [List.length_set]; exact h3) h4 h5 h6 h7 h8
  | false =>
    by_cases hm : v.most ≤ (keptT v now).length
    · unfold fallV childAt
      dsimp only
      rw [if_neg (by rw [hq]; decide), if_pos hm]
      refine wardF_of ?_ hk.1 (by simpa using h3) (by dsimp only; omega) h5 h6 h7 h8
      dsimp only
      refine (chF_ids _ _ [] [] ?_ rfl).trans hc1
      rw [List.map_map]
      rfl
    · rw [fallV_again hi.lt hq hm]
      refine wardF_of h1 (tmF_app _ _ _ hk.1 (Int.le_trans hk.2 hi.t1) hi.t2) h3 ?_ h5 h6 h7 h8
      dsimp only
      rw [List.length_append]
      simp only [List.length_cons, List.length_nil]
      omega
end Go.Proofs.Ytcmkkfpcdebfkaa
