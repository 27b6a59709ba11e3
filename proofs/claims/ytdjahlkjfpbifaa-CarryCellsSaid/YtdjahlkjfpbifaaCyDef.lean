
/-
  Values copied between heaps: the plain law (carry.Over, roadref3.Carried).
-/
import Derived.Test.YtdjahlkjfpbifaaBdRead
import Derived.Test.YtdjahlkjfpbifaaRdF
namespace Go.Proofs.Ytdjahlkjfpbifaa
open Go.RowKit

/-- What copying has come to: the other heap, what stands for what was copied, the cells that went. -/
structure CSt where
  h : List Nat
  mv : Int → Option Nat
  cs : List Int
def foldC (f : Nat → CSt → Except Int (Nat × CSt)) : List Nat → CSt → Except Int (List Nat × CSt)
  | [], s => .ok ([], s)
  | p :: r, s => match f p s with
    | .error e => .error e
    | .ok (x, s') => match foldC f r s' with
      | .error e => .error e
      | .ok (xs, s'') => .ok (x :: xs, s'')
/-- An object put: the word of its copy. -/
def putC (s : CSt) (n : Int) (o : Ob) : Except Int (Nat × CSt) :=
  if 4000 < s.h.length + (wordsF o).length then .error 6
  else .ok (8 * s.h.length + 4, ⟨s.h ++ wordsF o, fun y => if y = n then some (8 * s.h.length + 4) else s.mv y, if o.kind = 5 ∧ 0 < o.parts.length then s.cs ++ [n] else s.cs⟩)
def withP (o : Ob) (ps : List Nat) : Ob := ⟨o.at_, o.kind, o.num, o.text, ps⟩
/-- One step; f copies the parts. -/
def carStep (g : List Nat) (f : Nat → CSt → Except Int (Nat × CSt)) (deep : Bool) (u : Nat) (s : CSt) : Except Int (Nat × CSt) :=
  if readB (u : Int) = false then .error 3
  else if (u : Int) % 8 ≠ 4 then .ok (u, s)
  else match s.mv (readN (u : Int)) with
    | some c => .ok (c, s)
    | none => if deep = true then .error 2
      else if (rdF g (readN (u : Int))).2.2 ≠ 0 then .error (rdF g (readN (u : Int))).2.2
      else match foldC f (rdF g (readN (u : Int))).1.parts s with
        | .error e => .error e
        | .ok (ps, s') => putC s' (readN (u : Int)) (withP (rdF g (readN (u : Int))).1 ps)
def carF (g : List Nat) : Nat → Nat → CSt → Except Int (Nat × CSt)
  | 0 => carStep g (fun _ _ => .error 2) true
  | d + 1 => carStep g (carF g d) false
theorem carF_zero (g : List Nat) : carF g 0 = carStep g (fun _ _ => .error 2) true := rfl
theorem carF_succ (g : List Nat) (d : Nat) : carF g (d + 1) = carStep g (carF g d) false := rfl

/-- How far one has come with the parts. -/
def FoldCSt (f : Nat → CSt → Except Int (Nat × CSt)) (s : CSt) (us : List Nat) (j : Nat) (sj : CSt) (xs : List Nat) : Prop :=
  xs.length = j ∧ j ≤ us.length ∧ foldC f us s = match foldC f (us.drop j) sj with
    | .error e => .error e
    | .ok (r, s') => .ok (xs ++ r, s')
theorem FoldCSt.nil (f : Nat → CSt → Except Int (Nat × CSt)) (s : CSt) (us : List Nat) : FoldCSt f s us 0 s [] := by
  refine ⟨rfl, Nat.zero_le _, ?_⟩
  rw [List.drop_zero]
  rcases foldC f us s with e | ⟨r, s'⟩ <;> rfl
theorem foldC_drop {f : Nat → CSt → Except Int (Nat × CSt)} {s : CSt} {us : List Nat} {j : Nat} (hj : j < us.length) : foldC f (us.drop j) s = match f (us.getD j 0) s with
    | .error e => .error e
    | .ok (x, s') => match foldC f (us.drop (j + 1)) s' with
      | .error e => .error e
      | .ok (xs, s'') => .ok (x :: xs, s'') := by
  rw [List.drop_eq_getElem_cons hj, List.getD_eq_getElem?_getD, List.getElem?_eq_getElem hj]
  rfl
theorem FoldCSt.fail {f : Nat → CSt → Except Int (Nat × CSt)} {s sj : CSt} {us : List Nat} {j : Nat} {xs : List Nat} {e : Int} (h : FoldCSt f s us j sj xs) (hlt : j < us.length) (he : f (us.getD j 0) sj = .error e) : foldC f us s = .error e := by
  rw [h.2.2, foldC_drop hlt, he]
theorem FoldCSt.step {f : Nat → CSt → Except Int (Nat × CSt)} {s sj s' : CSt} {us : List Nat} {j : Nat} {xs : List Nat} {x : Nat} (h : FoldCSt f s us j sj xs) (hlt : j < us.length) (he : f (us.getD j 0) sj = .ok (x, s')) : FoldCSt f s us (j + 1) s' (xs ++ [x]) := by
  refine ⟨by rw [List.length_append, h.1]; rfl, hlt, ?_⟩
  rw [h.2.2, foldC_drop hlt, he]
  dsimp only
  rcases foldC f (us.drop (j + 1)) s' with e | ⟨r, s''⟩
  · rfl
  · simp
theorem FoldCSt.done {f : Nat → CSt → Except Int (Nat × CSt)} {s sj : CSt} {us : List Nat} {j : Nat} {xs : List Nat} (h : FoldCSt f s us j sj xs) (hj' : us.length ≤ j) : foldC f us s = .ok (xs, sj) := by
  rw [h.2.2, List.drop_eq_nil_of_le hj']
  simp [foldC]

/-- What holds of every state: words are words, cells are cells. -/
structure CInv (g : List Nat) (s : CSt) : Prop where
  len : s.h.length ≤ 4000
  fit : ∀ x ∈ s.h, x < 18446744073709551616
  mvf : ∀ n c, s.mv n = some c → c < 18446744073709551616
  cells : ∀ n ∈ s.cs, ∃ k : Nat, n = k ∧ k + 1 < g.length ∧ g.getD k 0 % 8 = 5 ∧ g.getD (k + 1) 0 % 8 ≠ 5
  cnt : s.cs.length ≤ s.h.length

theorem le8_fit (t : List UInt8) : ∀ x ∈ packs t, x < 18446744073709551616 := by
  intro x hx
  unfold packs at hx
  rw [List.mem_map] at hx
  obtain ⟨k, _, rfl⟩ := hx
  have h1 := le8_lt ((t.drop (8 * k)).take 8)
  have h2 : ((t.drop (8 * k)).take 8).length ≤ 8 := by simp; omega
  have h3 : 256 ^ ((t.drop (8 * k)).take 8).length ≤ 256 ^ 8 := Nat.pow_le_pow_right (by decide) h2
  have h4 : (256 : Nat) ^ 8 = 18446744073709551616 := by decide
  omega
theorem wordsF_fit {o : Ob} (h : OkO o) (hp : ∀ x ∈ o.parts, x < 18446744073709551616) : ∀ x ∈ wordsF o, x < 18446744073709551616 := by
  intro x hx
  unfold wordsF at hx
  rw [List.mem_cons, List.mem_append, List.mem_append] at hx
  rcases hx with rfl | (hx | hx) | hx
  · have := headW_lt h; omega
  · unfold numW at hx
    split at hx
    · rw [List.mem_singleton] at hx
      subst hx
      omega
    · cases hx
  · exact le8_fit _ x hx
  · exact hp x hx
theorem withP_ok {o : Ob} (h : OkO o) {ps : List Nat} (hl : ps.length = o.parts.length) : OkO (withP o ps) := by
  unfold OkO at h ⊢
  unfold withP
  dsimp only
  rw [hl]
  exact h

theorem foldC_len {f : Nat → CSt → Except Int (Nat × CSt)} : ∀ (us : List Nat) (s : CSt) (xs : List Nat) (s' : CSt), foldC f us s = .ok (xs, s') → xs.length = us.length
  | [], s, xs, s', e => by
    injection e with e
    injection e with e1 e2
    rw [← e1]
  | u :: r, s, xs, s', e => by
    unfold foldC at e
    rcases h1 : f u s with e1 | ⟨x, s1⟩
    · rw [h1] at e; cases e
    · rw [h1] at e
      dsimp only at e
      rcases h2 : foldC f r s1 with e2 | ⟨ys, s2⟩
      · rw [h2] at e; cases e
      · rw [h2] at e
        injection e with e
        injection e with e1 e2
        subst e1
        simp [foldC_len r s1 ys s2 h2]
def CGood (g : List Nat) (f : Nat → CSt → Except Int (Nat × CSt)) : Prop :=
  ∀ u s x s', u < 18446744073709551616 → CInv g s → f u s = .ok (x, s') → x < 18446744073709551616 ∧ CInv g s' ∧ readB (u : Int) = true
theorem foldC_good {g : List Nat} {f : Nat → CSt → Except Int (Nat × CSt)} (hf : CGood g f) : ∀ (us : List Nat) (s : CSt) (xs : List Nat) (s' : CSt), (∀ u ∈ us, u < 18446744073709551616) → CInv g s → foldC f us s = .ok (xs, s') → (∀ x ∈ xs, x < 18446744073709551616) ∧ CInv g s' ∧ ∀ u ∈ us, readB (u : Int) = true
  | [], s, xs, s', _, hi, e => by
    injection e with e
    injection e with e1 e2
    subst e1 e2
    exact ⟨(fun x hx => by cases hx), hi, (fun u hu => by cases hu)⟩
  | u :: r, s, xs, s', hu, hi, e => by
    unfold foldC at e
    rcases h1 : f u s with e1 | ⟨x, s1⟩
    · rw [h1] at e; cases e
    · rw [h1] at e
      dsimp only at e
      rcases h2 : foldC f r s1 with e2 | ⟨ys, s2⟩
      · rw [h2] at e; cases e
      · rw [h2] at e
        injection e with e
        injection e with e1 e2
        subst e1 e2
        obtain ⟨a1, a2, a4⟩ := hf u s x s1 (hu u List.mem_cons_self) hi h1
        obtain ⟨b1, b2, b4⟩ := foldC_good hf r s1 ys s2 (fun v hv => hu v (List.mem_cons_of_mem _ hv)) a2 h2
        refine ⟨fun y hy => ?_, b2, fun v hv => ?_⟩
        · rcases List.mem_cons.1 hy with rfl | hy
          · exact a1
          · exact b1 y hy
        · rcases List.mem_cons.1 hv with rfl | hv
          · exact a4
          · exact b4 v hv
def CErr (f : Nat → CSt → Except Int (Nat × CSt)) : Prop := ∀ u s e, f u s = .error e → e ≠ 0
theorem foldC_err {f : Nat → CSt → Except Int (Nat × CSt)} (hf : CErr f) : ∀ (us : List Nat) (s : CSt) (e : Int), foldC f us s = .error e → e ≠ 0
  | [], s, e, h => by cases h
  | u :: r, s, e, h => by
    unfold foldC at h
    rcases h1 : f u s with e1 | ⟨x, s1⟩
    · rw [h1] at h
      injection h with h
      subst h
      exact hf u s _ h1
    · rw [h1] at h
      dsimp only at h
      rcases h2 : foldC f r s1 with e2 | ⟨ys, s2⟩
      · rw [h2] at h
        injection h with h
        subst h
        exact foldC_err hf r s1 _ h2
      · rw [h2] at h; cases h
/-- A word that can be read has a tag of at most four. -/
theorem readB_tag {u : Nat} (h : readB (u : Int) = true) : u % 8 ≠ 5 := by
  unfold readB at h
  intro e
  have e2 : (u : Int) % 8 = 5 := by omega
  rw [e2] at h
  simp at h
theorem progF_words {h : List Nat} {p : Nat} {o : Ob} (e : progF h p = some o) : (h.drop p).take (wordsF o).length = wordsF o := by
  unfold progF at e
  split at e
  · cases e
  · split at e
    · rename_i h1 h2
      injection e with e
      subst e
      exact h2.2
    · cases e
theorem rdF_ok' {h : List Nat} {p : Int} (e : (rdF h p).2.2 = 0) : OkO (rdF h p).1 := by
  unfold rdF at *
  by_cases hp : p < 0 ∨ (h.length : Int) ≤ p
  · rw [if_pos hp] at e
    cases e
  · rw [if_neg hp] at e ⊢
    cases ho : progF h p.toNat with
    | none =>
      rw [ho] at e
      cases e
    | some o => exact (progF_ok ho).1
/-- A cell with a part stands as two words. -/
theorem cell_words {g : List Nat} {n : Int} {o : Ob} (h : (rdF g n).2.2 = 0) (ho : (rdF g n).1 = o) (hk : o.kind = 5) (hp : 0 < o.parts.length) : ∃ k : Nat, n = k ∧ k + 1 < g.length ∧ g.getD k 0 % 8 = 5 ∧ g.getD (k + 1) 0 = o.parts.getD 0 0 := by
  unfold rdF at h ho
  by_cases hn : n < 0 ∨ (g.length : Int) ≤ n
  · rw [if_pos hn] at h; cases h
  · rw [if_neg hn] at h ho
    cases hq : progF g n.toNat with
    | none => rw [hq] at h; cases h
    | some q =>
      rw [hq] at ho
      dsimp only at ho
      subst ho
      obtain ⟨ok, hl, hat⟩ := progF_ok hq
      have hl1 : q.parts.length = 1 := by
        have := ok.2.2.2.2.2.1 hk
        omega
      have ht : q.text.length = 0 := by
        rcases ok.2.2.2.2.2.2.1 with h1 | h1 | h1 <;> omega
      have htn : q.text = [] := List.eq_nil_of_length_eq_zero ht
      have hnum : numW q = [] := by unfold numW isNum; rw [hk]; rfl
      obtain ⟨p, hpp⟩ : ∃ p, q.parts = [p] := List.length_eq_one_iff.1 hl1
      have hw : wordsF q = [headW q, p] := by unfold wordsF; rw [hnum, htn, hpp]; rfl
      have hw2 : (g.drop n.toNat).take 2 = [headW q, p] := by
        have := progF_words hq
        rw [hw] at this
        exact this
      have hl2 : n.toNat + 1 < g.length := by rw [hw] at hl; simp at hl; omega
      have g0 : g.getD n.toNat 0 = headW q := by
        have := congrArg (fun l => l.getD 0 0) hw2
        simpa [List.getD_eq_getElem?_getD, List.getElem?_take, List.getElem?_drop] using this
      have g1 : g.getD (n.toNat + 1) 0 = p := by
        have := congrArg (fun l => l.getD 1 0) hw2
        simpa [List.getD_eq_getElem?_getD, List.getElem?_take, List.getElem?_drop] using this
      refine ⟨n.toNat, by omega, hl2, ?_, ?_⟩
      · rw [g0]
        unfold headW
        rw [hk, ht, hl1]
        rfl
      · rw [g1, hpp]
        rfl

theorem putC_good {g : List Nat} {s s' : CSt} {n : Int} {o : Ob} {ps : List Nat} {x : Nat} (h : (rdF g n).2.2 = 0) (ho : (rdF g n).1 = o) (hl : ps.length = o.parts.length) (hf : ∀ x ∈ ps, x < 18446744073709551616) (hr : ∀ u ∈ o.parts, readB (u : Int) = true) (hi : CInv g s)
    (e : putC s n (withP o ps) = .ok (x, s')) : x < 18446744073709551616 ∧ CInv g s' := by
  have hok : OkO o := by rw [← ho]; exact rdF_ok' h
  unfold putC at e
  by_cases h1 : 4000 < s.h.length + (wordsF (withP o ps)).length
  · rw [if_pos h1] at e; cases e
  · rw [if_neg h1] at e
    injection e with e
    injection e with e1 e2
    have hlen := hi.len
    have hpos := wordsF_pos (withP o ps)
    subst e1 e2
    refine ⟨by omega, ⟨by rw [List.length_append]; omega, fun y hy => ?_, fun m c hm => ?_, fun m hm => ?_, ?_⟩⟩
    · rcases List.mem_append.1 hy with hy | hy
      · exact hi.fit y hy
      · exact wordsF_fit (withP_ok hok hl) hf y hy
    · dsimp only at hm
      by_cases hmn : m = n
      · rw [if_pos hmn] at hm
        injection hm with hm
        omega
      · rw [if_neg hmn] at hm
        exact hi.mvf m c hm
    · dsimp only at hm
      by_cases hc : (withP o ps).kind = 5 ∧ 0 < (withP o ps).parts.length
      · rw [if_pos hc] at hm
        rcases List.mem_append.1 hm with hm | hm
        · exact hi.cells m hm
        · obtain rfl : m = n := by simpa using hm
          have hop : 0 < o.parts.length := by rw [← hl]; exact hc.2
          obtain ⟨k, hk1, hk2, hk3, hk4⟩ := cell_words h ho hc.1 hop
          refine ⟨k, hk1, hk2, hk3, ?_⟩
          rw [hk4]
          exact readB_tag (hr _ (getD_mem 0 hop))
      · rw [if_neg hc] at hm
        exact hi.cells m hm
    · dsimp only
      have := hi.cnt
      rw [List.length_append]
      split
      · rw [List.length_append]
        simp only [List.length_cons, List.length_nil]
        omega
      · omega
theorem carStep_good {g : List Nat} {f : Nat → CSt → Except Int (Nat × CSt)} {deep : Bool} (hg : ∀ x ∈ g, x < 18446744073709551616) (hf : CGood g f) : CGood g (carStep g f deep) := by
  intro u s x s' hu hi e
  unfold carStep at e
  cases hrb : readB (u : Int) with
  | false => rw [hrb, if_pos rfl] at e; cases e
  | true =>
    rw [hrb, if_neg (by decide)] at e
    by_cases h4 : (u : Int) % 8 ≠ 4
    · rw [if_pos h4] at e
      injection e with e
      injection e with e1 e2
      subst e1 e2
      exact ⟨hu, hi, rfl⟩
    · rw [if_neg h4] at e
      cases hm : s.mv (readN (u : Int)) with
      | some c =>
        rw [hm] at e
        injection e with e
        injection e with e1 e2
        subst e1 e2
        exact ⟨hi.mvf _ _ hm, hi, rfl⟩
      | none =>
        rw [hm] at e
        dsimp only at e
        cases deep with
        | true => rw [if_pos rfl] at e; cases e
        | false =>
          rw [if_neg (by decide)] at e
          by_cases h5 : (rdF g (readN (u : Int))).2.2 ≠ 0
          · rw [if_pos h5] at e; cases e
          · rw [if_neg h5] at e
            have h5' : (rdF g (readN (u : Int))).2.2 = 0 := by simpa using h5
            rcases h6 : foldC f (rdF g (readN (u : Int))).1.parts s with e2 | ⟨ps, s1⟩
            · rw [h6] at e; cases e
            · rw [h6] at e
              dsimp only at e
              obtain ⟨b1, b2, b3⟩ := foldC_good hf _ s ps s1 (parts_fit hg) hi h6
              have := putC_good h5' rfl (foldC_len _ _ _ _ h6) b1 b3 b2 e
              exact ⟨this.1, this.2, rfl⟩
theorem carF_good {g : List Nat} (hg : ∀ x ∈ g, x < 18446744073709551616) : ∀ d, CGood g (carF g d)
  | 0 => by
    rw [carF_zero]
    exact carStep_good hg (fun _ _ _ _ _ _ e => by cases e)
  | d + 1 => by
    rw [carF_succ]
    exact carStep_good hg (carF_good hg d)
theorem carStep_err {g : List Nat} {f : Nat → CSt → Except Int (Nat × CSt)} {deep : Bool} (hf : CErr f) : CErr (carStep g f deep) := by
  intro u s e h
  unfold carStep at h
  split at h
  · injection h with h; omega
  · split at h
    · cases h
    · split at h
      · cases h
      · split at h
        · injection h with h; omega
        · split at h
          · rename_i h5
            injection h with h
            rw [← h]
            exact h5
          · split at h
            · rename_i e2 h6
              injection h with h
              subst h
              exact foldC_err hf _ _ _ h6
            · unfold putC at h
              split at h
              · injection h with h; omega
              · cases h
theorem carF_err (g : List Nat) : ∀ d, CErr (carF g d)
  | 0 => by
    rw [carF_zero]
    exact carStep_err (fun _ _ e h => by injection h with h; omega)
  | d + 1 => by
    rw [carF_succ]
    exact carStep_err (carF_err g d)

/-- A heap with the numbers where cells went: at each such place the words 1 and 0. -/
def stampF (P : Int → Bool) (g : List Nat) : List Nat := (List.range g.length).map fun i : Nat => if P (i : Int) = true then 1 else if P ((i : Int) - 1) = true then 0 else g.getD i 0
theorem stampF_len (P : Int → Bool) (g : List Nat) : (stampF P g).length = g.length := by simp [stampF]
theorem stampF_get (P : Int → Bool) (g : List Nat) {i : Nat} (hi : i < g.length) : (stampF P g).getD i 0 = if P (i : Int) = true then 1 else if P ((i : Int) - 1) = true then 0 else g.getD i 0 := by
  unfold stampF
  rw [List.getD_eq_getElem?_getD, List.getElem?_map, List.getElem?_range hi]
  rfl
theorem stampF_none (g : List Nat) : stampF (fun _ => false) g = g := by
  apply List.ext_getElem
  · exact stampF_len _ g
  · intro i h1 h2
    simp [stampF, List.getD_eq_getElem?_getD, List.getElem?_eq_getElem h2]
theorem stampF_add {P Q : Int → Bool} {g : List Nat} {k : Nat} (hn : P ((k : Int) + 1) = false) (hq : ∀ z, Q z = (P z || z == (k : Int))) : ((stampF P g).set k 1).set (k + 1) 0 = stampF Q g := by
  apply List.ext_getElem
  · simp [stampF_len]
  · intro i h1 h2
    have hi : i < g.length := by rw [stampF_len] at h2; exact h2
    rw [List.getElem_set, List.getElem_set]
    simp only [stampF, List.getElem_map, List.getElem_range]
    rw [hq, hq]
    by_cases e1 : k + 1 = i
    · subst e1
      rw [if_pos rfl]
      have e2 : (((k + 1 : Nat) : Int) == (k : Int)) = false := by simp; omega
      have e3 : (((k + 1 : Nat) : Int) - 1 == (k : Int)) = true := by simp
      have e4 : P ((k + 1 : Nat) : Int) = false := by rw [← hn]; rfl
      rw [e2, e3, e4]
      simp
    · rw [if_neg e1]
      by_cases e5 : k = i
      · subst e5
        rw [if_pos rfl]
        simp
      · rw [if_neg e5]
        have e2 : ((i : Int) == (k : Int)) = false := by simp; omega
        have e3 : ((i : Int) - 1 == (k : Int)) = false := by simp; omega
        rw [e2, e3, Bool.or_false, Bool.or_false]
theorem stampF_congr {P Q : Int → Bool} (g : List Nat) (h : ∀ z, P z = Q z) : stampF P g = stampF Q g := by
  rw [show P = Q from funext h]
/-- Two cells never stand side by side. -/
theorem CInv.apart {g : List Nat} {s : CSt} (h : CInv g s) {n m : Int} (hn : n ∈ s.cs) (hm : m ∈ s.cs) : m ≠ n + 1 := by
  rintro rfl
  obtain ⟨k, e1, _, _, e2⟩ := h.cells n hn
  obtain ⟨j, e3, _, e4, _⟩ := h.cells _ hm
  have : j = k + 1 := by omega
  rw [this] at e4
  exact e2 e4
end Go.Proofs.Ytdjahlkjfpbifaa
