
/-
  The levels of a marking are the reference's numbers of steps (plain law).
-/
import Derived.Test.YtbhdagjilmgahaaKnDef
namespace Go.Proofs.Ytbhdagjilmgahaa
open Go.RowKit

def rfK (K : List KnC) (j : Nat) : Int := (K.getD j knc0).ref
def rsK (K : List KnC) (j : Nat) : List Int := (K.getD j knc0).refs
theorem setK_len (K : List KnC) (d : Int) (i : Nat) (out : List Int) (k : Nat) : (setK K d i out k).length = out.length := by
  unfold setK
  split
  · rw [List.length_set]
  · rfl
theorem getD_set (l : List Int) (i j : Nat) (v : Int) (hi : i < l.length) : (l.set i v).getD j 0 = if j = i then v else l.getD j 0 := by
  simp only [List.getD_eq_getElem?_getD, List.getElem?_set]
  by_cases h : i = j
  · subst h
    rw [if_pos rfl, if_pos hi, if_pos rfl]
    rfl
  · rw [if_neg h, if_neg (fun e => h e.symm)]
/-- After the first m are looked at from i. -/
theorem setK_fold (K : List KnC) (d : Int) (i : Nat) (out : List Int) (hl : out.length = K.length) : ∀ m, m ≤ K.length →
    ((List.range m).foldl (setK K d i) out).length = K.length ∧ ∀ j, ((List.range m).foldl (setK K d i) out).getD j 0 = if j < m ∧ out.getD j 0 < 0 ∧ (rsK K i).contains (rfK K j) = true then d + 1 else out.getD j 0
  | 0, _ => ⟨hl, fun j => by simp⟩
  | m + 1, hm => by
    obtain ⟨h1, h2⟩ := setK_fold K d i out hl m (by omega)
    rw [List.range_succ, List.foldl_append]
    simp only [List.foldl_cons, List.foldl_nil]
    refine ⟨by rw [setK_len]; exact h1, fun j => ?_⟩
    generalize (List.range m).foldl (setK K d i) out = o at h1 h2
    have hom := h2 m
    rw [if_neg (fun h => absurd h.1 (by omega))] at hom
    unfold setK
    rw [hom]
    show (if out.getD m 0 < 0 ∧ (rsK K i).contains (rfK K m) = true then o.set m (d + 1) else o).getD j 0 = _
    by_cases hc : out.getD m 0 < 0 ∧ (rsK K i).contains (rfK K m) = true
    · rw [if_pos hc, getD_set _ _ _ _ (by omega)]
      by_cases hj : j = m
      · subst hj
        rw [if_pos rfl, if_pos ⟨by omega, hc⟩]
      · rw [if_neg hj, h2 j]
        by_cases hjm : j < m ∧ out.getD j 0 < 0 ∧ (rsK K i).contains (rfK K j) = true
        · rw [if_pos hjm, if_pos ⟨by omega, hjm.2⟩]
        · rw [if_neg hjm, if_neg (fun h => hjm ⟨by omega, h.2⟩)]
    · rw [if_neg hc, h2 j]
      by_cases hj : j = m
      · subst hj
        rw [if_neg (fun h => hc h.2), if_neg (fun h => hc h.2)]
      · by_cases hjm : j < m ∧ out.getD j 0 < 0 ∧ (rsK K i).contains (rfK K j) = true
        · rw [if_pos hjm, if_pos ⟨by omega, hjm.2⟩]
        · rw [if_neg hjm, if_neg (fun h => hjm ⟨by omega, h.2⟩)]
/-- Is j met from one of the first m that stand at d? -/
def metF (K : List KnC) (out : List Int) (d : Int) (m j : Nat) : Prop := ∃ i, i < m ∧ out.getD i 0 = d ∧ (rsK K i).contains (rfK K j) = true
open Classical in
theorem rowK_fold (K : List KnC) (d : Int) (hd : 0 ≤ d) (out : List Int) (hl : out.length = K.length) : ∀ m, m ≤ K.length →
    ((List.range m).foldl (rowK K d) out).length = K.length ∧ ∀ j, j < K.length → ((List.range m).foldl (rowK K d) out).getD j 0 = if out.getD j 0 < 0 ∧ metF K out d m j then d + 1 else out.getD j 0
  | 0, _ => ⟨hl, fun j _ => by
      rw [if_neg (fun h => by obtain ⟨_, i, hi, _⟩ := h; omega)]
      rfl⟩
  | m + 1, hm => by
    obtain ⟨h1, h2⟩ := rowK_fold K d hd out hl m (by omega)
    rw [List.range_succ, List.foldl_append]
    simp only [List.foldl_cons, List.foldl_nil]
    generalize (List.range m).foldl (rowK K d) out = o at h1 h2
    have hom := h2 m (by omega)
    have hiff : o.getD m 0 = d ↔ out.getD m 0 = d := by
      rw [hom]
      split
      · rename_i h
        constructor
        · intro e; omega
        · intro e; omega
      · exact Iff.rfl
    unfold rowK
    by_cases hc : out.getD m 0 = d
    · rw [if_pos (hiff.2 hc)]
      obtain ⟨g1, g2⟩ := setK_fold K d m o h1 K.length (Nat.le_refl _)
      refine ⟨g1, fun j hj => ?_⟩
      have e := h2 j hj
      rw [g2 j]
      by_cases hn : out.getD j 0 < 0
      · by_cases hm1 : metF K out d m j
        · have hm2 : metF K out d (m + 1) j := by obtain ⟨i, a, b⟩ := hm1; exact ⟨i, by omega, b⟩
          rw [if_pos ⟨hn, hm1⟩] at e
          rw [e, if_neg (fun h => by have := h.2.1; omega), if_pos ⟨hn, hm2⟩]
        · rw [if_neg (fun h => hm1 h.2)] at e
          rw [e]
          by_cases hk : (rsK K m).contains (rfK K j) = true
          · rw [if_pos ⟨hj, hn, hk⟩, if_pos ⟨hn, m, by omega, hc, hk⟩]
          · rw [if_neg (fun h => hk h.2.2)]
            refine (if_neg ?_).symm
            rintro ⟨_, i, a, b, c⟩
            rcases Nat.lt_or_ge i m with h | h
            · exact hm1 ⟨i, h, b, c⟩
            · obtain rfl : i = m := by omega
              exact hk c
      · rw [if_neg (fun h => hn h.1)] at e
        rw [e, if_neg (fun h => hn h.2.1), if_neg (fun h => hn h.1)]
    · rw [if_neg (fun h => hc (hiff.1 h))]
      refine ⟨h1, fun j hj => ?_⟩
      rw [h2 j hj]
      by_cases hm1 : metF K out d m j
      · have hm2 : metF K out d (m + 1) j := by obtain ⟨i, a, b⟩ := hm1; exact ⟨i, by omega, b⟩
        by_cases hn : out.getD j 0 < 0
        · rw [if_pos ⟨hn, hm1⟩, if_pos ⟨hn, hm2⟩]
        · rw [if_neg (fun h => hn h.1), if_neg (fun h => hn h.1)]
      · rw [if_neg (fun h => hm1 h.2)]
        refine (if_neg ?_).symm
        rintro ⟨_, i, a, b, c⟩
        rcases Nat.lt_or_ge i m with h | h
        · exact hm1 ⟨i, h, b, c⟩
        · obtain rfl : i = m := by omega
          exact hc b
def Dk (K : List KnC) (d : Nat) : List Int := (List.range d).foldl (passK K) (startK K)
theorem aliveF_eq (K : List KnC) : aliveF K = Dk K K.length := rfl
theorem Dk_succ (K : List KnC) (d : Nat) : Dk K (d + 1) = passK K (Dk K d) d := by
  unfold Dk
  rw [List.range_succ, List.foldl_append]
  rfl
theorem start_at (K : List KnC) (j : Nat) (hj : j < K.length) : (startK K).getD j 0 = if (K.getD j knc0).live = true then 0 else -1 := by
  unfold startK
  simp only [List.getD_eq_getElem?_getD, List.getElem?_map, List.getElem?_eq_getElem hj, Option.map_some, Option.getD_some]
open Classical in
theorem Dk_inv (K : List KnC) : ∀ d, (Dk K d).length = K.length ∧ ∀ j, j < K.length → (Dk K d).getD j 0 ≤ (d : Int)
  | 0 => ⟨by simp [Dk, startK], fun j hj => by
      show (startK K).getD j 0 ≤ _
      rw [start_at K j hj]
      split <;> omega⟩
  | d + 1 => by
    obtain ⟨h1, h2⟩ := Dk_inv K d
    rw [Dk_succ]
    obtain ⟨g1, g2⟩ := rowK_fold K d (by omega) (Dk K d) h1 K.length (Nat.le_refl _)
    refine ⟨g1, fun j hj => ?_⟩
    have := h2 j hj
    show ((List.range K.length).foldl (rowK K (d : Int)) (Dk K d)).getD j 0 ≤ _
    rw [g2 j hj]
    split <;> omega
open Classical in
theorem Dk_at (K : List KnC) (d j : Nat) (hj : j < K.length) : (Dk K (d + 1)).getD j 0 = if (Dk K d).getD j 0 < 0 ∧ metF K (Dk K d) d K.length j then (d : Int) + 1 else (Dk K d).getD j 0 := by
  rw [Dk_succ]
  exact (rowK_fold K d (by omega) (Dk K d) (Dk_inv K d).1 K.length (Nat.le_refl _)).2 j hj

/-! ### the node's levels -/
def itML (K : List KnC) (p : List Int × List Int) : Nat → List Int × List Int
  | 0 => p
  | d + 1 => ((itML K p d).1 ++ (itML K p d).2, nextF K (itML K p d).1 (itML K p d).2)
def Alike2 (p q : List Int × List Int) : Prop := (∀ y, y ∈ p.1 ↔ y ∈ q.1) ∧ ∀ y, y ∈ p.2 ↔ y ∈ q.2
theorem next_alike (K : List KnC) {p q : List Int × List Int} (h : Alike2 p q) : nextF K p.1 p.2 = nextF K q.1 q.2 := by
  have hm : ∀ y, y ∈ nextF K p.1 p.2 ↔ y ∈ nextF K q.1 q.2 := fun y => by
    rw [next_mem, next_mem, List.mem_append, List.mem_append, h.1 y, h.2 y]
    constructor
    · rintro ⟨⟨r, h1, h2⟩, h3⟩
      exact ⟨⟨r, (h.2 r).1 h1, h2⟩, h3⟩
    · rintro ⟨⟨r, h1, h2⟩, h3⟩
      exact ⟨⟨r, (h.2 r).2 h1, h2⟩, h3⟩
  unfold nextF at hm ⊢
  refine srtI_set (lev_nodup K _ _ _ (by simp)) (lev_nodup K _ _ _ (by simp)) fun y => ?_
  have := hm y
  rw [srtI_mem, srtI_mem] at this
  exact this
theorem itML_alike (K : List KnC) {p q : List Int × List Int} (h : Alike2 p q) : ∀ d, Alike2 (itML K p d) (itML K q d)
  | 0 => h
  | d + 1 => by
    have ih := itML_alike K h d
    refine ⟨fun y => ?_, fun y => ?_⟩
    · show y ∈ _ ++ _ ↔ y ∈ _ ++ _
      rw [List.mem_append, List.mem_append, ih.1 y, ih.2 y]
    · show y ∈ nextF K _ _ ↔ y ∈ nextF K _ _
      rw [next_alike K ih]
theorem ownF_mem (K : List KnC) (y : Int) : ownF K y = true ↔ ∃ j, j < K.length ∧ rfK K j = y := by
  unfold ownF
  rw [List.contains_iff_mem, List.mem_map]
  constructor
  · rintro ⟨x, hx, rfl⟩
    obtain ⟨j, hj⟩ := List.mem_iff_getElem?.1 hx
    refine ⟨j, (List.getElem?_eq_some_iff.1 hj).1, ?_⟩
    unfold rfK
    rw [List.getD_eq_getElem?_getD, hj]
    rfl
  · rintro ⟨j, hj, rfl⟩
    exact ⟨_, getD_mem knc0 hj, rfl⟩
theorem rf_inj {K : List KnC} (hn : (K.map (·.ref)).Nodup) {i j : Nat} (hi : i < K.length) (hj : j < K.length) (h : rfK K i = rfK K j) : i = j := by
  unfold rfK at h
  simp only [List.getD_eq_getElem?_getD, List.getElem?_eq_getElem hi, List.getElem?_eq_getElem hj, Option.getD_some] at h
  have h2 := List.pairwise_iff_getElem.1 hn
  rcases Nat.lt_trichotomy i j with h3 | h3 | h3
  · exact absurd (by rw [List.getElem_map, List.getElem_map]; exact h) (h2 i j (by simpa using hi) (by simpa using hj) h3)
  · exact h3
  · exact absurd (by rw [List.getElem_map, List.getElem_map]; exact h.symm) (h2 j i (by simpa using hj) (by simpa using hi) h3)
theorem refsF_at {K : List KnC} (hn : (K.map (·.ref)).Nodup) {i : Nat} (hi : i < K.length) : refsF K (rfK K i) = rsK K i := by
  unfold refsF
  cases hf : K.find? fun x => x.ref == rfK K i with
  | none =>
    rw [List.find?_eq_none] at hf
    exact absurd (by simp [rfK]) (hf _ (getD_mem knc0 hi))
  | some x =>
    have h1 := List.find?_some hf
    have h2 := List.mem_of_find?_eq_some hf
    obtain ⟨j, hj⟩ := List.mem_iff_getElem?.1 h2
    have hjl := (List.getElem?_eq_some_iff.1 hj).1
    have hx : K.getD j knc0 = x := by rw [List.getD_eq_getElem?_getD, hj]; rfl
    have : j = i := rf_inj hn hjl hi (by unfold rfK at h1 ⊢; rw [hx]; simpa using h1)
    subst this
    unfold rsK
    rw [hx]
    rfl
/-- What stands in the marks and in the level after d steps. -/
def LevOk (K : List KnC) (d : Nat) (q : List Int × List Int) : Prop :=
  (∀ y, y ∈ q.1 ↔ ∃ j, j < K.length ∧ rfK K j = y ∧ 0 ≤ (Dk K d).getD j 0 ∧ (Dk K d).getD j 0 < (d : Int)) ∧ ∀ y, y ∈ q.2 ↔ ∃ j, j < K.length ∧ rfK K j = y ∧ (Dk K d).getD j 0 = (d : Int)
theorem first_mem (K : List KnC) (y : Int) : y ∈ firstF K ↔ ∃ j, j < K.length ∧ rfK K j = y ∧ (startK K).getD j 0 = 0 := by
  unfold firstF
  rw [List.mem_map]
  constructor
  · rintro ⟨x, hx, rfl⟩
    rw [List.mem_filter] at hx
    obtain ⟨j, hj⟩ := List.mem_iff_getElem?.1 hx.1
    have hjl := (List.getElem?_eq_some_iff.1 hj).1
    have hx2 : K.getD j knc0 = x := by rw [List.getD_eq_getElem?_getD, hj]; rfl
    exact ⟨j, hjl, by unfold rfK; rw [hx2], by rw [start_at K j hjl, hx2, if_pos hx.2]⟩
  · rintro ⟨j, hj, rfl, h⟩
    rw [start_at K j hj] at h
    have hl : (K.getD j knc0).live = true := by
      by_cases e : (K.getD j knc0).live = true
      · exact e
      · rw [if_neg e] at h
        omega
    exact ⟨_, List.mem_filter.2 ⟨getD_mem knc0 hj, hl⟩, rfl⟩
theorem levOk_start (K : List KnC) : LevOk K 0 ([], firstF K) := by
  refine ⟨fun y => ?_, fun y => ?_⟩
  · constructor
    · intro h; cases h
    · rintro ⟨j, _, _, h1, h2⟩
      omega
  · exact first_mem K y
open Classical in
theorem levOk_step {K : List KnC} (hn : (K.map (·.ref)).Nodup) {d : Nat} {q : List Int × List Int} (h : LevOk K d q) : LevOk K (d + 1) (q.1 ++ q.2, nextF K q.1 q.2) := by
  obtain ⟨h1, h2⟩ := h
  have hmem : ∀ j, j < K.length → (rfK K j ∈ q.1 ++ q.2 ↔ 0 ≤ (Dk K d).getD j 0) := fun j hj => by
    rw [List.mem_append, h1, h2]
    constructor
    · rintro (⟨i, hi, e, h3, _⟩ | ⟨i, hi, e, h3⟩) <;> (have := rf_inj hn hi hj e; subst this; omega)
    · intro h3
      have := (Dk_inv K d).2 j hj
      rcases Int.lt_or_eq_of_le this with h4 | h4
      · exact .inl ⟨j, hj, rfl, h3, h4⟩
      · exact .inr ⟨j, hj, rfl, h4⟩
  refine ⟨fun y => ?_, fun y => ?_⟩
  · constructor
    · intro hy
      have hex : ∃ j, j < K.length ∧ rfK K j = y := by
        rcases List.mem_append.1 hy with h | h
        · obtain ⟨j, hj, e, _⟩ := (h1 y).1 h; exact ⟨j, hj, e⟩
        · obtain ⟨j, hj, e, _⟩ := (h2 y).1 h; exact ⟨j, hj, e⟩
      obtain ⟨j, hj, rfl⟩ := hex
      have h3 := (hmem j hj).1 hy
      have h4 := (Dk_inv K d).2 j hj
      refine ⟨j, hj, rfl, ?_⟩
      rw [Dk_at K d j hj, if_neg (fun h => by have := h.1; omega)]
      omega
    · rintro ⟨j, hj, rfl, h3, h4⟩
      rw [Dk_at K d j hj] at h3 h4
      refine (hmem j hj).2 ?_
      split at h4
      · omega
      · rename_i hc
        rw [if_neg hc] at h3
        exact h3
  · show y ∈ nextF K q.1 q.2 ↔ _
    rw [next_mem, ownF_mem]
    constructor
    · rintro ⟨⟨r, hr, hy⟩, ⟨j, hj, rfl⟩, hno⟩
      obtain ⟨i, hi, rfl, hd⟩ := (h2 r).1 hr
      rw [refsF_at hn hi] at hy
      have hlt : (Dk K d).getD j 0 < 0 := by
        rcases Int.lt_or_le ((Dk K d).getD j 0) 0 with h | h
        · exact h
        · exact absurd ((hmem j hj).2 h) hno
      exact ⟨j, hj, rfl, by rw [Dk_at K d j hj, if_pos ⟨hlt, i, hi, hd, by simpa using hy⟩]; rfl⟩
    · rintro ⟨j, hj, rfl, h3⟩
      have h4 := (Dk_inv K d).2 j hj
      rw [Dk_at K d j hj] at h3
      split at h3
      · rename_i hc
        obtain ⟨hlt, i, hi, hd, hcon⟩ := hc
        exact ⟨⟨rfK K i, (h2 _).2 ⟨i, hi, rfl, hd⟩, by rw [refsF_at hn hi]; simpa using hcon⟩, ⟨j, hj, rfl⟩, fun hno => by have := (hmem j hj).1 hno; omega⟩
      · omega
theorem levOk_all {K : List KnC} (hn : (K.map (·.ref)).Nodup) {p : List Int × List Int} (h : LevOk K 0 p) : ∀ d, LevOk K d (itML K p d)
  | 0 => h
  | d + 1 => levOk_step hn (levOk_all hn h d)
end Go.Proofs.Ytbhdagjilmgahaa
