
/-
  What the law makes of the reference's numbers is what the node gives (plain law).
-/
import Derived.Test.YtbhdagjilmgahaaKnLaw
namespace Go.Proofs.Ytbhdagjilmgahaa
open Go.RowKit

theorem Dk_keep (K : List KnC) {d j : Nat} (hj : j < K.length) (h : 0 ≤ (Dk K d).getD j 0) : ∀ e, d ≤ e → (Dk K e).getD j 0 = (Dk K d).getD j 0
  | 0, he => by
    obtain rfl : d = 0 := by omega
    rfl
  | e + 1, he => by
    rcases Nat.lt_or_ge d (e + 1) with h1 | h1
    · have ih := Dk_keep K hj h e (by omega)
      rw [Dk_at K e j hj, if_neg (fun c => by have := c.1; omega)]
      exact ih
    · obtain rfl : d = e + 1 := by omega
      rfl
open Classical in
theorem Dk_late (K : List KnC) {d j : Nat} (hj : j < K.length) (h : (Dk K d).getD j 0 < 0) : ∀ e, d ≤ e → (Dk K e).getD j 0 < 0 ∨ (d : Int) < (Dk K e).getD j 0
  | 0, he => by
    obtain rfl : d = 0 := by omega
    exact .inl h
  | e + 1, he => by
    rcases Nat.lt_or_ge d (e + 1) with h1 | h1
    · have ih := Dk_late K hj h e (by omega)
      rw [Dk_at K e j hj]
      split
      · exact .inr (by omega)
      · exact ih
    · obtain rfl : d = e + 1 := by omega
      exact .inl h
theorem Dk_iff (K : List KnC) {d e j : Nat} (hj : j < K.length) (he : d ≤ e) : (Dk K e).getD j 0 = (d : Int) ↔ (Dk K d).getD j 0 = (d : Int) := by
  constructor
  · intro h
    rcases Int.lt_or_le ((Dk K d).getD j 0) 0 with h1 | h1
    · rcases Dk_late K hj h1 e he with h2 | h2 <;> omega
    · rw [← Dk_keep K hj h1 e he]; exact h
  · intro h
    rw [Dk_keep K hj (by omega) e he]; exact h

/-- Who stands at d, in the records' order. -/
def filtF (xs : List (Int × Int)) (d : Int) : List Int := (xs.filter fun p => p.2 == d).map (·.1)
def deadF (xs : List (Int × Int)) : List Int := (xs.filter fun p => decide (p.2 < 0)).map (·.1)
def zipK (K : List KnC) (out : List Int) : List (Int × Int) := (K.map (·.ref)).zip out
theorem zip_at {K : List KnC} {out : List Int} (h : out.length = K.length) {p : Int × Int} : p ∈ zipK K out ↔ ∃ j, j < K.length ∧ rfK K j = p.1 ∧ out.getD j 0 = p.2 := by
  unfold zipK
  rw [List.mem_iff_getElem?]
  constructor
  · rintro ⟨j, hj⟩
    rw [List.getElem?_zip_eq_some] at hj
    obtain ⟨h1, h2⟩ := hj
    rw [List.getElem?_map] at h1
    have hjl : j < out.length := (List.getElem?_eq_some_iff.1 h2).1
    refine ⟨j, by omega, ?_, by rw [List.getD_eq_getElem?_getD, h2]; rfl⟩
    rw [List.getElem?_eq_getElem (by omega)] at h1
    unfold rfK
    rw [List.getD_eq_getElem?_getD, List.getElem?_eq_getElem (by omega)]
    simpa using h1
  · rintro ⟨j, hj, h1, h2⟩
    refine ⟨j, ?_⟩
    rw [List.getElem?_zip_eq_some, List.getElem?_map, List.getElem?_eq_getElem hj]
    unfold rfK at h1
    rw [List.getD_eq_getElem?_getD, List.getElem?_eq_getElem hj] at h1
    rw [List.getD_eq_getElem?_getD, List.getElem?_eq_getElem (by omega)] at h2
    refine ⟨by simpa using h1, ?_⟩
    rw [List.getElem?_eq_getElem (by omega)]
    simpa using h2
theorem filt_mem {K : List KnC} {out : List Int} (h : out.length = K.length) (d : Int) (y : Int) : y ∈ filtF (zipK K out) d ↔ ∃ j, j < K.length ∧ rfK K j = y ∧ out.getD j 0 = d := by
  unfold filtF
  rw [List.mem_map]
  constructor
  · rintro ⟨p, hp, rfl⟩
    rw [List.mem_filter] at hp
    obtain ⟨j, hj, h1, h2⟩ := (zip_at h).1 hp.1
    exact ⟨j, hj, h1, by rw [h2]; simpa using hp.2⟩
  · rintro ⟨j, hj, rfl, h2⟩
    exact ⟨(rfK K j, d), List.mem_filter.2 ⟨(zip_at h).2 ⟨j, hj, rfl, h2⟩, by simp⟩, rfl⟩
theorem dead_mem {K : List KnC} {out : List Int} (h : out.length = K.length) (y : Int) : y ∈ deadF (zipK K out) ↔ ∃ j, j < K.length ∧ rfK K j = y ∧ out.getD j 0 < 0 := by
  unfold deadF
  rw [List.mem_map]
  constructor
  · rintro ⟨p, hp, rfl⟩
    rw [List.mem_filter] at hp
    obtain ⟨j, hj, h1, h2⟩ := (zip_at h).1 hp.1
    exact ⟨j, hj, h1, by rw [h2]; simpa using hp.2⟩
  · rintro ⟨j, hj, rfl, h2⟩
    exact ⟨(rfK K j, out.getD j 0), List.mem_filter.2 ⟨(zip_at h).2 ⟨j, hj, rfl, rfl⟩, by simpa using h2⟩, rfl⟩
theorem zip_nodup {K : List KnC} {out : List Int} (h : out.length = K.length) (hn : (K.map (·.ref)).Nodup) (q : Int × Int → Bool) : (((zipK K out).filter q).map (·.1)).Nodup := by
  have h1 : (zipK K out).map (·.1) = K.map (·.ref) := by
    unfold zipK
    rw [List.map_fst_zip]
    simp [h]
  exact List.Nodup.sublist (List.Sublist.map _ List.filter_sublist) (by rw [h1]; exact hn)

/-! ### levels till there is none -/
/-- The marks and the level are told apart, and are of the node. -/
def Apart (K : List KnC) (q : List Int × List Int) : Prop := (q.1 ++ q.2).Nodup ∧ ∀ y ∈ q.1 ++ q.2, y ∈ K.map (·.ref)
theorem apart_step {K : List KnC} {q : List Int × List Int} (h : Apart K q) : Apart K (q.1 ++ q.2, nextF K q.1 q.2) := by
  refine ⟨?_, fun y hy => ?_⟩
  · show ((q.1 ++ q.2) ++ nextF K q.1 q.2).Nodup
    rw [List.nodup_append]
    exact ⟨h.1, next_nodup K _ _, fun a ha b hb e => ((next_mem K q.1 q.2 b).1 hb).2.2 (by rw [← e]; exact ha)⟩
  · rcases List.mem_append.1 hy with hy | hy
    · exact h.2 y hy
    · have := ((next_mem K q.1 q.2 y).1 hy).2.1
      unfold ownF at this
      simpa using this
theorem apart_all {K : List KnC} {p : List Int × List Int} (h : Apart K p) : ∀ d, Apart K (itML K p d)
  | 0 => h
  | d + 1 => apart_step (apart_all h d)
theorem marks_len (K : List KnC) (p : List Int × List Int) : ∀ d, (∀ i, i < d → (itML K p i).2 ≠ []) → d ≤ (itML K p d).1.length
  | 0, _ => Nat.zero_le _
  | d + 1, h => by
    have ih := marks_len K p d fun i hi => h i (by omega)
    have h2 := List.length_pos_iff.2 (h d (by omega))
    show d + 1 ≤ (_ ++ _ : List Int).length
    rw [List.length_append]
    omega
theorem few_levels {K : List KnC} {p : List Int × List Int} (ha : Apart K p) {d : Nat} (h : ∀ i, i < d → (itML K p i).2 ≠ []) : d ≤ (itML K p d).1.length ∧ (itML K p d).1.length + (itML K p d).2.length ≤ K.length := by
  have h1 := apart_all ha d
  have h2 := nodup_len _ _ h1.1 h1.2
  rw [List.length_append, List.length_map] at h2
  exact ⟨marks_len K p d h, h2⟩
theorem next_nil (K : List KnC) (M : List Int) : nextF K M [] = [] := by
  cases h : nextF K M [] with
  | nil => rfl
  | cons a l =>
    have := (next_mem K M [] a).1 (by rw [h]; exact List.mem_cons_self ..)
    obtain ⟨⟨r, hr, _⟩, _⟩ := this
    cases hr
theorem lev_end (K : List KnC) (p : List Int × List Int) {m : Nat} (h : (itML K p m).2 = []) : ∀ e, m ≤ e → (itML K p e).2 = []
  | 0, he => by
    obtain rfl : m = 0 := by omega
    exact h
  | e + 1, he => by
    rcases Nat.lt_or_ge m (e + 1) with h1 | h1
    · show nextF K _ _ = []
      rw [lev_end K p h e (by omega)]
      exact next_nil K _
    · obtain rfl : m = e + 1 := by omega
      exact h
theorem first_nodup {K : List KnC} (hn : (K.map (·.ref)).Nodup) : (firstF K).Nodup := List.Nodup.sublist (List.Sublist.map _ List.filter_sublist) hn
theorem apart_first {K : List KnC} (hn : (K.map (·.ref)).Nodup) : Apart K ([], firstF K) :=
  ⟨first_nodup hn, fun y hy => by
    obtain ⟨j, hj, rfl, _⟩ := (first_mem K y).1 hy
    exact List.mem_map.2 ⟨_, getD_mem knc0 hj, rfl⟩⟩
theorem alike_srt (K : List KnC) : Alike2 ([], srtI (firstF K)) ([], firstF K) := ⟨fun _ => Iff.rfl, fun y => srtI_mem _ y⟩
theorem apart_srt {K : List KnC} (hn : (K.map (·.ref)).Nodup) : Apart K ([], srtI (firstF K)) :=
  ⟨srtI_nodup (first_nodup hn), fun y hy => (apart_first hn).2 y ((srtI_mem _ y).1 hy)⟩
theorem levOk_srt {K : List KnC} (hn : (K.map (·.ref)).Nodup) (d : Nat) : LevOk K d (itML K ([], srtI (firstF K)) d) := by
  have h := levOk_all hn (levOk_start K) d
  have ha := itML_alike K (alike_srt K) d
  exact ⟨fun y => (ha.1 y).trans (h.1 y), fun y => (ha.2 y).trans (h.2 y)⟩
/-- A level is what the reference has there, sorted. -/
theorem lev_is {K : List KnC} (hn : (K.map (·.ref)).Nodup) {d : Nat} (hd : d ≤ K.length) : (itML K ([], srtI (firstF K)) d).2 = srtI (filtF (zipK K (aliveF K)) d) := by
  have hl : (aliveF K).length = K.length := (Dk_inv K K.length).1
  have h := (levOk_srt hn d).2
  have hm : ∀ y, y ∈ (itML K ([], srtI (firstF K)) d).2 ↔ y ∈ filtF (zipK K (aliveF K)) d := fun y => by
    rw [h y, filt_mem hl]
    constructor
    · rintro ⟨j, hj, e, h2⟩
      exact ⟨j, hj, e, (Dk_iff K hj hd).2 h2⟩
    · rintro ⟨j, hj, e, h2⟩
      exact ⟨j, hj, e, (Dk_iff K hj hd).1 h2⟩
  have hnd := zip_nodup hl hn (fun p => p.2 == (d : Int))
  match d, hm, hnd with
  | 0, hm, hnd => exact srtI_set (first_nodup hn) hnd fun y => by rw [← hm y]; exact (srtI_mem _ y).symm
  | d + 1, hm, hnd => exact srtI_set (lev_nodup K _ _ _ (by simp)) hnd fun y => by rw [← hm y]; exact (srtI_mem _ y).symm

/-! ### the law's rows -/
def putR (rows : List (List Int)) (n : Nat) (r : Int) : List (List Int) :=
  let g := rows ++ List.replicate (n + 1 - rows.length) []
  g.set n (g.getD n [] ++ [r])
def lawR (rows : List (List Int)) (p : Int × Int) : List (List Int) := if p.2 < 0 then rows else putR rows p.2.toNat p.1
def rowsF (xs : List (Int × Int)) : List (List Int) := xs.foldl lawR []
def lastOk (rows : List (List Int)) : Prop := ∀ n, rows.length = n + 1 → rows.getD n [] ≠ []
theorem putR_len (rows : List (List Int)) (n : Nat) (r : Int) : (putR rows n r).length = max rows.length (n + 1) := by
  unfold putR
  rw [List.length_set, List.length_append, List.length_replicate]
  omega
theorem grow_at (rows : List (List Int)) (m d : Nat) : (rows ++ List.replicate m []).getD d [] = rows.getD d [] := by
  simp only [List.getD_eq_getElem?_getD]
  rcases Nat.lt_or_ge d rows.length with h | h
  · rw [List.getElem?_append_left h]
  · rw [List.getElem?_append_right h, List.getElem?_eq_none h, List.getElem?_replicate]
    split <;> rfl
theorem putR_at (rows : List (List Int)) (n : Nat) (r : Int) (d : Nat) : (putR rows n r).getD d [] = if d = n then rows.getD n [] ++ [r] else rows.getD d [] := by
  unfold putR
  dsimp only
  rw [grow_at]
  have hlen : n < (rows ++ List.replicate (n + 1 - rows.length) ([] : List Int)).length := by
    rw [List.length_append, List.length_replicate]; omega
  rw [List.getD_eq_getElem?_getD, List.getElem?_set]
  by_cases h : n = d
  · subst h
    rw [if_pos rfl, if_pos hlen, if_pos rfl]
    rfl
  · rw [if_neg h, if_neg (fun e => h e.symm), ← List.getD_eq_getElem?_getD, grow_at]
theorem rowsF_snoc (xs : List (Int × Int)) (p : Int × Int) : rowsF (xs ++ [p]) = lawR (rowsF xs) p := by
  unfold rowsF
  rw [List.foldl_append]
  rfl
theorem filtF_snoc (xs : List (Int × Int)) (p : Int × Int) (d : Int) : filtF (xs ++ [p]) d = if p.2 = d then filtF xs d ++ [p.1] else filtF xs d := by
  unfold filtF
  rw [List.filter_append, List.map_append]
  by_cases h : p.2 = d
  · simp [h]
  · simp [h]
theorem rows_are (xs : List (Int × Int)) : (∀ d : Nat, (rowsF xs).getD d [] = filtF xs d) ∧ lastOk (rowsF xs) := by
  suffices H : ∀ k, k ≤ xs.length → (∀ d : Nat, (rowsF (xs.take k)).getD d [] = filtF (xs.take k) d) ∧ lastOk (rowsF (xs.take k)) by
    have := H xs.length (Nat.le_refl _)
    rwa [List.take_length] at this
  intro k
  induction k with
  | zero => intro _; exact ⟨fun d => rfl, fun n h => by cases h⟩
  | succ k ih =>
    intro hk
    obtain ⟨h1, h2⟩ := ih (by omega)
    have ht : xs.take (k + 1) = xs.take k ++ [xs[k]] := by rw [List.take_add_one, List.getElem?_eq_getElem (by omega)]; rfl
    rw [ht, rowsF_snoc]
    generalize xs.take k = ys at h1 h2
    generalize xs[k] = p
    unfold lawR
    by_cases hp : p.2 < 0
    · rw [if_pos hp]
      exact ⟨fun d => by rw [h1 d, filtF_snoc, if_neg (by omega)], h2⟩
    · rw [if_neg hp]
      refine ⟨fun d => ?_, fun n hn => ?_⟩
      · rw [putR_at, filtF_snoc]
        by_cases e : d = p.2.toNat
        · rw [if_pos e, if_pos (by omega), h1 p.2.toNat]
          rw [show ((p.2.toNat : Nat) : Int) = (d : Int) by omega]
        · rw [if_neg e, if_neg (by omega), h1 d]
      · rw [putR_len] at hn
        rw [putR_at]
        by_cases e : n = p.2.toNat
        · rw [if_pos e]; simp
        · rw [if_neg e]
          exact h2 n (by omega)
theorem rows_unique {P Q : List (List Int)} (h : ∀ d, P.getD d [] = Q.getD d []) (h1 : lastOk P) (h2 : lastOk Q) : P = Q := by
  have key : ∀ (P Q : List (List Int)), (∀ d, P.getD d [] = Q.getD d []) → lastOk Q → ¬ P.length < Q.length := fun P Q h h2 hlt => by
    obtain ⟨n, hn⟩ : ∃ n, Q.length = n + 1 := ⟨Q.length - 1, by omega⟩
    refine h2 n hn ?_
    rw [← h n, List.getD_eq_getElem?_getD, List.getElem?_eq_none (by omega)]
    rfl
  have hl : P.length = Q.length := by
    have := key P Q h h2
    have := key Q P (fun d => (h d).symm) h1
    omega
  refine List.ext_getElem hl fun i hi hj => ?_
  have := h i
  simpa only [List.getD_eq_getElem?_getD, List.getElem?_eq_getElem hi, List.getElem?_eq_getElem hj, Option.getD_some] using this
/-- The node's levels are the law's rows, each sorted. -/
theorem passes_are {K : List KnC} (hn : (K.map (·.ref)).Nodup) {m : Nat} (hm : (itML K ([], srtI (firstF K)) m).2 = []) (hb : ∀ i, i < m → (itML K ([], srtI (firstF K)) i).2 ≠ []) :
    (List.range m).map (fun d => (itML K ([], srtI (firstF K)) d).2) = (rowsF (zipK K (aliveF K))).map srtI := by
  have hl : (aliveF K).length = K.length := (Dk_inv K K.length).1
  obtain ⟨h1, h2⟩ := rows_are (zipK K (aliveF K))
  have hmn := few_levels (apart_srt hn) hb
  have hs : srtI [] = [] := by simp [srtI]
  refine rows_unique (fun d => ?_) (fun n h => ?_) (fun n h => ?_)
  · have hr : ((rowsF (zipK K (aliveF K))).map srtI).getD d [] = srtI (filtF (zipK K (aliveF K)) d) := by
      rw [← h1 d]
      simp only [List.getD_eq_getElem?_getD, List.getElem?_map]
      cases (rowsF (zipK K (aliveF K)))[d]? <;> simp [hs]
    rw [hr]
    rcases Nat.lt_or_ge d m with hd | hd
    · rw [← lev_is hn (by omega)]
      simp [List.getD_eq_getElem?_getD, hd]
    · have e1 : ((List.range m).map (fun d => (itML K ([], srtI (firstF K)) d).2)).getD d [] = [] := by
        rw [List.getD_eq_getElem?_getD, List.getElem?_eq_none (by simpa using hd)]
        rfl
      rw [e1]
      rcases Nat.lt_or_ge K.length d with h3 | h3
      · have : filtF (zipK K (aliveF K)) d = [] := by
          cases hf : filtF (zipK K (aliveF K)) d with
          | nil => rfl
          | cons a l =>
            obtain ⟨j, hj, _, h5⟩ := (filt_mem hl d a).1 (by rw [hf]; exact List.mem_cons_self ..)
            have := (Dk_inv K K.length).2 j hj
            rw [aliveF_eq] at h5
            omega
        rw [this, hs]
      · rw [← lev_is hn h3, lev_end K _ hm d hd]
  · have : m = n + 1 := by simpa using h
    subst this
    have := hb n (by omega)
    simpa [List.getD_eq_getElem?_getD] using this
  · rw [List.length_map] at h
    have h3 := h2 n h
    intro e
    apply h3
    simp only [List.getD_eq_getElem?_getD, List.getElem?_map] at e ⊢
    rw [List.getElem?_eq_getElem (by omega)] at e ⊢
    simp only [Option.map_some, Option.getD_some] at e ⊢
    have := congrArg List.length e
    rw [srtI_len] at this
    exact List.eq_nil_of_length_eq_zero this
/-- What is not marked in the end is what the reference never comes to. -/
theorem left_mem {K : List KnC} (hn : (K.map (·.ref)).Nodup) {m : Nat} (hm : (itML K ([], firstF K) m).2 = []) (hb : ∀ i, i < m → (itML K ([], firstF K) i).2 ≠ []) (y : Int) (hy : y ∈ K.map (·.ref)) :
    y ∉ (itML K ([], firstF K) m).1 ↔ y ∈ deadF (zipK K (aliveF K)) := by
  have hl : (aliveF K).length = K.length := (Dk_inv K K.length).1
  have hok := levOk_all hn (levOk_start K)
  have hmn := few_levels (apart_first hn) hb
  obtain ⟨j, hj, rfl⟩ := (ownF_mem K y).1 (by unfold ownF; simpa using hy)
  rw [dead_mem hl, (hok m).1]
  have hno : ∀ e, m ≤ e → (Dk K e).getD j 0 ≠ (e : Int) := fun e he h => by
    have h1 := (hok e).2 (rfK K j)
    rw [lev_end K _ hm e he] at h1
    exact absurd (h1.2 ⟨j, hj, rfl, h⟩) (by simp)
  constructor
  · intro h
    refine ⟨j, hj, rfl, ?_⟩
    rcases Int.lt_or_le ((aliveF K).getD j 0) 0 with h1 | h1
    · exact h1
    · exfalso
      rw [aliveF_eq] at h1
      have h2 := (Dk_inv K K.length).2 j hj
      obtain ⟨e, he⟩ := Int.eq_ofNat_of_zero_le h1
      have hen : e ≤ K.length := by omega
      have h3 := (Dk_iff K hj hen).1 he
      rcases Nat.lt_or_ge e m with h4 | h4
      · exact h ⟨j, hj, rfl, by rw [(Dk_iff K hj (Nat.le_of_lt h4)).2 h3]; omega, by rw [(Dk_iff K hj (Nat.le_of_lt h4)).2 h3]; omega⟩
      · exact hno e h4 h3
  · rintro ⟨i, hi, e, h1⟩ ⟨i2, hi2, e2, h2, _⟩
    have := rf_inj hn hi hj e
    subst this
    have := rf_inj hn hi2 hi e2
    subst this
    rw [aliveF_eq, Dk_keep K hi h2 K.length (by omega)] at h1
    omega
end Go.Proofs.Ytbhdagjilmgahaa
