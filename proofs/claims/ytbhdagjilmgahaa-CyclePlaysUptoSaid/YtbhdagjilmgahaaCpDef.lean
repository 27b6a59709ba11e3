
/-
  CyclePlays: the plain law (who is reached; of which references is told, and which are due).
-/
import Derived.Test.YtbhdagjilmgahaaKnLaw2
namespace Go.Proofs.Ytbhdagjilmgahaa
open Go.RowKit

/-! ### who is reached -/
inductive Rch (K : List KnC) : Int → Prop
  | live (j : Nat) : j < K.length → (K.getD j knc0).live = true → Rch K (rfK K j)
  | step (r y : Int) : Rch K r → y ∈ refsF K r → ownF K y = true → Rch K y
theorem own_at {K : List KnC} {j : Nat} (h : j < K.length) : ownF K (rfK K j) = true := (ownF_mem K _).2 ⟨j, h, rfl⟩
theorem rch_own {K : List KnC} {y : Int} (h : Rch K y) : ownF K y = true := by
  cases h with
  | live j hj _ => exact own_at hj
  | step r _ _ _ h => exact h
def Clo (K : List KnC) (p : List Int × List Int) : Prop := ∀ r ∈ p.1, ∀ y, y ∈ refsF K r → ownF K y = true → y ∈ p.1 ++ p.2
theorem clo_all {K : List KnC} {p : List Int × List Int} (h : Clo K p) : ∀ d, Clo K (itML K p d)
  | 0 => h
  | d + 1 => fun r hr y hy ho => by
    have ih := clo_all h d
    show y ∈ ((itML K p d).1 ++ (itML K p d).2) ++ nextF K (itML K p d).1 (itML K p d).2
    by_cases hm : y ∈ (itML K p d).1 ++ (itML K p d).2
    · exact List.mem_append_left _ hm
    · refine List.mem_append_right _ ((next_mem K _ _ y).2 ⟨⟨r, ?_, hy⟩, ho, hm⟩)
      rcases List.mem_append.1 (show r ∈ (itML K p d).1 ++ (itML K p d).2 from hr) with h1 | h1
      · exact absurd (ih r h1 y hy ho) hm
      · exact h1
theorem snd_all {K : List KnC} {p : List Int × List Int} (P : Int → Prop) (hP : ∀ r y, P r → y ∈ refsF K r → ownF K y = true → P y) (h : ∀ y ∈ p.1 ++ p.2, P y) : ∀ d, ∀ y ∈ (itML K p d).1 ++ (itML K p d).2, P y
  | 0 => h
  | d + 1 => fun y hy => by
    have ih := snd_all P hP h d
    rcases List.mem_append.1 (show y ∈ ((itML K p d).1 ++ (itML K p d).2) ++ nextF K (itML K p d).1 (itML K p d).2 from hy) with h1 | h1
    · exact ih y h1
    · obtain ⟨⟨r, hr, h2⟩, ho, _⟩ := (next_mem K _ _ y).1 h1
      exact hP r y (ih r (List.mem_append_right _ hr)) h2 ho
theorem grow_all {K : List KnC} {p : List Int × List Int} : ∀ d y, y ∈ p.1 ++ p.2 → y ∈ (itML K p d).1 ++ (itML K p d).2
  | 0, _, h => h
  | d + 1, y, h => List.mem_append_left _ (grow_all d y h)
theorem ends_at {K : List KnC} {p : List Int × List Int} (ha : Apart K p) : ∃ m, (itML K p m).2 = [] ∧ ∀ i, i < m → (itML K p i).2 ≠ [] := by
  suffices H : ∀ n, (∀ i, i < n → (itML K p i).2 ≠ []) ∨ ∃ m, (itML K p m).2 = [] ∧ ∀ i, i < m → (itML K p i).2 ≠ [] by
    rcases H (K.length + 1) with h | h
    · have := few_levels ha h
      omega
    · exact h
  intro n
  induction n with
  | zero => exact .inl fun i hi => by omega
  | succ n ih =>
    rcases ih with h | h
    · by_cases he : (itML K p n).2 = []
      · exact .inr ⟨n, he, h⟩
      · refine .inl fun i hi => ?_
        rcases Nat.lt_or_ge i n with h1 | h1
        · exact h i h1
        · obtain rfl : i = n := by omega
          exact he
    · exact .inr h
theorem end_nil {K : List KnC} {p : List Int × List Int} {m : Nat} (hm : (itML K p m).2 = []) (y : Int) : y ∈ (itML K p m).1 ++ (itML K p m).2 ↔ y ∈ (itML K p m).1 := by
  rw [hm, List.append_nil]
theorem rch_start {K : List KnC} {m : Nat} (hm : (itML K ([], firstF K) m).2 = []) (y : Int) : y ∈ (itML K ([], firstF K) m).1 ↔ Rch K y := by
  have hf : ∀ y, y ∈ firstF K ↔ ∃ j, j < K.length ∧ rfK K j = y ∧ (K.getD j knc0).live = true := fun y => by
    rw [first_mem]
    constructor
    · rintro ⟨j, hj, h1, h2⟩
      rw [start_at K j hj] at h2
      refine ⟨j, hj, h1, ?_⟩
      by_cases h3 : (K.getD j knc0).live = true
      · exact h3
      · rw [if_neg h3] at h2; omega
    · rintro ⟨j, hj, h1, h2⟩
      exact ⟨j, hj, h1, by rw [start_at K j hj, if_pos h2]⟩
  constructor
  · intro h
    refine snd_all (K := K) (p := ([], firstF K)) (Rch K) (fun r y h1 h2 h3 => .step r y h1 h2 h3) (fun y hy => ?_) m y (List.mem_append_left _ h)
    obtain ⟨j, hj, rfl, h2⟩ := (hf y).1 (by simpa using hy)
    exact .live j hj h2
  · intro h
    induction h with
    | live j hj hl => exact (end_nil hm _).1 (grow_all m _ (List.mem_append_right _ ((hf _).2 ⟨j, hj, rfl, hl⟩)))
    | step r y _ h2 h3 ih => exact (end_nil hm _).1 (clo_all (K := K) (p := ([], firstF K)) (fun r hr => by cases hr) m r ih y h2 h3)
theorem rch_alive {K : List KnC} (hn : (K.map (·.ref)).Nodup) {j : Nat} (hj : j < K.length) : 0 ≤ (aliveF K).getD j 0 ↔ Rch K (rfK K j) := by
  obtain ⟨m, hm, hb⟩ := ends_at (apart_first hn)
  have h1 : rfK K j ∈ K.map (·.ref) := List.mem_map.2 ⟨_, getD_mem knc0 hj, rfl⟩
  rw [← rch_start hm]
  have h2 := left_mem hn hm hb _ h1
  have h3 := dead_mem (K := K) (Dk_inv K K.length).1 (rfK K j)
  rw [← aliveF_eq] at h3
  constructor
  · intro h
    refine Classical.byContradiction fun hno => ?_
    obtain ⟨i, hi, he, h4⟩ := h3.1 (h2.1 hno)
    rw [rf_inj hn hi hj he] at h4
    omega
  · intro h
    refine Classical.byContradiction fun hno => ?_
    exact h2.2 (h3.2 ⟨j, hj, rfl, by omega⟩) h

/-! ### records that differ in what holds them alone -/
def bareK (x : KnC) : KnC := { x with awake := false, root := false }
def SmK (K K' : List KnC) : Prop := K'.map bareK = K.map bareK
theorem SmK.refl (K : List KnC) : SmK K K := rfl
section
variable {K K' : List KnC}
theorem SmK.len (h : SmK K K') : K'.length = K.length := by
  have := congrArg List.length h
  simpa using this
theorem SmK.refs (h : SmK K K') : K'.map (·.ref) = K.map (·.ref) := by
  have := congrArg (List.map (·.ref)) h
  simpa [List.map_map, Function.comp_def, bareK] using this
theorem bare_getD (L : List KnC) (j : Nat) : bareK (L.getD j knc0) = (L.map bareK).getD j knc0 := by
  simp only [List.getD_eq_getElem?_getD, List.getElem?_map]
  cases L[j]? <;> rfl
theorem SmK.bare (h : SmK K K') (j : Nat) : bareK (K'.getD j knc0) = bareK (K.getD j knc0) := by
  rw [bare_getD, bare_getD, h]
theorem SmK.rf (h : SmK K K') (j : Nat) : rfK K' j = rfK K j := by
  show (bareK (K'.getD j knc0)).ref = (bareK (K.getD j knc0)).ref
  rw [h.bare j]
theorem SmK.rs (h : SmK K K') (j : Nat) : rsK K' j = rsK K j := by
  show (bareK (K'.getD j knc0)).refs = (bareK (K.getD j knc0)).refs
  rw [h.bare j]
theorem SmK.own (h : SmK K K') (y : Int) : ownF K' y = ownF K y := by
  unfold ownF
  rw [h.refs]
theorem bare_refsF (L : List KnC) (r : Int) : refsF (L.map bareK) r = refsF L r := by
  unfold refsF
  rw [List.find?_map]
  have e : ((fun x : KnC => x.ref == r) ∘ bareK) = fun x => x.ref == r := rfl
  rw [e]
  cases L.find? fun x => x.ref == r <;> rfl
theorem SmK.refsF (h : SmK K K') (r : Int) : refsF K' r = refsF K r := by
  rw [← bare_refsF K', ← bare_refsF K, h]
end
def rootK (K : List KnC) (i : Nat) : List KnC := K.set i { K.getD i knc0 with root := true }
theorem root_sm {K K' : List KnC} (h : SmK K K') (i : Nat) : SmK K (rootK K' i) := by
  unfold SmK rootK
  rw [List.map_set, ← h]
  have e : bareK { K'.getD i knc0 with root := true } = (K'.map bareK).getD i knc0 := by
    rw [← bare_getD]
    rfl
  rw [e]
  apply List.ext_getElem?
  intro j
  rw [List.getElem?_set]
  split
  · rename_i hij
    subst hij
    split
    · rename_i hl
      rw [List.getD_eq_getElem?_getD, List.getElem?_eq_getElem hl]
      rfl
    · rename_i hl
      rw [List.getElem?_eq_none (by omega)]
  · rfl
theorem root_live {K : List KnC} {i : Nat} (hi : i < K.length) (j : Nat) : ((rootK K i).getD j knc0).live = true ↔ j = i ∨ (K.getD j knc0).live = true := by
  unfold rootK
  have e : (K.set i { K.getD i knc0 with root := true }).getD j knc0 = if j = i then { K.getD i knc0 with root := true } else K.getD j knc0 := by
    simp only [List.getD_eq_getElem?_getD, List.getElem?_set]
    by_cases h : i = j
    · subst h; simp [hi]
    · rw [if_neg h, if_neg (fun e : j = i => h e.symm)]
  rw [e]
  by_cases h : j = i
  · rw [if_pos h]
    exact ⟨fun _ => .inl h, fun _ => rfl⟩
  · rw [if_neg h]
    exact ⟨.inr, fun h2 => h2.resolve_left h⟩
/-- Who is reached, once actor i is held: what was reached is. -/
theorem rch_more {K K' : List KnC} (hs : SmK K K') {i : Nat} (hi : i < K.length) {y : Int} (h : Rch K' y) : Rch (rootK K' i) y := by
  have hr := root_sm hs i
  induction h with
  | live j hj hl =>
    have e : rfK K' j = rfK (rootK K' i) j := by rw [hs.rf, hr.rf]
    rw [e]
    exact .live j (by rw [hr.len, ← hs.len]; exact hj) ((root_live (by rw [hs.len]; exact hi) j).2 (.inr hl))
  | step r y _ h2 h3 ih => exact .step r y ih (by rw [hr.refsF, ← hs.refsF]; exact h2) (by rw [hr.own, ← hs.own]; exact h3)
theorem come_old {K K' : List KnC} {M : List Int} (hs : SmK K K') (hM : ∀ y, y ∈ M ↔ Rch K' y) {i : Nat} (hi : i < K.length) (h : rfK K i ∈ M) (y : Int) : y ∈ M ↔ Rch (rootK K' i) y := by
  have hr := root_sm hs i
  constructor
  · intro hy
    exact rch_more hs hi ((hM y).1 hy)
  · intro hy
    rw [hM]
    induction hy with
    | live j hj hl =>
      rw [hr.rf]
      rcases (root_live (by rw [hs.len]; exact hi) j).1 hl with rfl | h1
      · exact (hM _).1 h
      · rw [← hs.rf]
        exact .live j (by rw [hs.len, ← hr.len]; exact hj) h1
    | step r y _ h2 h3 ih => exact .step r y ih (by rw [hs.refsF, ← hr.refsF]; exact h2) (by rw [hs.own, ← hr.own]; exact h3)
theorem come_new {K K' : List KnC} {M : List Int} (hs : SmK K K') (hM : ∀ y, y ∈ M ↔ Rch K' y) {i m : Nat} (hi : i < K.length) (hm : (itML K (M, [rfK K i]) m).2 = []) (y : Int) : y ∈ (itML K (M, [rfK K i]) m).1 ↔ Rch (rootK K' i) y := by
  have hr := root_sm hs i
  constructor
  · intro hy
    refine snd_all (K := K) (p := (M, [rfK K i])) (Rch (rootK K' i)) (fun r y h1 h2 h3 => .step r y h1 (by rw [hr.refsF]; exact h2) (by rw [hr.own]; exact h3)) (fun y hy => ?_) m y (List.mem_append_left _ hy)
    rcases List.mem_append.1 hy with h1 | h1
    · exact rch_more hs hi ((hM y).1 h1)
    · rw [List.mem_singleton.1 h1, ← hr.rf]
      exact .live i (by rw [hr.len]; exact hi) ((root_live (by rw [hs.len]; exact hi) i).2 (.inl rfl))
  · intro hy
    have hM2 : ∀ y, Rch K' y → y ∈ (itML K (M, [rfK K i]) m).1 := fun y h => (end_nil hm _).1 (grow_all m _ (List.mem_append_left _ ((hM y).2 h)))
    have hcl : Clo K (M, [rfK K i]) := fun r hr y h2 h3 => List.mem_append_left _ ((hM y).2 (.step r y ((hM r).1 hr) (by rw [hs.refsF]; exact h2) (by rw [hs.own]; exact h3)))
    induction hy with
    | live j hj hl =>
      rw [hr.rf]
      rcases (root_live (by rw [hs.len]; exact hi) j).1 hl with rfl | h1
      · exact (end_nil hm _).1 (grow_all m _ (List.mem_append_right _ (List.mem_singleton.2 rfl)))
      · refine hM2 _ ?_
        rw [← hs.rf]
        exact .live j (by rw [hs.len, ← hr.len]; exact hj) h1
    | step r y _ h2 h3 ih => exact (end_nil hm _).1 (clo_all hcl m r ih y (by rw [← hr.refsF]; exact h2) (by rw [← hr.own]; exact h3))
theorem come_apart {K : List KnC} {M : List Int} (hn : M.Nodup) (ho : ∀ y ∈ M, ownF K y = true) {i : Nat} (hi : i < K.length) (h : rfK K i ∉ M) : Apart K (M, [rfK K i]) := by
  refine ⟨?_, fun y hy => ?_⟩
  · show (M ++ [rfK K i]).Nodup
    rw [List.nodup_append]
    exact ⟨hn, by simp, fun a ha b hb e => by rw [List.mem_singleton] at hb; subst hb e; exact h ha⟩
  · rcases List.mem_append.1 hy with h1 | h1
    · have := ho y h1
      unfold ownF at this
      simpa using this
    · have := own_at hi
      rw [List.mem_singleton.1 h1]
      unfold ownF at this
      simpa using this

/-! ### of which references is told -/
def TolK (K : List KnC) (M told : List Int) : Prop := ∀ y, y ∈ told ↔ ownF K y = false ∧ ∃ r ∈ M, y ∈ refsF K r
def DueK (told due out : List Int) : Prop := due.Nodup ∧ (∀ y, y ∈ due ↔ y ∈ told ∧ y ∉ out) ∧ (∀ y ∈ out, y ∈ told) ∧ out.Nodup
theorem step_told (K : List KnC) (M : List Int) (s : LvS) (to y : Int) : y ∈ (stepL K M s to).told ↔ y ∈ s.told ∨ (y = to ∧ ownF K to = false) := by
  unfold stepL
  by_cases h1 : ownF K to = false
  · rw [if_pos h1]
    by_cases h2 : s.told.contains to = true
    · rw [if_pos h2]
      have h2' : to ∈ s.told := by simpa using h2
      constructor
      · exact .inl
      · rintro (h | ⟨rfl, _⟩)
        · exact h
        · exact h2'
    · rw [if_neg h2]
      simp [h1]
  · rw [if_neg h1]
    have : ¬ (y = to ∧ ownF K to = false) := fun h => h1 h.2
    split
    · simp [this]
    · split <;> simp [this]
theorem fold_told (K : List KnC) (M : List Int) : ∀ (l : List Int) (s : LvS) (y : Int), y ∈ (l.foldl (stepL K M) s).told ↔ y ∈ s.told ∨ (y ∈ l ∧ ownF K y = false)
  | [], s, y => by simp
  | a :: l, s, y => by
    rw [List.foldl_cons, fold_told K M l, step_told]
    constructor
    · rintro ((h | ⟨rfl, h⟩) | ⟨h1, h2⟩)
      · exact .inl h
      · exact .inr ⟨List.mem_cons_self .., h⟩
      · exact .inr ⟨List.mem_cons_of_mem _ h1, h2⟩
    · rintro (h | ⟨h1, h2⟩)
      · exact .inl (.inl h)
      · rcases List.mem_cons.1 h1 with rfl | h1
        · exact .inl (.inr ⟨rfl, h2⟩)
        · exact .inr ⟨h1, h2⟩
theorem lev_told (K : List KnC) (M : List Int) : ∀ (L : List Int) (s : LvS) (y : Int), y ∈ (levF K M L s).told ↔ y ∈ s.told ∨ (ownF K y = false ∧ ∃ r ∈ L, y ∈ refsF K r)
  | [], s, y => by simp [levF]
  | r :: L, s, y => by
    show y ∈ (levF K M L (rowL K M s r)).told ↔ _
    rw [lev_told K M L]
    unfold rowL
    rw [fold_told]
    constructor
    · rintro ((h | ⟨h1, h2⟩) | ⟨h2, r', h1, h3⟩)
      · exact .inl h
      · exact .inr ⟨h2, r, List.mem_cons_self .., h1⟩
      · exact .inr ⟨h2, r', List.mem_cons_of_mem _ h1, h3⟩
    · rintro (h | ⟨h2, r', h1, h3⟩)
      · exact .inl (.inl h)
      · rcases List.mem_cons.1 h1 with rfl | h1
        · exact .inl (.inr ⟨h3, h2⟩)
        · exact .inr ⟨h2, r', h1, h3⟩
def Both (s s' : LvS) : Prop := ∃ E, s'.told = s.told ++ E ∧ s'.due = s.due ++ E
theorem Both.trans {s s' s'' : LvS} (h : Both s s') (k : Both s' s'') : Both s s'' := by
  obtain ⟨E, h1, h2⟩ := h
  obtain ⟨F, k1, k2⟩ := k
  exact ⟨E ++ F, by rw [k1, h1, List.append_assoc], by rw [k2, h2, List.append_assoc]⟩
theorem Both.refl (s : LvS) : Both s s := ⟨[], by simp, by simp⟩
theorem step_both (K : List KnC) (M : List Int) (s : LvS) (to : Int) : Both s (stepL K M s to) := by
  unfold stepL
  split
  · split
    · exact Both.refl s
    · exact ⟨[to], rfl, rfl⟩
  · split
    · exact Both.refl s
    · split
      · exact Both.refl s
      · exact ⟨[], by simp, by simp⟩
theorem fold_both (K : List KnC) (M : List Int) : ∀ (l : List Int) (s : LvS), Both s (l.foldl (stepL K M) s)
  | [], s => Both.refl s
  | a :: l, s => (step_both K M s a).trans (fold_both K M l _)
theorem lev_both (K : List KnC) (M : List Int) : ∀ (L : List Int) (s : LvS), Both s (levF K M L s)
  | [], s => Both.refl s
  | r :: L, s => (fold_both K M (refsF K r) s).trans (lev_both K M L _)
theorem tol_lev {K : List KnC} {M L told : List Int} (h : TolK K M told) (due : List Int) : TolK K (M ++ L) (levF K (M ++ L) L ⟨[], told, due⟩).told := fun y => by
  rw [lev_told]
  show y ∈ told ∨ _ ↔ _
  rw [h y]
  constructor
  · rintro (⟨h1, r, h2, h3⟩ | ⟨h1, r, h2, h3⟩)
    · exact ⟨h1, r, List.mem_append_left _ h2, h3⟩
    · exact ⟨h1, r, List.mem_append_right _ h2, h3⟩
  · rintro ⟨h1, r, h2, h3⟩
    rcases List.mem_append.1 h2 with h2 | h2
    · exact .inl ⟨h1, r, h2, h3⟩
    · exact .inr ⟨h1, r, h2, h3⟩
theorem due_lev {K : List KnC} {M L told due out : List Int} (h : DueK told due out) (hn : (levF K (M ++ L) L ⟨[], told, due⟩).told.Nodup) :
    DueK (levF K (M ++ L) L ⟨[], told, due⟩).told (levF K (M ++ L) L ⟨[], told, due⟩).due out := by
  obtain ⟨E, h1, h2⟩ := lev_both K (M ++ L) L ⟨[], told, due⟩
  rw [h1] at hn
  rw [h1, h2]
  show DueK (told ++ E) (due ++ E) out
  have hn' : (told ++ E).Nodup := hn
  rw [List.nodup_append] at hn'
  obtain ⟨n1, n2, n3⟩ := hn'
  obtain ⟨d1, d2, d3, d4⟩ := h
  refine ⟨?_, fun y => ?_, fun y hy => List.mem_append_left _ (d3 y hy), d4⟩
  · rw [List.nodup_append]
    exact ⟨d1, n2, fun a ha b hb => n3 a ((d2 a).1 ha).1 b hb⟩
  · rw [List.mem_append, List.mem_append, d2]
    constructor
    · rintro (⟨a, b⟩ | a)
      · exact ⟨.inl a, b⟩
      · exact ⟨.inr a, fun ho => n3 y (d3 y ho) y a rfl⟩
    · rintro ⟨a | a, b⟩
      · exact .inl ⟨a, b⟩
      · exact .inr a
theorem tol_nil (K : List KnC) : TolK K [] [] := fun y => by simp
theorem lev_same {K : List KnC} {M L told : List Int} : (levF K M L ⟨[], told, told⟩).due = (levF K M L ⟨[], told, told⟩).told := by
  obtain ⟨E, h1, h2⟩ := lev_both K M L ⟨[], told, told⟩
  rw [h1, h2]
theorem due_start {told : List Int} (h : told.Nodup) : DueK told told [] := ⟨h, (fun y => by simp), (fun y hy => absurd hy (by simp)), by simp⟩

/-! ### what the law counts -/
def putX (K : List KnC) (D : List Int) (r : Int) : List Int := if D.contains r = false ∧ ownF K r = false then D ++ [r] else D
def rowX (K : List KnC) (al : List Int) (D : List Int) (i : Nat) : List Int := if al.getD i 0 < 0 then D else (rsK K i).foldl (putX K) D
def dueX (K : List KnC) (al : List Int) (n : Nat) : List Int := (List.range n).foldl (rowX K al) []
def leftX (K : List KnC) (al : List Int) (n : Nat) : List Int := (List.range n).foldl (fun D i => if al.getD i 0 < 0 then D ++ [rfK K i] else D) []
def moreX (out l : List Int) : List Int := l.filter fun r => !out.contains r
theorem putX_mem (K : List KnC) (D : List Int) (r y : Int) : y ∈ putX K D r ↔ y ∈ D ∨ (y = r ∧ ownF K r = false) := by
  unfold putX
  by_cases h1 : D.contains r = false
  · by_cases h2 : ownF K r = false
    · rw [if_pos ⟨h1, h2⟩]; simp [h2]
    · rw [if_neg (fun h => h2 h.2)]
      simp [h2]
  · rw [if_neg (fun h => h1 h.1)]
    have h1' : r ∈ D := by simpa using h1
    constructor
    · exact .inl
    · rintro (h | ⟨rfl, _⟩)
      · exact h
      · exact h1'
theorem putX_nodup (K : List KnC) (D : List Int) (r : Int) (h : D.Nodup) : (putX K D r).Nodup := by
  unfold putX
  split
  · rename_i h1
    have h1' : r ∉ D := by simpa using h1.1
    rw [List.nodup_append]
    exact ⟨h, by simp, fun a ha b hb e => by rw [List.mem_singleton] at hb; subst hb e; exact h1' ha⟩
  · exact h
theorem foldX_mem (K : List KnC) : ∀ (l D : List Int) (y : Int), y ∈ l.foldl (putX K) D ↔ y ∈ D ∨ (y ∈ l ∧ ownF K y = false)
  | [], D, y => by simp
  | a :: l, D, y => by
    rw [List.foldl_cons, foldX_mem K l, putX_mem]
    constructor
    · rintro ((h | ⟨rfl, h⟩) | ⟨h1, h2⟩)
      · exact .inl h
      · exact .inr ⟨List.mem_cons_self .., h⟩
      · exact .inr ⟨List.mem_cons_of_mem _ h1, h2⟩
    · rintro (h | ⟨h1, h2⟩)
      · exact .inl (.inl h)
      · rcases List.mem_cons.1 h1 with rfl | h1
        · exact .inl (.inr ⟨rfl, h2⟩)
        · exact .inr ⟨h1, h2⟩
theorem foldX_nodup (K : List KnC) : ∀ (l D : List Int), D.Nodup → (l.foldl (putX K) D).Nodup
  | [], _, h => h
  | a :: l, D, h => foldX_nodup K l _ (putX_nodup K D a h)
theorem dueX_succ (K : List KnC) (al : List Int) (n : Nat) : dueX K al (n + 1) = rowX K al (dueX K al n) n := by
  unfold dueX
  rw [List.range_succ, List.foldl_append]
  rfl
theorem dueX_mem (K : List KnC) (al : List Int) (y : Int) : ∀ n, y ∈ dueX K al n ↔ ownF K y = false ∧ ∃ i, i < n ∧ 0 ≤ al.getD i 0 ∧ y ∈ rsK K i
  | 0 => by simp [dueX]
  | n + 1 => by
    rw [dueX_succ]
    unfold rowX
    split
    · rename_i h
      rw [dueX_mem K al y n]
      constructor
      · rintro ⟨h1, i, h2, h3⟩
        exact ⟨h1, i, by omega, h3⟩
      · rintro ⟨h1, i, h2, h3, h4⟩
        refine ⟨h1, i, ?_, h3, h4⟩
        rcases Nat.lt_or_ge i n with h5 | h5
        · exact h5
        · obtain rfl : i = n := by omega
          omega
    · rename_i h
      rw [foldX_mem, dueX_mem K al y n]
      constructor
      · rintro (⟨h1, i, h2, h3⟩ | ⟨h1, h2⟩)
        · exact ⟨h1, i, by omega, h3⟩
        · exact ⟨h2, n, by omega, by omega, h1⟩
      · rintro ⟨h1, i, h2, h3, h4⟩
        rcases Nat.lt_or_ge i n with h5 | h5
        · exact .inl ⟨h1, i, h5, h3, h4⟩
        · obtain rfl : i = n := by omega
          exact .inr ⟨h4, h1⟩
theorem dueX_nodup (K : List KnC) (al : List Int) : ∀ n, (dueX K al n).Nodup
  | 0 => by simp [dueX]
  | n + 1 => by
    rw [dueX_succ]
    unfold rowX
    split
    · exact dueX_nodup K al n
    · exact foldX_nodup K _ _ (dueX_nodup K al n)
theorem leftX_succ (K : List KnC) (al : List Int) (n : Nat) : leftX K al (n + 1) = if al.getD n 0 < 0 then leftX K al n ++ [rfK K n] else leftX K al n := by
  unfold leftX
  rw [List.range_succ, List.foldl_append]
  rfl
theorem leftX_mem (K : List KnC) (al : List Int) (y : Int) : ∀ n, y ∈ leftX K al n ↔ ∃ i, i < n ∧ al.getD i 0 < 0 ∧ rfK K i = y
  | 0 => by simp [leftX]
  | n + 1 => by
    rw [leftX_succ]
    split
    · rename_i h
      rw [List.mem_append, List.mem_singleton, leftX_mem K al y n]
      constructor
      · rintro (⟨i, h1, h2⟩ | rfl)
        · exact ⟨i, by omega, h2⟩
        · exact ⟨n, by omega, h, rfl⟩
      · rintro ⟨i, h1, h2, h3⟩
        rcases Nat.lt_or_ge i n with h5 | h5
        · exact .inl ⟨i, h5, h2, h3⟩
        · obtain rfl : i = n := by omega
          exact .inr h3.symm
    · rename_i h
      rw [leftX_mem K al y n]
      constructor
      · rintro ⟨i, h1, h2⟩
        exact ⟨i, by omega, h2⟩
      · rintro ⟨i, h1, h2, h3⟩
        rcases Nat.lt_or_ge i n with h5 | h5
        · exact ⟨i, h5, h2, h3⟩
        · obtain rfl : i = n := by omega
          exact absurd h2 h
theorem leftX_nodup {K : List KnC} (hn : (K.map (·.ref)).Nodup) (al : List Int) : ∀ n, n ≤ K.length → (leftX K al n).Nodup
  | 0, _ => by simp [leftX]
  | n + 1, h => by
    have ih := leftX_nodup hn al n (by omega)
    rw [leftX_succ]
    split
    · rw [List.nodup_append]
      refine ⟨ih, by simp, fun a ha b hb e => ?_⟩
      rw [List.mem_singleton] at hb
      subst hb e
      obtain ⟨i, h1, _, h2⟩ := (leftX_mem K al _ n).1 ha
      have := rf_inj hn (show i < K.length by omega) (show n < K.length by omega) h2
      omega
    · exact ih
theorem leftX_len (K : List KnC) (al : List Int) : ∀ n, (leftX K al n).length ≤ n
  | 0 => by simp [leftX]
  | n + 1 => by
    have := leftX_len K al n
    rw [leftX_succ]
    split
    · rw [List.length_append, List.length_singleton]; omega
    · omega
section
variable {K K' : List KnC} {M told due out : List Int}
theorem law_due (hn : (K'.map (·.ref)).Nodup) (hs : SmK K K') (hM : ∀ y, y ∈ M ↔ Rch K' y) (ht : TolK K M told) (y : Int) : y ∈ dueX K' (aliveF K') K'.length ↔ y ∈ told := by
  rw [dueX_mem, ht y, hs.own]
  constructor
  · rintro ⟨h1, i, h2, h3, h4⟩
    refine ⟨h1, rfK K' i, (hM _).2 ((rch_alive hn h2).1 h3), ?_⟩
    rw [← hs.refsF, refsF_at hn h2]
    exact h4
  · rintro ⟨h1, r, h2, h3⟩
    have h4 := (hM r).1 h2
    obtain ⟨i, hi, rfl⟩ := (ownF_mem K' r).1 (rch_own h4)
    refine ⟨h1, i, hi, (rch_alive hn hi).2 h4, ?_⟩
    rw [← hs.refsF, refsF_at hn hi] at h3
    exact h3
theorem law_count (hn : (K'.map (·.ref)).Nodup) (hs : SmK K K') (hM : ∀ y, y ∈ M ↔ Rch K' y) (ht : TolK K M told) (htn : told.Nodup) : (dueX K' (aliveF K') K'.length).length = told.length := by
  have h := law_due hn hs hM ht
  have h1 := nodup_len _ _ (dueX_nodup K' (aliveF K') K'.length) fun y hy => (h y).1 hy
  have h2 := nodup_len _ _ htn fun y hy => (h y).2 hy
  omega
theorem law_more (hn : (K'.map (·.ref)).Nodup) (hs : SmK K K') (hM : ∀ y, y ∈ M ↔ Rch K' y) (ht : TolK K M told) (hd : DueK told due out) : srtI (moreX out (dueX K' (aliveF K') K'.length)) = srtI due := by
  have h := law_due hn hs hM ht
  refine srtI_set (List.Nodup.sublist List.filter_sublist (dueX_nodup _ _ _)) hd.1 fun y => ?_
  unfold moreX
  rw [List.mem_filter, h y, hd.2.1 y]
  simp
theorem law_out (hd : DueK told due out) : DueK told [] (out ++ srtI due) := by
  obtain ⟨d1, d2, d3, d4⟩ := hd
  refine ⟨by simp, fun y => ?_, fun y hy => ?_, ?_⟩
  · constructor
    · intro h; cases h
    · rintro ⟨h1, h2⟩
      refine absurd ?_ h2
      rw [List.mem_append, srtI_mem]
      by_cases h3 : y ∈ out
      · exact .inl h3
      · exact .inr ((d2 y).2 ⟨h1, h3⟩)
  · rcases List.mem_append.1 hy with h | h
    · exact d3 y h
    · exact ((d2 y).1 ((srtI_mem _ y).1 h)).1
  · rw [List.nodup_append]
    refine ⟨d4, srtI_nodup d1, fun a ha b hb e => ?_⟩
    subst e
    exact ((d2 a).1 ((srtI_mem _ a).1 hb)).2 ha
theorem law_left (hn : (K'.map (·.ref)).Nodup) (hs : SmK K K') (hM : ∀ y, y ∈ M ↔ Rch K' y) : srtI (leftX K' (aliveF K') K'.length) = srtI ((K.map (·.ref)).filter fun y => !M.contains y) := by
  refine srtI_set (leftX_nodup hn _ _ (Nat.le_refl _)) (List.Nodup.sublist List.filter_sublist (by rw [← hs.refs]; exact hn)) fun y => ?_
  rw [leftX_mem, List.mem_filter]
  constructor
  · rintro ⟨i, hi, h1, rfl⟩
    refine ⟨by rw [← hs.refs]; exact List.mem_map.2 ⟨_, getD_mem knc0 hi, rfl⟩, ?_⟩
    have : rfK K' i ∉ M := fun hm => by
      have := (rch_alive hn hi).2 ((hM _).1 hm)
      omega
    simpa using this
  · rintro ⟨h1, h2⟩
    have h2' : y ∉ M := by simpa using h2
    obtain ⟨i, hi, rfl⟩ := (ownF_mem K' y).1 (by unfold ownF; rw [hs.refs]; simpa using h1)
    refine ⟨i, hi, ?_, rfl⟩
    refine Classical.byContradiction fun h3 => h2' ((hM _).2 ((rch_alive hn hi).1 (by omega)))
end
end Go.Proofs.Ytbhdagjilmgahaa
