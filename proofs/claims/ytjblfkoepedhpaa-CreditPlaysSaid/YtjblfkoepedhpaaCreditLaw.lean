/-
  A pool's slots in plain lists: what is left, which lane is next, what is granted.
-/
namespace Go.Proofs.Ytjblfkoepedhpaa

/-- Of a lane: what it requested, was granted, uses. -/
abbrev Lane := Int × Int × Int
def spent (L : List Lane) : Int := (L.map fun x => x.2.1 + x.2.2).sum
theorem spent_cons (x : Lane) (L : List Lane) : spent (x :: L) = x.2.1 + x.2.2 + spent L := by simp [spent]
theorem spent_take (L : List Lane) (d : Lane) {k : Nat} (h : k < L.length) : spent (L.take (k + 1)) = spent (L.take k) + ((L.getD k d).2.1 + (L.getD k d).2.2) := by
  have e : L.take (k + 1) = L.take k ++ [L.getD k d] := by
    rw [List.take_succ_eq_append_getElem h]
    simp [List.getD_eq_getElem?_getD, h]
  rw [e]
  unfold spent
  rw [List.map_append, List.sum_append]
  simp
theorem spent_set (L : List Lane) (d : Lane) {i : Nat} (h : i < L.length) (y : Lane) : spent (L.set i y) = spent L - ((L.getD i d).2.1 + (L.getD i d).2.2) + (y.2.1 + y.2.2) := by
  induction L generalizing i with
  | nil => simp at h
  | cons x L ih =>
    cases i with
    | zero => simp [spent]; omega
    | succ i =>
      have := ih (i := i) (by simpa using h)
      simp only [List.set_cons_succ, spent_cons, List.getD_cons_succ]
      omega
theorem spent_nonneg {L : List Lane} (h : ∀ x ∈ L, 0 ≤ x.2.1 ∧ 0 ≤ x.2.2) : 0 ≤ spent L := by
  induction L with
  | nil => simp [spent]
  | cons x L ih =>
    have := ih fun y hy => h y (by simp [hy])
    have := h x (by simp)
    rw [spent_cons]; omega
theorem spent_mem {L : List Lane} (h : ∀ x ∈ L, 0 ≤ x.2.1 ∧ 0 ≤ x.2.2) : ∀ x ∈ L, x.2.1 + x.2.2 ≤ spent L := by
  induction L with
  | nil => simp
  | cons y L ih =>
    intro x hx
    have h0 := spent_nonneg (L := L) fun z hz => h z (by simp [hz])
    have h1 := h y (by simp)
    rw [spent_cons]
    rw [List.mem_cons] at hx
    rcases hx with rfl | hx
    · omega
    · have := ih (fun z hz => h z (by simp [hz])) x hx
      omega

/-- A pool that is as it should be. -/
structure Fit (room : Int) (t : Nat) (L : List Lane) : Prop where
  r1 : 1 ≤ room
  r2 : room ≤ 64
  n1 : 1 ≤ L.length
  n2 : L.length ≤ 8
  t1 : t < L.length
  each : ∀ x ∈ L, 0 ≤ x.1 ∧ x.1 ≤ 64 ∧ 0 ≤ x.2.1 ∧ 0 ≤ x.2.2
  fits : spent L ≤ room

/-- The first lane from the turn on that wants slots, of the last m of the round; or -1. -/
def nxt (t : Nat) (L : List Lane) : Nat → Int
  | 0 => -1
  | m + 1 => if 0 < (L.getD ((t + (L.length - (m + 1))) % L.length) (0, 0, 0)).1 then (((t + (L.length - (m + 1))) % L.length : Nat) : Int) else nxt t L m
def next (t : Nat) (L : List Lane) : Int := nxt t L L.length
theorem nxt_at (t : Nat) (L : List Lane) {k : Nat} (h : k < L.length) : nxt t L (L.length - k) = if 0 < (L.getD ((t + k) % L.length) (0, 0, 0)).1 then (((t + k) % L.length : Nat) : Int) else nxt t L (L.length - (k + 1)) := by
  obtain ⟨m, hm⟩ : ∃ m, L.length - k = m + 1 := ⟨L.length - k - 1, by omega⟩
  rw [hm]
  unfold nxt
  rw [show L.length - (m + 1) = k by omega, show L.length - (k + 1) = m by omega]
  cases m <;> rfl
theorem nxt_cases (t : Nat) (L : List Lane) : ∀ m, m ≤ L.length → nxt t L m = -1 ∨ ∃ i : Nat, i < L.length ∧ nxt t L m = (i : Int) ∧ 0 < (L.getD i (0, 0, 0)).1
  | 0, _ => .inl rfl
  | m + 1, h => by
    unfold nxt
    split
    · rename_i hc
      exact .inr ⟨_, Nat.mod_lt _ (by omega), rfl, hc⟩
    · exact nxt_cases t L m (by omega)
theorem nxt_same (t : Nat) (L L' : List Lane) (hl : L'.length = L.length) (h : ∀ i, (L'.getD i (0, 0, 0)).1 = (L.getD i (0, 0, 0)).1) : ∀ m, nxt t L' m = nxt t L m
  | 0 => rfl
  | m + 1 => by
    unfold nxt
    rw [hl, h, nxt_same t L L' hl h m]

/-- A slot granted to lane i. -/
def give (L : List Lane) (i : Nat) : List Lane := L.set i ((L.getD i (0, 0, 0)).1 - 1, (L.getD i (0, 0, 0)).2.1 + 1, (L.getD i (0, 0, 0)).2.2)
/-- So many slots granted in turn, as far as they are wanted. -/
def grantN : Nat → Nat → List Lane → Nat × List Lane
  | 0, t, L => (t, L)
  | n + 1, t, L => if next t L < 0 then (t, L) else grantN n (((next t L).toNat + 1) % L.length) (give L (next t L).toNat)
/-- All that is left is granted. -/
def granted (room : Int) (t : Nat) (L : List Lane) : Nat × List Lane := grantN (room - spent L).toNat t L
theorem give_len (L : List Lane) (i : Nat) : (give L i).length = L.length := by simp [give]
theorem getD_of_mem {L : List Lane} {i : Nat} (h : i < L.length) : L.getD i (0, 0, 0) ∈ L := by
  rw [List.getD_eq_getElem?_getD, List.getElem?_eq_getElem h]; exact List.getElem_mem h
theorem mem_set_or {α : Type} {L : List α} {i : Nat} {y x : α} (h : x ∈ L.set i y) : x = y ∨ x ∈ L := by
  rcases List.mem_or_eq_of_mem_set h with h | h
  · exact .inr h
  · exact .inl h
theorem give_spent (L : List Lane) {i : Nat} (h : i < L.length) : spent (give L i) = spent L + 1 := by
  unfold give
  rw [spent_set L (0, 0, 0) h]
  simp only
  omega
theorem give_fit {room : Int} {t t' : Nat} {L : List Lane} {i : Nat} (hf : Fit room t L) (hi : i < L.length) (hw : 0 < (L.getD i (0, 0, 0)).1) (ht : t' < L.length) (hl : 0 < room - spent L) : Fit room t' (give L i) := by
  have hm := hf.each _ (getD_of_mem hi)
  refine ⟨hf.r1, hf.r2, by rw [give_len]; exact hf.n1, by rw [give_len]; exact hf.n2, by rw [give_len]; exact ht, fun x hx => ?_, by rw [give_spent L hi]; omega⟩
  rcases mem_set_or hx with rfl | hx
  · simp only; omega
  · exact hf.each x hx
theorem granted_stop {room : Int} {t : Nat} {L : List Lane} (h : room - spent L ≤ 0 ∨ next t L < 0) : granted room t L = (t, L) := by
  unfold granted
  rcases h with h | h
  · rw [show (room - spent L).toNat = 0 by omega]; rfl
  · cases (room - spent L).toNat with
    | zero => rfl
    | succ n => unfold grantN; rw [if_pos h]
theorem granted_step {room : Int} {t : Nat} {L : List Lane} {i : Nat} (h : 0 < room - spent L) (hi : i < L.length) (hn : next t L = (i : Int)) : granted room t L = granted room ((i + 1) % L.length) (give L i) := by
  unfold granted
  rw [give_spent L hi]
  obtain ⟨n, hn'⟩ : ∃ n : Nat, (room - spent L).toNat = n + 1 := ⟨(room - spent L).toNat - 1, by omega⟩
  rw [hn', show (room - (spent L + 1)).toNat = n by omega]
  unfold grantN
  rw [hn, if_neg (by omega), Int.toNat_natCast]
  cases n <;> rfl
/-- Nothing is left, or nothing is wanted. -/
def Calm (room : Int) (t : Nat) (L : List Lane) : Prop := room - spent L ≤ 0 ∨ next t L < 0
theorem granted_fit (room : Int) : ∀ (n t : Nat) (L : List Lane), Fit room t L → (room - spent L).toNat = n →
    Fit room (granted room t L).1 (granted room t L).2 ∧ Calm room (granted room t L).1 (granted room t L).2 ∧ (granted room t L).2.length = L.length := by
  intro n
  induction n with
  | zero =>
    intro t L hf hn
    rw [granted_stop (.inl (by omega))]
    exact ⟨hf, .inl (by simp only; omega), rfl⟩
  | succ n ih =>
    intro t L hf hn
    rcases nxt_cases t L L.length (Nat.le_refl _) with h | ⟨i, hi, h, hw⟩
    · rw [granted_stop (.inr (by unfold next; omega))]
      exact ⟨hf, .inr (by simp only; unfold next; omega), rfl⟩
    · rw [granted_step (by omega) hi h]
      have hf' := give_fit (t' := (i + 1) % L.length) hf hi hw (Nat.mod_lt _ (by omega)) (by omega)
      obtain ⟨h1, h2, h3⟩ := ih _ _ hf' (by rw [give_spent L hi]; omega)
      exact ⟨h1, h2, by rw [h3, give_len]⟩
end Go.Proofs.Ytjblfkoepedhpaa
