/-
  The round of jobs in plain lists: what a queue of jobs yields, whether it is run turn by turn or step by step.
-/
namespace Go.Proofs.Ytjblfkoepedhpaa

/-- All the steps of a queue. -/
def sumS (q : List (Int × Int)) : Int := (q.map (·.2)).sum
theorem sumS_cons (x : Int × Int) (q : List (Int × Int)) : sumS (x :: q) = x.2 + sumS q := by simp [sumS]
theorem sumS_append (q r : List (Int × Int)) : sumS (q ++ r) = sumS q + sumS r := by simp [sumS, List.sum_append]
theorem sumS_nonneg {q : List (Int × Int)} (h : ∀ x ∈ q, 1 ≤ x.2) : 0 ≤ sumS q := by
  induction q with
  | nil => simp [sumS]
  | cons x q ih =>
    have := ih fun y hy => h y (by simp [hy])
    have := h x (by simp)
    rw [sumS_cons]; omega
theorem sumS_le {q : List (Int × Int)} {b : Int} (h : ∀ x ∈ q, x.2 ≤ b) : sumS q ≤ b * q.length := by
  induction q with
  | nil => simp [sumS]
  | cons x q ih =>
    have h1 := ih fun y hy => h y (by simp [hy])
    have h2 := h x (by simp)
    rw [sumS_cons, List.length_cons, Int.natCast_add, Int.mul_add]; simp; omega

/-- What is finished, and when: K rounds at most. -/
def planK (f : Int) : Nat → List (Int × Int) → Int → List (Int × Int)
  | 0, _, _ => []
  | _ + 1, [], _ => []
  | K + 1, x :: q, t => if x.2 ≤ f then (x.1, t + x.2) :: planK f K q (t + x.2) else planK f K (q ++ [(x.1, x.2 - f)]) (t + f)
theorem planK_succ (f : Int) (K : Nat) (x : Int × Int) (q : List (Int × Int)) (t : Int) :
    planK f (K + 1) (x :: q) t = if x.2 ≤ f then (x.1, t + x.2) :: planK f K q (t + x.2) else planK f K (q ++ [(x.1, x.2 - f)]) (t + f) := rfl
def plan (f : Int) (q : List (Int × Int)) (t : Int) : List (Int × Int) := planK f (sumS q).toNat q t
theorem planK_more (f : Int) (hf : 1 ≤ f) : ∀ (K K' : Nat) (q : List (Int × Int)) (t : Int), (∀ x ∈ q, 1 ≤ x.2) → sumS q ≤ K → K ≤ K' → planK f K' q t = planK f K q t := by
  intro K
  induction K with
  | zero =>
    intro K' q t hq hs _
    have : q = [] := by
      cases q with
      | nil => rfl
      | cons x q =>
        have h1 := hq x (by simp)
        have h2 := sumS_nonneg (q := q) fun y hy => hq y (by simp [hy])
        rw [sumS_cons] at hs; simp at hs; omega
    subst this
    cases K' <;> rfl
  | succ K ih =>
    intro K' q t hq hs hK
    obtain ⟨K', rfl⟩ : ∃ k, K' = k + 1 := ⟨K' - 1, by omega⟩
    cases q with
    | nil => rfl
    | cons x q =>
      have h1 := hq x (by simp)
      have hq' : ∀ y ∈ q, 1 ≤ y.2 := fun y hy => hq y (by simp [hy])
      rw [sumS_cons] at hs
      unfold planK
      by_cases hc : x.2 ≤ f
      · rw [if_pos hc, if_pos hc, ih K' q _ hq' (by omega) (by omega)]
      · rw [if_neg hc, if_neg hc, ih K' _ _ ?_ ?_ (by omega)]
        · intro y hy
          rw [List.mem_append] at hy
          rcases hy with hy | hy
          · exact hq' y hy
          · simp at hy; subst hy; simp; omega
        · rw [sumS_append, sumS_cons]; simp [sumS]; simp [sumS] at hs; omega
theorem plan_nil (f t : Int) : plan f [] t = [] := by
  unfold plan
  simp [sumS]
  rfl
theorem plan_last (f : Int) (hf : 1 ≤ f) (i s : Int) (q : List (Int × Int)) (t : Int) (hq : ∀ x ∈ q, 1 ≤ x.2) (hs : 1 ≤ s) (hc : s ≤ f) : plan f ((i, s) :: q) t = (i, t + s) :: plan f q (t + s) := by
  unfold plan
  have h2 := sumS_nonneg hq
  rw [sumS_cons]
  obtain ⟨K, hK⟩ : ∃ K : Nat, (s + sumS q).toNat = K + 1 := ⟨(s + sumS q).toNat - 1, by omega⟩
  simp only
  rw [hK, planK_succ, if_pos hc]
  congr 1
  exact planK_more f hf (sumS q).toNat K q _ hq (by omega) (by omega)
theorem plan_more (f : Int) (hf : 1 ≤ f) (i s : Int) (q : List (Int × Int)) (t : Int) (hq : ∀ x ∈ q, 1 ≤ x.2) (hc : f < s) : plan f ((i, s) :: q) t = plan f (q ++ [(i, s - f)]) (t + f) := by
  unfold plan
  have h2 := sumS_nonneg hq
  have e : sumS (q ++ [(i, s - f)]) = sumS q + (s - f) := by rw [sumS_append, sumS_cons]; simp [sumS]
  rw [sumS_cons, e]
  obtain ⟨K, hK⟩ : ∃ K : Nat, (s + sumS q).toNat = K + 1 := ⟨(s + sumS q).toNat - 1, by omega⟩
  simp only
  rw [hK, planK_succ, if_neg (by simp; omega)]
  refine planK_more f hf (sumS q + (s - f)).toNat K _ _ ?_ (by rw [e]; omega) (by omega)
  intro y hy
  rw [List.mem_append] at hy
  rcases hy with hy | hy
  · exact hq y hy
  · simp at hy; subst hy; simp; omega

/-- What is wrong with jobs, those behind 'seen'. -/
def jobsF (seen : List (Int × Int)) : List (Int × Int) → Int
  | [] => 0
  | j :: r => if j.2 < 1 ∨ 10000 < j.2 then 1 else if seen.any (fun x => x.1 == j.1) then 5 else jobsF (seen ++ [j]) r
theorem jobsF_ok : ∀ (l seen : List (Int × Int)), jobsF seen l = 0 → ∀ x ∈ l, 1 ≤ x.2 ∧ x.2 ≤ 10000
  | [], _, _ => by simp
  | j :: r, seen, h => by
    unfold jobsF at h
    split at h
    · cases h
    · split at h
      · cases h
      · intro x hx
        rw [List.mem_cons] at hx
        rcases hx with rfl | hx
        · omega
        · exact jobsF_ok r _ h x hx
theorem jobsF_cases : ∀ (l seen : List (Int × Int)), jobsF seen l = 0 ∨ jobsF seen l = 1 ∨ jobsF seen l = 5
  | [], _ => .inl rfl
  | j :: r, seen => by
    unfold jobsF
    split
    · simp
    · split
      · simp
      · exact jobsF_cases r _
/-- What Plan's check answers. -/
def planF (l : List (Int × Int)) (f : Int) : Int := if 100 < l.length then 2 else if f < 1 ∨ 10000 < f then 1 else jobsF [] l
end Go.Proofs.Ytjblfkoepedhpaa
