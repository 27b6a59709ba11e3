/-
  Lines: a task taken, by both: the parts.
-/
import Derived.Test.YtaecgapoaagjfaaSteal7
namespace Go.Proofs.Ytaecgapoaagjfaa
open Go.RowKit

theorem ints_drop (xs : List Int) (k : Nat) : (ints xs).drop k = ints (xs.drop k) := by simp [ints, List.map_drop]
theorem ints_take (xs : List Int) (k : Nat) : (ints xs).take k = ints (xs.take k) := by simp [ints, List.map_take]
/-- the slice without its first k elements -/
theorem OwnAt.tailsS {w : World} {base : Nat} {e : TypeId} {size n cap : Nat} {xs : List Value} {P : Program} {t : TypeId} {i : TypeInfo} (ht : P.underlying t = some (.slice e)) (hi : P.info? e = some i) (hsz : i.size = size) {g o : Nat} (h : OwnAt w base e size (some ⟨g, o, none⟩) n cap xs) {k : Nat} (hk : k ≤ n) :
    ∃ o', (∀ w, (Instr.slice t (.slice (some ⟨g, o, none⟩) n cap) (some (.int .i64 k)) none none).run P w = .ok (.slice (some ⟨g, o', none⟩) (n - k) (cap - k)) w) ∧ Row w w.heap.size (some ⟨g, o', none⟩) (xs.drop (k * size)) := by
  have he : P.elem t = e := by simp [Program.elem, ht]
  have hr : ∀ w, (Instr.slice t (.slice (some ⟨g, o, none⟩) n cap) (some (.int .i64 k)) none none).run P w = .ok (sliced (some ⟨g, o, none⟩) k n cap size) w := fun w => by
    rw [run_slice_l w t _ n cap (by rw [he]; exact ht) .i64 k (by omega) (by omega), he]
    simp [sizeOf, typeInfo, hi, hsz]
  by_cases hc : cap = k
  · refine ⟨o, fun w => ?_, ?_⟩
    · rw [hr]; simp [sliced, hc]
    · have hcl := h.cap_le
      rw [List.drop_of_length_le (by rw [h.1]; exact Nat.mul_le_mul_right _ (by omega))]
      exact Row.nil
  · refine ⟨o + k * size, fun w => ?_, (h.cut hk).row⟩
    rw [hr]; simp only [sliced, if_neg hc, Option.map_some, addr_add]
/-- the slice's first k elements -/
theorem OwnAt.front {w : World} {base : Nat} {e : TypeId} {size n cap : Nat} {A : Option Addr} {xs : List Value} (h : OwnAt w base e size A n cap xs) {k : Nat} (hk : k ≤ n) : OwnAt w base e size A k cap (xs.take (k * size)) := by
  have hkn : k * size ≤ n * size := Nat.mul_le_mul_right _ hk
  refine ⟨by rw [List.length_take, h.1]; omega, ?_⟩
  rcases h.2 with ⟨h1, h2, h3⟩ | ⟨g, o, cur, h1, h2, h3, h4, h5, h6, h7⟩
  · exact .inl ⟨h1, by omega, h3⟩
  · exact .inr ⟨g, o, cur, h1, h2, h3, by omega, h5, h6, by rw [← h7, List.take_take, Nat.min_eq_left hkn]⟩
theorem LineOwn.front {w : World} {base : Nat} {y : BC} {ys : List Int} (h : LineOwn w base y ys) {k : Nat} (hk : k ≤ ys.length) : LineOwn w base ⟨y.A, k, y.cap⟩ (ys.take k) := by
  have hl : (ys.take k).length = k := by rw [List.length_take]; omega
  refine ⟨hl.symm, ?_, fun v hv => h.rng v (List.mem_of_mem_take hv), by have := h.big; omega⟩
  have := h.own.front hk
  rw [Nat.mul_one, ints_take] at this
  rw [hl]
  exact this
/-- A front part, and the rest, copied. -/
theorem clone_front {w : World} {base : Nat} (y : BC) (ys : List Int) (h : LineOwn w base y ys) (k : Nat) (hk : k ≤ ys.length) :
    Calls Try.prog 147 #[.slice y.A k y.cap] w fun e w' => ∃ z : BC, e = .returned (.slice z.A k z.cap) ∧ LineOwn w' w.heap.size z (ys.take k) ∧ Below w.heap.size w w' := by
  have := cloneI ⟨y.A, k, y.cap⟩ (ys.take k) _ w (h.front hk).iin
  rw [show (ys.take k).length = k by rw [List.length_take]; omega] at this
  exact this
theorem clone_rest {w : World} (A : Option Addr) (c m k : Nat) (ys : List Int) (B : Nat) (hr : Row w B A (ints (ys.drop k))) (hA : A = none → c = 0) (hm : ys.length - k = m) (hrng : ∀ v ∈ ys, I64 v) (hbig : ys.length ≤ 17592186044416) :
    Calls Try.prog 147 #[.slice A m c] w fun e w' => ∃ z : BC, e = .returned (.slice z.A m z.cap) ∧ LineOwn w' w.heap.size z (ys.drop k) ∧ Below w.heap.size w w' := by
  have hl : (ys.drop k).length = m := by rw [List.length_drop]; exact hm
  rw [← hl]
  refine (clone_any A c (ys.drop k) B w hr hA (by omega)).mono ?_
  rintro e w' ⟨v, rfl, ho, hb⟩
  obtain ⟨A', cap, rfl, ho2⟩ := OwnAt.of_own ho
  exact ⟨⟨A', _, cap⟩, rfl, ⟨rfl, ho2, fun v hv => hrng v (List.mem_of_mem_drop hv), by omega⟩, hb⟩

/-- One line replaced by one whose block no other has. -/
theorem OwnLines.put' {w w' : World} {base c g o : Nat} {l : List BC} {vs : List (List Int)} (h : OwnLines w base (some ⟨g, o, none⟩) c l vs) {q : Nat} (hq : q < l.length) (ho : Only (fun b => blkS (l.getD q bc0).A b) w w') {y : BC} {ys : List Int} (hy : LineOwn w' base y ys) (hyb : ∀ b, blkS y.A b → b ≠ g ∧ ∀ j, j < l.length → j ≠ q → ¬ blkS (l.getD j bc0).A b) :
    OwnLines (w'.setCell ⟨g, o + q, none⟩ (.slice y.A y.len y.cap)) base (some ⟨g, o, none⟩) c (l.set q y) (vs.set q ys) := by
  have hgq : ¬ blkS (l.getD q bc0).A g := fun hb => h.off q hq g hb rfl
  have hyg : ¬ blkS y.A g := fun hb => (hyb g hb).1 rfl
  have hlen : (l.set q y).length = l.length := List.length_set ..
  have hos : Only (fun b => b = g) w' (w'.setCell ⟨g, o + q, none⟩ (.slice y.A y.len y.cap)) := (Only.refl (fun b => b = g) w').set (p := ⟨g, o + q, none⟩) rfl _
  have hvq : q < vs.length := by rw [← h.len]; exact hq
  refine ⟨by rw [hlen, List.length_set]; exact h.len, ?_, fun i hi => ?_, fun i hi b hb => ?_, fun i j hi hj hne b hb => ?_⟩
  · have h1 : OwnAt w' base 64 1 (some ⟨g, o, none⟩) l.length c (flat lnC l) := h.row.only ho (fun b hb => by simp at hb; subst hb; exact hgq)
    have h2 := h1.set (j := q) (.slice y.A y.len y.cap)
    rw [hlen]
    have h3 := flat_set (j := 0) lnC_len l (.slice y.A y.len y.cap) (getD_some bc0 hq) (by decide) y rfl
    rw [Nat.mul_one, Nat.add_zero] at h3
    rw [← h3]
    exact h2
  · rw [hlen] at hi
    rw [getD_setS l bc0 q i y hq, getD_setS vs [] q i ys hvq]
    by_cases e : i = q
    · rw [if_pos e, if_pos e]
      exact hy.only hos (fun b hb e => by subst e; exact hyg hb)
    · rw [if_neg e, if_neg e]
      exact ((h.each i hi).only ho (fun b hb hb2 => h.part i q hi hq e b hb hb2)).only hos (fun b hb e => by subst e; exact h.off i hi _ hb rfl)
  · rw [hlen] at hi
    rw [getD_setS l bc0 q i y hq] at hb
    by_cases e : i = q
    · rw [if_pos e] at hb
      intro h2
      simp [blkS] at h2
      subst h2
      exact hyg hb
    · rw [if_neg e] at hb
      exact h.off i hi b hb
  · rw [hlen] at hi hj
    rw [getD_setS l bc0 q i y hq] at hb
    rw [getD_setS l bc0 q j y hq]
    by_cases e : i = q
    · rw [if_pos e] at hb
      rw [if_neg (fun e2 => hne (e.trans e2.symm))]
      exact (hyb b hb).2 j hj (fun e2 => hne (e.trans e2.symm))
    · rw [if_neg e] at hb
      by_cases e2 : j = q
      · rw [if_pos e2]
        exact fun h2 => (hyb b h2).2 i hi e hb
      · rw [if_neg e2]
        exact h.part i j hi hj hne b hb

/-- What was stolen. -/
def stolen (vs : List (List Int)) (p v : Nat) : List (List Int) := (vs.set p ((vs.getD v []).take (((vs.getD v []).length + 1) / 2))).set v ((vs.getD v []).drop (((vs.getD v []).length + 1) / 2))
/-- The lines ahead of the taking; none, if nobody has a task. -/
def ready (vs : List (List Int)) (p : Nat) : Option (List (List Int)) :=
  if (vs.getD p []).length = 0 then (if vicTo vs p (vs.length - 1) < 0 then none else some (stolen vs p (vicTo vs p (vs.length - 1)).toNat)) else some vs
def lastOf (us : List (List Int)) (p : Nat) : Int := (us.getD p []).getD ((us.getD p []).length - 1) 0
def cutOf (us : List (List Int)) (p : Nat) : List (List Int) := us.set p ((us.getD p []).take ((us.getD p []).length - 1))
theorem stolen_len (vs : List (List Int)) (p v : Nat) : (stolen vs p v).length = vs.length := by unfold stolen; rw [List.length_set, List.length_set]
theorem ready_some {vs us : List (List Int)} {p : Nat} (hp : p < vs.length) (h : ready vs p = some us) : us.length = vs.length ∧ 1 ≤ (us.getD p []).length := by
  unfold ready at h
  by_cases h0 : (vs.getD p []).length = 0
  · rw [if_pos h0] at h
    by_cases h1 : vicTo vs p (vs.length - 1) < 0
    · rw [if_pos h1] at h; cases h
    · rw [if_neg h1] at h
      injection h with h
      subst h
      refine ⟨stolen_len _ _ _, ?_⟩
      rcases vic_spec vs p (vs.length - 1) with ⟨e, _⟩ | ⟨k0, k1, k2, e, e2, _⟩
      · omega
      · have hne := rot_ne hp k1 k2
        have hlt := rot_lt hp (show k0 ≤ vs.length by omega)
        rw [e, Int.toNat_natCast]
        unfold stolen
        rw [getD_setS _ [] _ _ _ (by rw [List.length_set]; exact hlt), if_neg (fun h => hne h.symm), getD_setS _ [] _ _ _ hp, if_pos rfl, List.length_take]
        unfold lnLen at e2
        omega
  · rw [if_neg h0] at h
    injection h with h
    subst h
    exact ⟨rfl, by omega⟩
end Go.Proofs.Ytaecgapoaagjfaa
