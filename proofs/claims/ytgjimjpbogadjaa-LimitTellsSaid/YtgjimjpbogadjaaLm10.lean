
/-
  Quotas: the four comparisons at the end of the law, each as one fact about the call that makes what is wanted.
-/
import Derived.Test.YtgjimjpbogadjaaLm9
namespace Go.Proofs.Ytgjimjpbogadjaa
open Go.RowKit

theorem lm_am1 {r : Lm} {a b T : Int} {AM : Bool} (hT : tkE r a b = T) (hA : (amt a && amt b) = AM) (h : T = 0) : AM = true := by
  unfold tkE at hT
  rw [hA, h] at hT
  cases AM
  · rw [if_pos rfl] at hT; cases hT
  · rfl
theorem lm_am2 {r : Lm} {a b G : Int} {AM : Bool} (hG : gvE r a b = G) (hA : (amt a && amt b) = AM) (h : G = 0) : AM = true := by
  unfold gvE at hG
  rw [hA, h] at hG
  have hng : ¬ (AM = false ∨ r.lt < a ∨ r.ce < b) := fun hh => by rw [if_pos hh] at hG; cases hG
  cases AM
  · exact absurd (.inl rfl) hng
  · rfl
theorem lm_fk {l : List Lm} {r : Lm} {K a b T FK : Int} (hF : fkE l r K a b = FK) (hT : tkE r a b = T) (hl : l.length ≤ 100) (h : FK = 0) : K < 0 ∧ T = 0 ∧ l.length ≤ 99 := by
  unfold fkE at hF
  rw [hT, h] at hF
  have hK0 : ¬ 0 ≤ K := fun hh => by rw [if_pos hh] at hF; cases hF
  rw [if_neg hK0] at hF
  have hT0 : T = 0 := by
    by_cases hT : T = 0
    · exact hT
    · rw [if_pos hT] at hF; exact absurd hF hT
  rw [if_neg (by simpa using hT0)] at hF
  refine ⟨by omega, hT0, ?_⟩
  by_cases hh : l.length = 100
  · rw [if_pos hh] at hF; cases hF
  · omega
theorem lm_jn {l : List Lm} {i : Nat} {K JN : Int} (hJ : jnE l i K = JN) (h : JN = 0) : 0 ≤ K := by
  unfold jnE at hJ
  rw [h] at hJ
  by_cases hK : K < 0
  · rw [if_pos hK] at hJ; cases hJ
  · omega
theorem lm_c1 {A : Option Addr} {c : Nat} {l L : List Lm} {i : Nat} {y0 y1 y2 y3 y4 a b T : Int} {AM : Bool} {W : World}
    (hr : ∀ w' : World, Below W.heap.size W w' → Row w' w'.heap.size A (flat lmC l)) (hA : A = none → c = 0) (hil : i < l.length) (hl : l.length ≤ 100)
    (hT : tkE ⟨y0, y1, y2, y3, y4⟩ a b = T) (hAM : (amt a && amt b) = AM) (har : AM = true → (0 ≤ a ∧ a ≤ 1073741824) ∧ (0 ≤ b ∧ b ≤ 1073741824))
    (k1 : 0 ≤ y1 ∧ y1 ≤ 1073741824) (k2 : 0 ≤ y2 ∧ y2 ≤ 1073741824) (hq : T = 0 → L = l.set i (tkR ⟨y0, y1, y2, y3, y4⟩ a b)) :
    ∀ w' : World, Below W.heap.size W w' → T = 0 → Calls Try.prog 42 #[.slice A l.length c, .int .i64 i, .agg #[.int .i64 y0, .int .i64 (wrap64 (y1 + a)), .int .i64 (wrap64 (y2 + b)), .int .i64 y3, .int .i64 y4]] w' fun e w'' => LmOwn L w' e w'' := by
  intro w' hb h
  obtain ⟨⟨a1, a2⟩, b1, b2⟩ := har (lm_am1 hT hAM h)
  rw [IntWalk.wrap64_in (y1 + a) (by omega), IntWalk.wrap64_in (y2 + b) (by omega), hq h]
  exact limited_any A c l i ⟨y0, y1 + a, y2 + b, y3, y4⟩ w' (hr w' hb) hA hil hl
theorem lm_c2 {A : Option Addr} {c : Nat} {l L : List Lm} {i : Nat} {y0 y1 y2 y3 y4 a b G : Int} {AM : Bool} {W : World}
    (hr : ∀ w' : World, Below W.heap.size W w' → Row w' w'.heap.size A (flat lmC l)) (hA : A = none → c = 0) (hil : i < l.length) (hl : l.length ≤ 100)
    (hG : gvE ⟨y0, y1, y2, y3, y4⟩ a b = G) (hAM : (amt a && amt b) = AM) (har : AM = true → (0 ≤ a ∧ a ≤ 1073741824) ∧ (0 ≤ b ∧ b ≤ 1073741824))
    (k1 : 0 ≤ y1 ∧ y1 ≤ 1073741824) (k2 : 0 ≤ y2 ∧ y2 ≤ 1073741824) (hq : G = 0 → L = l.set i (gvR ⟨y0, y1, y2, y3, y4⟩ a b)) :
    ∀ w' : World, Below W.heap.size W w' → G = 0 → Calls Try.prog 42 #[.slice A l.length c, .int .i64 i, .agg #[.int .i64 y0, .int .i64 (wrap64 (y1 - a)), .int .i64 (wrap64 (y2 - b)), .int .i64 y3, .int .i64 y4]] w' fun e w'' => LmOwn L w' e w'' := by
  intro w' hb h
  obtain ⟨⟨a1, a2⟩, b1, b2⟩ := har (lm_am2 hG hAM h)
  rw [IntWalk.wrap64_in (y1 - a) (by omega), IntWalk.wrap64_in (y2 - b) (by omega), hq h]
  exact limited_any A c l i ⟨y0, y1 - a, y2 - b, y3, y4⟩ w' (hr w' hb) hA hil hl
theorem lm_c3 {A : Option Addr} {c : Nat} {l L : List Lm} {i : Nat} {r : Lm} {a b tt T FK : Int} {AM : Bool} {W : World}
    (hr : ∀ w' : World, Below W.heap.size W w' → Row w' w'.heap.size A (flat lmC l)) (hA : A = none → c = 0) (hil : i < l.length) (hok : LmOk l)
    (hT : tkE r a b = T) (hAM : (amt a && amt b) = AM) (har : AM = true → (0 ≤ a ∧ a ≤ 1073741824) ∧ (0 ≤ b ∧ b ≤ 1073741824)) (hF : fkE l r (lmAt l tt) a b = FK) (hy : l.getD i lm0 = r)
    (hq : FK = 0 → L = putLm ⟨tt, 0, 0, a, b⟩ (l.set i (fkR r a b))) :
    ∀ w' : World, Below W.heap.size W w' → FK = 0 → Calls Try.prog 43 #[.slice A l.length c, .int .i64 i, .int .i64 tt, .int .i64 a, .int .i64 b] w' fun e w'' => LmOwn L w' e w'' := by
  intro w' hb h
  obtain ⟨hK, hT0, hl9⟩ := lm_fk hF hT hok.len h
  have ham := har (lm_am1 hT hAM hT0)
  have hlq := forked_any A c l i tt a b w' (hr w' hb) hA hil hok hl9 ham.1 ham.2 (lmAt_none hK)
  rw [hy, (hq h).symm] at hlq
  exact hlq
theorem lm_c4 {A : Option Addr} {c : Nat} {l L : List Lm} {i : Nat} {tt K JN : Int} {W : World}
    (hr : ∀ w' : World, Below W.heap.size W w' → Row w' w'.heap.size A (flat lmC l)) (hA : A = none → c = 0) (hil : i < l.length) (hok : LmOk l) (hK : lmAt l tt = K) (hJ : jnE l i K = JN)
    (hq : JN = 0 → L = (l.set (lmAt l tt).toNat (jnR (l.getD (lmAt l tt).toNat lm0) (l.getD i lm0))).eraseIdx i) :
    ∀ w' : World, Below W.heap.size W w' → JN = 0 → Calls Try.prog 44 #[.slice A l.length c, .int .i64 i, .int .i64 K] w' fun e w'' => LmOwn L w' e w'' := by
  intro w' hb h
  have hK0 := lm_jn hJ h
  have hrange := lmAt_range l tt
  rw [hK] at hrange
  obtain ⟨k, hk, hkl⟩ : ∃ k : Nat, K = (k : Int) ∧ k < l.length := by
    rcases hrange with hh | hh
    · omega
    · exact hh
  have hlq := joined_any A c l i k w' (hr w' hb) hA hil hkl hok
  have hq4 := hq h
  rw [hK, hk, Int.toNat_natCast] at hq4
  rw [hk, hq4]
  exact hlq
end Go.Proofs.Ytgjimjpbogadjaa
