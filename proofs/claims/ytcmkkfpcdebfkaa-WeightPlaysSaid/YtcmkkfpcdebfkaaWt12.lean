/-
  The two sides together, and what a play makes of them.
-/
import Derived.Test.YtcmkkfpcdebfkaaWt9
import Derived.Test.YtcmkkfpcdebfkaaWt10
import Derived.Test.YtcmkkfpcdebfkaaWt11
namespace Go.Proofs.Ytcmkkfpcdebfkaa
open Go.RowKit

structure WBoth (W w : World) (f : Nat → Nat) (x m N q : Nat) (s : WS) (r : XR) (r2 : MR) : Prop where
  X : XAt w W.heap.size f x N q s r
  M : MS w W.heap.size f m N s r2
  ok : WOk N s
  hb : Below W.heap.size W w
  f0 : ∀ b, b < W.heap.size → f b = 0
/-- Between the two calls of a play. -/
structure WHalf (W w : World) (f : Nat → Nat) (x m N q : Nat) (s s' : WS) (r : XR) (r2 : MR) : Prop where
  X : XAt w W.heap.size f x N q s' r
  M : MS w W.heap.size f m N s r2
  hb : Below W.heap.size W w
  f0 : ∀ b, b < W.heap.size → f b = 0
section
variable {W w w1 : World} {f : Nat → Nat} {x m N q : Nat} {s s' : WS} {r : XR} {r2 : MR}
theorem WBoth.below (h : WBoth W w f x m N q s r r2) (hb : Below w.heap.size w w1) : WBoth W w1 f x m N q s r r2 :=
  ⟨h.X.below hb, MAt.below h.M hb, h.ok, h.hb.trans (hb.mono h.hb.size), h.f0⟩
theorem WBoth.mono (h : WBoth W w f x m N q s r r2) {q' : Nat} (hq : q ≤ q') : WBoth W w f x m N q' s r r2 := ⟨h.X.mono hq, h.M, h.ok, h.hb, h.f0⟩
theorem WBoth.step (h : WBoth W w f x m N q s r r2) {q' : Nat} (hX : XPost w w1 W.heap.size f x N q' s') : ∃ f1 r1, WHalf W w1 f1 x m N q' s s' r1 r2 := by
  obtain ⟨f1, r1, h1, hO, hf⟩ := hX
  refine ⟨f1, r1, h1, MAt.keep h.M hO (fun b hb => ?_) hf, hO.to_below h.hb h.hb.size (fun i hi => ?_), fun b hb => (hf b (Nat.lt_of_lt_of_le hb h.hb.size)).trans (h.f0 b hb)⟩
  · have hb' : xlab (f b) := hb
    unfold xlab at hb'
    unfold mlab
    omega
  · rcases Nat.lt_or_ge i W.heap.size with hl | hl
    · have hi' : xlab (f i) := hi
      have := h.f0 i hl
      unfold xlab at hi'
      omega
    · exact hl
theorem WHalf.step (h : WHalf W w f x m N q s s' r r2) (hok : WOk N s') (hM : MSPost w w1 W.heap.size f m N s') : ∃ f1 r1 r3, WBoth W w1 f1 x m N q s' r1 r3 := by
  obtain ⟨f1, r1, h1, hO, hf⟩ := hM
  refine ⟨f1, r, r1, h.X.keep hO (fun b hb => ?_) hf, h1, hok, hO.to_below h.hb h.hb.size (fun i hi => ?_), fun b hb => (hf b (Nat.lt_of_lt_of_le hb h.hb.size)).trans (h.f0 b hb)⟩
  · have hb' : mlab (f b) := hb
    unfold mlab at hb'
    unfold xlab
    omega
  · rcases Nat.lt_or_ge i W.heap.size with hl | hl
    · have hi' : mlab (f i) := hi
      have := h.f0 i hl
      unfold mlab at hi'
      omega
    · exact hl
end

theorem wok_new {n : Int} {s : WS} {a : Int} (h : WOk n s) (he : makeE n s a = 0) : WOk n (s.new a) := by
  unfold makeE at he
  by_cases h1 : a < 0 ∨ n ≤ a
  · rw [if_pos h1] at he; cases he
  rw [if_neg h1] at he
  by_cases h2 : s.T.length = 20
  · rw [if_pos h2] at he; cases he
  have ht := h.t20
  refine ⟨h.n1, h.n8, by simp [WS.new]; omega, h.y60, fun i hi => ?_, fun i hi => ?_⟩
  · simp only [WS.new, List.length_append, List.length_singleton] at hi
    rcases Nat.lt_or_ge i s.T.length with hl | hl
    · have := h.home i hl
      simp only [WS.new, List.getD_eq_getElem?_getD, List.getElem?_append_left hl] at this ⊢
      exact this
    · obtain rfl : i = s.T.length := by omega
      simp only [WS.new, List.getD_eq_getElem?_getD, List.getElem?_append_right (Nat.le_refl _), Nat.sub_self, List.getElem?_cons_zero, Option.getD_some]
      omega
  · have := h.way i hi
    simp only [WS.new, List.length_append, List.length_singleton] at this ⊢
    omega
theorem wok_home {n : Int} {s : WS} (h : WOk n s) {k : Nat} {z : Th} (hz : k < s.T.length → z.home = (s.T.getD k th0).home) : ∀ i, i < (s.T.set k z).length → 0 ≤ ((s.T.set k z).getD i th0).home ∧ ((s.T.set k z).getD i th0).home < n := fun i hi => by
  rw [List.length_set] at hi
  by_cases hk : k < s.T.length
  · rw [set_getD _ _ _ _ _ hk]
    by_cases e : i = k
    · rw [if_pos e, hz hk]; exact h.home k hk
    · rw [if_neg e]; exact h.home i hi
  · rw [List.set_eq_of_length_le (by omega)]
    exact h.home i hi
theorem wok_put {n : Int} {s : WS} (h : WOk n s) (k : Nat) (j v : Int) : ∀ i, i < (s.T.set k ((s.T.getD k th0).put j v)).length → 0 ≤ ((s.T.set k ((s.T.getD k th0).put j v)).getD i th0).home ∧ ((s.T.set k ((s.T.getD k th0).put j v)).getD i th0).home < n := wok_home h fun _ => rfl
theorem wok_turn {n : Int} {s : WS} (h : WOk n s) (k : Nat) (v : Int) : ∀ i, i < (s.T.set k ((s.T.getD k th0).turn v)).length → 0 ≤ ((s.T.set k ((s.T.getD k th0).turn v)).getD i th0).home ∧ ((s.T.set k ((s.T.getD k th0).turn v)).getD i th0).home < n := wok_home h fun _ => rfl
theorem wok_push {n : Int} {s : WS} (h : WOk n s) (h60 : s.Y.length ≠ 60) {T' : List Th} (hT : T'.length = s.T.length) (hh : ∀ i, i < T'.length → 0 ≤ (T'.getD i th0).home ∧ (T'.getD i th0).home < n) {y : Wy} (hy : 0 ≤ y.1 ∧ y.1 < n ∧ 0 ≤ y.2.1 ∧ y.2.1 < s.T.length) : WOk n ⟨T', s.Y ++ [y]⟩ := by
  have hy60 := h.y60
  refine ⟨h.n1, h.n8, by rw [hT]; exact h.t20, by simp; omega, hh, fun i hi => ?_⟩
  simp only [List.length_append, List.length_singleton] at hi
  show _ ∧ _ ∧ _ ∧ _ < (T'.length : Int)
  rw [hT]
  rcases Nat.lt_or_ge i s.Y.length with hl | hl
  · have := h.way i hl
    simp only [List.getD_eq_getElem?_getD, List.getElem?_append_left hl] at this ⊢
    exact this
  · obtain rfl : i = s.Y.length := by omega
    simp only [List.getD_eq_getElem?_getD, List.getElem?_append_right (Nat.le_refl _), Nat.sub_self, List.getElem?_cons_zero, Option.getD_some]
    exact hy
theorem wok_sent {n : Int} {s : WS} {node t u : Int} (h : WOk n s) (he : sendE n s node t u = 0) : WOk n (s.sent node t u) := by
  unfold sendE at he
  by_cases h1 : hasE n s node t = 0
  case neg => rw [if_pos h1] at he; exact absurd he h1
  rw [if_neg (by simp [h1])] at he
  obtain ⟨k, rfl, hk, hn0, hnn, _, _⟩ := has_cases h1
  by_cases h2 : (u < 0 ∨ n ≤ u) ∨ u = node
  · rw [if_pos h2] at he; cases he
  rw [if_neg h2] at he
  by_cases h4 : s.Y.length = 60
  · rw [if_pos h4] at he; cases he
  exact wok_push (y := (u, (k : Int), half ((s.at k).has node), false)) h h4 (T' := (s.sent node k u).T) List.length_set (wok_put h _ _ _) ⟨by show 0 ≤ u; omega, by show u < n; omega, by show (0 : Int) ≤ k; omega, by show (k : Int) < _; omega⟩
theorem wok_dropped {n : Int} {s : WS} {node t : Int} (h : WOk n s) (he : dropE n s node t = 0) : WOk n (s.dropped node t) := by
  unfold dropE at he
  by_cases h1 : hasE n s node t = 0
  case neg => rw [if_pos h1] at he; exact absurd he h1
  rw [if_neg (by simp [h1])] at he
  obtain ⟨k, rfl, hk, hn0, hnn, _, _⟩ := has_cases h1
  by_cases h4 : s.Y.length = 60
  · rw [if_pos h4] at he; cases he
  have hh := h.home k hk
  exact wok_push (y := ((s.at k).home, (k : Int), (s.at k).has node, true)) h h4 (T' := (s.dropped node k).T) List.length_set (wok_put h _ _ _) ⟨hh.1, hh.2, by show (0 : Int) ≤ k; omega, by show (k : Int) < _; omega⟩
theorem wok_came {n : Int} {s : WS} {k : Nat} (h : WOk n s) (hk : k < s.Y.length) : WOk n (s.came k) := by
  have hl : (cameT s.T (s.Y.getD k wyd)).length = s.T.length := by
    unfold cameT
    split <;> simp
  refine ⟨h.n1, h.n8, by show (cameT _ _).length ≤ 20; rw [hl]; exact h.t20, ?_, ?_, fun i hi => ?_⟩
  · have := h.y60
    simp [WS.came]
    omega
  · show ∀ i, i < (cameT s.T (s.Y.getD k wyd)).length → 0 ≤ ((cameT s.T (s.Y.getD k wyd)).getD i th0).home ∧ ((cameT s.T (s.Y.getD k wyd)).getD i th0).home < n
    unfold cameT
    split
    · exact wok_turn h _ _
    · exact wok_put h _ _ _
  · show _ ∧ _ ∧ _ ∧ _ < ((cameT _ _).length : Int)
    rw [hl]
    simp only [WS.came, List.length_append, List.length_take, List.length_drop] at hi
    simp only [WS.came, List.getD_eq_getElem?_getD]
    rcases Nat.lt_or_ge i k with h1 | h1
    · rw [List.getElem?_append_left (by simp; omega), List.getElem?_take, if_pos h1]
      have := h.way i (by omega)
      simpa only [List.getD_eq_getElem?_getD] using this
    · rw [List.getElem?_append_right (by simp; omega), List.getElem?_drop]
      have hlk : (s.Y.take k).length = k := by simp; omega
      rw [hlk, show k + 1 + (i - k) = i + 1 by omega]
      have := h.way (i + 1) (by omega)
      simpa only [List.getD_eq_getElem?_getD] using this

theorem at_any (A : Option Addr) (n c : Nat) (xs : List Int) (i : Int) (B : Nat) (w : World) (h : Row w B A (ints xs)) (hn : xs.length = n) (hm : n ≤ maxLen) (hi : 0 ≤ i) :
    Calls Try.prog 53 #[.slice A n c, .int .i64 i] w fun e w' => e = .returned (.int .i64 (xs.getD i.toNat 0)) ∧ w = w' := by
  obtain ⟨k, rfl⟩ := Int.eq_ofNat_of_zero_le hi
  rw [Int.toNat_natCast]
  subst hn
  unfold maxLen at hm
  by_cases hk : k < xs.length
  · obtain ⟨b, o, rfl, _, hc⟩ := h.int hk
    generalize xs.getD k 0 = z at *
    go_enter Try.func53, Try.ntmps53
    go_wp2
    go_ret
    exact ⟨rfl, rfl⟩
  · have hz : xs.getD k 0 = 0 := by simp [List.getD_eq_getElem?_getD, List.getElem?_eq_none (show xs.length ≤ k by omega)]
    rw [hz]
    clear hz
    go_enter Try.func53, Try.ntmps53
    go_wp2
    go_ret
    exact ⟨rfl, rfl⟩
end Go.Proofs.Ytcmkkfpcdebfkaa
