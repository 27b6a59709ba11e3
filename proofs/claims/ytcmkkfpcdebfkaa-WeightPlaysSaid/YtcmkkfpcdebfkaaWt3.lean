/-
  weight.New and Under, the reference's err; the two sides as they are made.
-/
import Derived.Test.YtcmkkfpcdebfkaaWt2
namespace Go.Proofs.Ytcmkkfpcdebfkaa
open Go.RowKit

theorem wnew_bad (n : Int) (w : World) (h : n < 1 ∨ 8 < n) : Calls Try.prog 47 #[.int .i64 n] w fun e w' => e = .returned (.tuple #[.pointer none, .int .i64 1]) ∧ w = w' := by
  by_cases h1 : n < 1
  · have d1 : decide (n < 1) = true := by simp; omega
    clear h
    go_enter Try.func47, Try.ntmps47
    go_wp2_with fail
    go_ret2
    exact ⟨rfl, rfl⟩
  have d1 : decide (n < 1) = false := by simp; omega
  have d2 : decide (8 < n) = true := by simp; omega
  clear h
  go_enter Try.func47, Try.ntmps47
  go_wp2_with fail
  go_ret2
  exact ⟨rfl, rfl⟩
theorem wnew_ok (n : Int) (w : World) (h1 : 1 ≤ n) (h8 : n ≤ 8) : Calls Try.prog 47 #[.int .i64 n] w fun e w' =>
    e = .returned (.tuple #[.pointer (some ⟨w.heap.size, 0, none⟩), .int .i64 0]) ∧ w' = w.alloc (.cells #[.int .i64 n, .slice none 0 0, .slice none 0 0] 268) := by
  have d1 : decide (n < 1) = false := by simp; omega
  have d2 : decide (8 < n) = false := by simp; omega
  go_enter Try.func47, Try.ntmps47
  go_wp2_with fail
  go_ret2
  exact ⟨rfl, rfl⟩
theorem xat_new (w : World) (B : Nat) (f : Nat → Nat) (n : Int) (q : Nat) (hB : B ≤ w.heap.size) (hf : f w.heap.size = 1) :
    XAt (w.alloc (.cells #[.int .i64 n, .slice none 0 0, .slice none 0 0] 268)) B f w.heap.size n q ⟨[], []⟩ ⟨none, 0, none, 0, []⟩ := by
  refine ⟨⟨Box.new w _ _, fun j hj => ?_, fun j hj b hb => ?_, hf, hB⟩, rfl, fun i hi => absurd hi (Nat.not_lt_zero _), fun i hi => absurd hi (Nat.not_lt_zero _), fun i hi => absurd hi (Nat.not_lt_zero _), fun i hi => absurd hi (Nat.not_lt_zero _)⟩
  · match j, hj with
    | 0, _ => exact OwnAt.nil
    | 1, _ => exact OwnAt.nil
    | j + 2, h => omega
  · match j, hj with
    | 0, _ => cases hb
    | 1, _ => cases hb
    | j + 2, h => omega
theorem ms_new (w : World) (B : Nat) (f : Nat → Nat) (n : Int) (hB : B ≤ w.heap.size) (hf : f w.heap.size = 2) :
    MS (w.alloc (.cells #[.int .i64 n, .slice none 0 0, .slice none 0 0, .slice none 0 0, .slice none 0 0] 100)) B f w.heap.size n ⟨[], []⟩ ⟨none, 0, none, 0, none, 0, none, 0⟩ := by
  refine ⟨Box.new w _ _, fun j hj => ?_, fun j hj b hb => ?_, hf, hB⟩
  · match j, hj with
    | 0, _ => exact OwnAt.nil
    | 1, _ => exact OwnAt.nil
    | 2, _ => exact OwnAt.nil
    | 3, _ => exact OwnAt.nil
    | j + 4, h => omega
  · match j, hj with
    | 0, _ => cases hb
    | 1, _ => cases hb
    | 2, _ => cases hb
    | 3, _ => cases hb
    | j + 4, h => omega

theorem OwnAt.none0 {w : World} {base : Nat} {e : TypeId} {size n cap : Nat} {A : Option Addr} {xs : List Value} (h : OwnAt w base e size A n cap xs) : A = none → cap = 0 := fun e => by
  subst e
  rcases h.form with ⟨_, _, h0⟩ | ⟨g, o, h0⟩
  · exact h0
  · cases h0

theorem under_any (B : Nat) (f : Nat → Nat) (x : Nat) (n : Int) (q : Nat) (s : WS) (r : XR) (w : World) (h : XAt w B f x n q s r) (hy : s.Y.length ≤ 60) :
    Calls Try.prog 52 #[.pointer (some ⟨x, 0, none⟩)] w fun e w' => ∃ v, e = .returned v ∧ w'.ownsRow w.heap.size 95 4 v s.Y.length (flat wyC s.Y) ∧ Below w.heap.size w w' := by
  have c2 := h.c2
  have ho := h.rb.own 1 (by omega)
  have HC := Lib.hid (clone_wy r.A2 r.c2 s.Y w.heap.size w ho.row ho.none0 (by omega))
  clear h ho
  go_enter Try.func52, Try.ntmps52
  go_wp2_with fail
  refine HC.out.mono ?_
  rintro e w1 ⟨v, rfl, h1, h2⟩
  go_wp2_with fail
  go_ret
  exact ⟨v, rfl, h1, h2⟩

theorem h8_get (x : Th) : ∀ j : Nat, j < 8 → (h8C x)[j]? = some (.int .i64 (x.has j))
  | 0, _ => rfl
  | 1, _ => rfl
  | 2, _ => rfl
  | 3, _ => rfl
  | 4, _ => rfl
  | 5, _ => rfl
  | 6, _ => rfl
  | 7, _ => rfl
  | j + 8, h => by omega
section
variable {w : World} {B : Nat} {f : Nat → Nat} {m : Nat} {n : Int} {H K : List Int} {X : List Th} {Y : List Wy} {r : MR}
theorem MAt.d0 (h : MAt w B f m n H K X Y r) : w.cell? ⟨m, 0, none⟩ = some (.int .i64 n) := RBox.c0 h
theorem MAt.d1 (h : MAt w B f m n H K X Y r) : w.cell? ⟨m, 1, none⟩ = some (.slice r.A1 H.length r.c1) := RBox.cr h (j := 0) (by omega)
theorem MAt.d2 (h : MAt w B f m n H K X Y r) : w.cell? ⟨m, 2, none⟩ = some (.slice r.A2 K.length r.c2) := RBox.cr h (j := 1) (by omega)
theorem MAt.d3 (h : MAt w B f m n H K X Y r) : w.cell? ⟨m, 3, none⟩ = some (.slice r.A3 X.length r.c3) := RBox.cr h (j := 2) (by omega)
theorem MAt.d4 (h : MAt w B f m n H K X Y r) : w.cell? ⟨m, 4, none⟩ = some (.slice r.A4 Y.length r.c4) := RBox.cr h (j := 3) (by omega)
theorem MAt.o1 (h : MAt w B f m n H K X Y r) : OwnAt w B 3 1 r.A1 H.length r.c1 (ints H) := RBox.own h 0 (by omega)
theorem MAt.o2 (h : MAt w B f m n H K X Y r) : OwnAt w B 3 1 r.A2 K.length r.c2 (ints K) := RBox.own h 1 (by omega)
theorem MAt.o3 (h : MAt w B f m n H K X Y r) : OwnAt w B 102 8 r.A3 X.length r.c3 (flat h8C X) := RBox.own h 2 (by omega)
theorem MAt.o4 (h : MAt w B f m n H K X Y r) : OwnAt w B 95 4 r.A4 Y.length r.c4 (flat wyC Y) := RBox.own h 3 (by omega)
theorem MAt.hasC (h : MAt w B f m n H K X Y r) {k j : Nat} (hk : k < X.length) (hj : j < 8) : ∃ g o, r.A3 = some ⟨g, o, none⟩ ∧ f g = 7 ∧ w.cell? ⟨g, o + k * 8 + j, none⟩ = some (.int .i64 ((X.getD k th0).has j)) := by
  have ho := h.o3
  obtain ⟨g, o, hA, _⟩ := ho.some_of (show 0 < X.length by omega)
  refine ⟨g, o, hA, RBox.lab h 2 (by omega) g (by show rblk r.A3 g; unfold rblk; rw [hA]; rfl), ?_⟩
  rw [hA] at ho
  have := ho.cells (k * 8 + j) _ (flat_get h8C_len (l := X) (i := k) (j := j) (x := X.getD k th0) (by rw [List.getD_eq_getElem?_getD, List.getElem?_eq_getElem hk]; rfl) (h8_get _ j hj))
  rw [Nat.add_assoc]
  exact this
end

set_option maxRecDepth 100000 in
set_option maxHeartbeats 1000000 in
theorem merr_any (B : Nat) (f : Nat → Nat) (m : Nat) (n : Int) (s : WS) (r : MR) (node t : Int) (w : World) (h : MS w B f m n s r) (hn8 : n ≤ 8) :
    Calls Try.prog 147 #[.pointer (some ⟨m, 0, none⟩), .int .i64 node, .int .i64 t] w fun e w' => e = .returned (.int .i64 (hasE n s node t)) ∧ w = w' := by
  have c0 := h.d0
  have c1 := h.d1
  have c3 := h.d3
  rw [List.length_map] at c1
  by_cases h0 : node < 0
  · rw [show hasE n s node t = 1 from if_pos (.inl (.inl h0))]
    have d0 : decide (node < 0) = true := by simp; omega
    clear h c1 c3
    go_enter Try.func147, Try.ntmps147
    go_wp2_with fail
    go_ret
    exact ⟨rfl, rfl⟩
  have d0 : decide (node < 0) = false := by simp; omega
  by_cases h1 : n ≤ node
  · rw [show hasE n s node t = 1 from if_pos (.inl (.inr h1))]
    have d1 : decide (n ≤ node) = true := by simp; omega
    clear h c1 c3
    go_enter Try.func147, Try.ntmps147
    go_wp2_with fail
    go_ret
    exact ⟨rfl, rfl⟩
  have d1 : decide (n ≤ node) = false := by simp; omega
  by_cases h2 : t < 0
  · rw [show hasE n s node t = 1 from if_pos (.inr (.inl h2))]
    have d2 : decide (t < 0) = true := by simp; omega
    clear h c1 c3
    go_enter Try.func147, Try.ntmps147
    go_wp2_with fail
    go_ret
    exact ⟨rfl, rfl⟩
  have d2 : decide (t < 0) = false := by simp; omega
  obtain ⟨k, rfl⟩ := Int.eq_ofNat_of_zero_le (show 0 ≤ t by omega)
  by_cases h3 : s.T.length ≤ k
  · rw [show hasE n s node k = 1 from if_pos (.inr (.inr (by omega)))]
    have d3 : decide ((s.T.length : Int) ≤ (k : Int)) = true := by simp; omega
    have d3' : decide (s.T.length ≤ k) = true := by simp; omega
    clear h c3
    generalize s.T.length = L at *
    go_enter Try.func147, Try.ntmps147
    go_wp2_with fail
    go_ret
    exact ⟨rfl, rfl⟩
  have d3 : decide ((s.T.length : Int) ≤ (k : Int)) = false := by simp; omega
  have d3' : decide (s.T.length ≤ k) = false := by simp; omega
  obtain ⟨j, rfl⟩ := Int.eq_ofNat_of_zero_le (show 0 ≤ node by omega)
  have hk : k < s.T.length := by omega
  have hk1 : (k : Int) < (s.T.length : Int) := by omega
  have hj : j < 8 := by omega
  have hj1 : (j : Int) < 8 := by omega
  have hE : hasE n s j k = if (s.T.getD k th0).has j = 0 then 4 else 0 := by
    unfold hasE WS.at
    rw [if_neg (by omega), Int.toNat_natCast]
  rw [hE]
  obtain ⟨g, o, hA, _, p0⟩ := h.hasC hk hj
  rw [hA] at c3
  generalize (s.T.getD k th0).has j = z at *
  generalize s.T.length = L at *
  clear h hE hA h0 h1 h2 h3
  by_cases hz : z = 0
  · subst hz
    rw [if_pos rfl]
    go_enter Try.func147, Try.ntmps147
    go_wp2_with fail
    go_ret
    exact ⟨rfl, rfl⟩
  · rw [if_neg hz]
    have bz : (z == 0) = false := by simp [hz]
    clear hz
    go_enter Try.func147, Try.ntmps147
    go_wp2_with fail
    go_ret
    exact ⟨rfl, rfl⟩
end Go.Proofs.Ytcmkkfpcdebfkaa
