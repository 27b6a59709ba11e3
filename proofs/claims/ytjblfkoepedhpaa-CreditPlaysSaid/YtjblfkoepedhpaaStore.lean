/-
  Package fence's store: NewStore, Put, Get; and the law's own 'at'.
-/
import Derived.Test.YtjblfkoepedhpaaMem
import Derived.Outline
namespace Go.Proofs.Ytjblfkoepedhpaa
open Go.RowKit

set_option maxHeartbeats 400000 in
theorem at_any (A : Option Addr) (n c : Nat) (xs : List Int) (i : Int) (B : Nat) (w : World) (h : Row w B A (ints xs)) (hn : xs.length = n) (hm : n ≤ maxLen) (hi : 0 ≤ i) :
    Calls Try.prog 17 #[.slice A n c, .int .i64 i] w fun e w' => e = .returned (.int .i64 (xs.getD i.toNat 0)) ∧ w = w' := by
  obtain ⟨k, rfl⟩ := Int.eq_ofNat_of_zero_le hi
  rw [Int.toNat_natCast]
  subst hn
  unfold maxLen at hm
  by_cases hk : k < xs.length
  · obtain ⟨b, o, rfl, _, hc⟩ := h.int hk
    generalize xs.getD k 0 = z at *
    go_enter Try.func17, Try.ntmps17
    go_wp2
    go_ret
    exact ⟨rfl, rfl⟩
  · have hz : xs.getD k 0 = 0 := by simp [List.getD_eq_getElem?_getD, List.getElem?_eq_none (show xs.length ≤ k by omega)]
    rw [hz]
    clear hz
    go_enter Try.func17, Try.ntmps17
    go_wp2
    go_ret
    exact ⟨rfl, rfl⟩

/-- The store's block: value, epoch, rejected. -/
def St (w : World) (g : Nat) (v e r : Int) : Prop := Box w g 139 #[.int .i64 v, .int .i64 e, .int .i64 r]

theorem newStore_any (w : World) :
    Calls Try.prog 15 #[] w fun e w' => e = .returned (.pointer (some ⟨w.heap.size, 0, none⟩)) ∧ w.alloc (.cells #[.int .i64 0, .int .i64 0, .int .i64 0] 139) = w' := by
  go_enter Try.func15, Try.ntmps15
  go_wp2
  go_ret
  exact ⟨rfl, rfl⟩

/-- What Put answers, and what the store holds behind it. -/
def putE (n e : Int) : Int := if n < 1 then 1 else if n < e then 23 else 0
def putV (n x v e : Int) : Int := if n < 1 then v else if n < e then v else x
def putN (n e : Int) : Int := if n < 1 then e else if n < e then e else n
def putR (n e r : Int) : Int := if n < 1 then r else if n < e then r + 1 else r

set_option maxHeartbeats 400000 in
theorem put_any (g : Nat) (v e r n x : Int) (w : World) (h : St w g v e r) (hr : 0 ≤ r) (hr' : r < 9223372036854775807) :
    Calls Try.prog 16 #[.pointer (some ⟨g, 0, none⟩), .int .i64 n, .int .i64 x] w fun o w' =>
      o = .returned (.int .i64 (putE n e)) ∧ St w' g (putV n x v e) (putN n e) (putR n e r) ∧ Sole g w w' := by
  have h0 := h.cell 0
  have h1 := h.cell 1
  have h2 := h.cell 2
  have f0 := h.frozen 0
  have f1 := h.frozen 1
  have f2 := h.frozen 2
  simp only [List.getElem?_toArray, List.getElem?_cons_zero, List.getElem?_cons_succ] at h0 h1 h2
  by_cases c1 : n < 1
  · simp only [putE, putV, putN, putR, if_pos c1]
    go_enter Try.func16, Try.ntmps16
    go_wp2
    go_ret
    exact ⟨rfl, h, Sole.refl _ _⟩
  · by_cases c2 : n < e
    · simp only [putE, putV, putN, putR, if_neg c1, if_pos c2]
      go_enter Try.func16, Try.ntmps16
      go_wp2
      go_ret
      exact ⟨rfl, h.set 2 _, (Sole.refl _ _).own _ _⟩
    · simp only [putE, putV, putN, putR, if_neg c1, if_neg c2]
      go_enter Try.func16, Try.ntmps16
      go_wp2
      go_ret
      exact ⟨rfl, (h.set 0 _).set 1 _, ((Sole.refl _ _).own _ _).own _ _⟩

set_option maxHeartbeats 400000 in
theorem get_any (g : Nat) (v e r : Int) (w : World) (h : St w g v e r) :
    Calls Try.prog 18 #[.pointer (some ⟨g, 0, none⟩)] w fun o w' =>
      o = .returned (.tuple #[.int .i64 v, .int .i64 e, .int .i64 r]) ∧ ∃ k, w' = w.drewN k := by
  have h0 := h.cell 0
  have h1 := h.cell 1
  have h2 := h.cell 2
  simp only [List.getElem?_toArray, List.getElem?_cons_zero, List.getElem?_cons_succ] at h0 h1 h2
  go_enter Try.func18, Try.ntmps18
  go_wp2
  go_quiet (fail)
  go_wp2
  go_ret3
  exact ⟨rfl, _, rfl⟩

theorem put_bad (g : Nat) (v e r n x : Int) (w : World) (h : St w g v e r) (hr : 0 ≤ r) (hr' : r < 9223372036854775807) (c1 : n < 1) :
    Calls Try.prog 16 #[.pointer (some ⟨g, 0, none⟩), .int .i64 n, .int .i64 x] w fun o w' => o = .returned (.int .i64 1) ∧ St w' g v e r ∧ Sole g w w' := by
  have := put_any g v e r n x w h hr hr'
  simpa only [putE, putV, putN, putR, if_pos c1] using this
theorem put_old (g : Nat) (v e r n x : Int) (w : World) (h : St w g v e r) (hr : 0 ≤ r) (hr' : r < 9223372036854775807) (c1 : ¬ n < 1) (c2 : n < e) :
    Calls Try.prog 16 #[.pointer (some ⟨g, 0, none⟩), .int .i64 n, .int .i64 x] w fun o w' => o = .returned (.int .i64 23) ∧ St w' g v e (r + 1) ∧ Sole g w w' := by
  have := put_any g v e r n x w h hr hr'
  simpa only [putE, putV, putN, putR, if_neg c1, if_pos c2] using this
theorem put_new (g : Nat) (v e r n x : Int) (w : World) (h : St w g v e r) (hr : 0 ≤ r) (hr' : r < 9223372036854775807) (c1 : ¬ n < 1) (c2 : ¬ n < e) :
    Calls Try.prog 16 #[.pointer (some ⟨g, 0, none⟩), .int .i64 n, .int .i64 x] w fun o w' => o = .returned (.int .i64 0) ∧ St w' g x n r ∧ Sole g w w' := by
  have := put_any g v e r n x w h hr hr'
  simpa only [putE, putV, putN, putR, if_neg c1, if_neg c2] using this
end Go.Proofs.Ytjblfkoepedhpaa
