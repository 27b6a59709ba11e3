/-
  Package clock: part, Less, Join.
-/
import Derived.Test.YtcmkkfpcdebfkaaSlicesInt
namespace Go.Proofs.Ytcmkkfpcdebfkaa
open Go.RowKit

set_option maxHeartbeats 400000 in
theorem part_any (A : Option Addr) (n c : Nat) (xs : List Int) (i : Int) (B : Nat) (w : World) (h : Row w B A (ints xs)) (hn : xs.length = n) (hm : n ≤ maxLen) (hi : 0 ≤ i) :
    Calls Try.prog 200 #[.slice A n c, .int .i64 i] w fun e w' => e = .returned (.int .i64 (xs.getD i.toNat 0)) ∧ w = w' := by
  obtain ⟨k, rfl⟩ := Int.eq_ofNat_of_zero_le hi
  rw [Int.toNat_natCast]
  subst hn
  unfold maxLen at hm
  by_cases hk : k < xs.length
  · obtain ⟨b, o, rfl, _, hc⟩ := h.int hk
    generalize xs.getD k 0 = z at *
    go_enter Try.func200, Try.ntmps200
    go_wp2
    go_ret
    exact ⟨rfl, rfl⟩
  · have hz : xs.getD k 0 = 0 := by simp [List.getD_eq_getElem?_getD, List.getElem?_eq_none (show xs.length ≤ k by omega)]
    rw [hz]
    clear hz
    go_enter Try.func200, Try.ntmps200
    go_wp2
    go_ret
    exact ⟨rfl, rfl⟩

def leTo (xs ys : List Int) (k : Nat) : Bool := (List.range k).all fun i => decide (xs.getD i 0 ≤ ys.getD i 0)
def ltTo (xs ys : List Int) (k : Nat) : Bool := (List.range k).any fun i => decide (xs.getD i 0 < ys.getD i 0)
def joinTo (xs ys : List Int) (k : Nat) : List Int := (List.range k).map fun i => max (xs.getD i 0) (ys.getD i 0)
theorem leTo_succ (xs ys : List Int) (k : Nat) : leTo xs ys (k + 1) = (leTo xs ys k && decide (xs.getD k 0 ≤ ys.getD k 0)) := by simp [leTo, List.range_succ]
theorem ltTo_succ (xs ys : List Int) (k : Nat) : ltTo xs ys (k + 1) = (ltTo xs ys k || decide (xs.getD k 0 < ys.getD k 0)) := by simp [ltTo, List.range_succ]
theorem joinTo_succ (xs ys : List Int) (k : Nat) : joinTo xs ys (k + 1) = joinTo xs ys k ++ [max (xs.getD k 0) (ys.getD k 0)] := by simp [joinTo, List.range_succ]
theorem joinTo_len (xs ys : List Int) (k : Nat) : (joinTo xs ys k).length = k := by simp [joinTo]
theorem joinTo_get (xs ys : List Int) (k i : Nat) (h : i < k) : (joinTo xs ys k).getD i 0 = max (xs.getD i 0) (ys.getD i 0) := by
  simp [joinTo, List.getD_eq_getElem?_getD, h]
theorem leTo_false (xs ys : List Int) (k m : Nat) (h : k < m) (hx : ys.getD k 0 < xs.getD k 0) : leTo xs ys m = false := by
  simp only [leTo, List.all_eq_false, List.mem_range, decide_eq_true_eq]
  exact ⟨k, h, by omega⟩
def lessB (xs ys : List Int) : Bool := leTo xs ys (max xs.length ys.length) && ltTo xs ys (max xs.length ys.length)

set_option maxRecDepth 100000 in
set_option maxHeartbeats 1000000 in
theorem less_any (A A' : Option Addr) (c c' : Nat) (xs ys : List Int) (B B' : Nat) (w : World) (ra : Row w B A (ints xs)) (rb : Row w B' A' (ints ys)) (hm : xs.length ≤ maxLen) (hm' : ys.length ≤ maxLen) :
    Calls Try.prog 153 #[.slice A xs.length c, .slice A' ys.length c'] w fun e w' => e = .returned (.bool (lessB xs ys)) ∧ w = w' := by
  have hx0 := hm
  have hy0 := hm'
  have HX := Lib.hid hx0
  have HY := Lib.hid hy0
  clear hx0 hy0
  unfold maxLen at hm hm'
  go_enter Try.func153, Try.ntmps153
  go_wp2_with fail
  all_goals
    go_loop [5, 14] (fun l i => ∃ k : Nat, k ≤ max xs.length ys.length ∧ i = .int .i64 k ∧ l = .bool (ltTo xs ys k) ∧ leTo xs ys k = true) (fun _ i => max xs.length ys.length - (intOf i).toNat)
    case atStart => exact ⟨0, by omega, rfl, rfl, rfl⟩
    case round =>
      obtain ⟨k, hk, rfl, rfl, hle⟩ := hrel
      have e1 := ltTo_succ xs ys k
      have e2 := leTo_succ xs ys k
      rw [hle, Bool.true_and] at e2
      have HL := Lib.hid hle
      have H1 := Lib.hid e1
      have H2 := Lib.hid e2
      have H3 := Lib.hid (leTo_false xs ys k (max xs.length ys.length))
      clear e1 e2 hle
      by_cases hlt : k < max xs.length ys.length
      · go_wp2_with fail
        refine (part_any _ _ _ _ _ _ _ ra rfl HX.out (by omega)).mono ?_
        rintro e w' ⟨rfl, rfl⟩
        rw [show xs.getD (Int.toNat (k : Int)) 0 = xs.getD k 0 by rw [Int.toNat_natCast]]
        generalize xs.getD k 0 = x at *
        go_wp2_with fail
        refine (part_any _ _ _ _ _ _ _ rb rfl HY.out (by omega)).mono ?_
        rintro e w' ⟨rfl, rfl⟩
        rw [show ys.getD (Int.toNat (k : Int)) 0 = ys.getD k 0 by rw [Int.toNat_natCast]]
        generalize ys.getD k 0 = y at *
        by_cases hgt : y < x
        · go_wp2_with fail
          go_ret
          refine ⟨?_, rfl⟩
          unfold lessB
          rw [H3.out hlt hgt]
          rfl
        · have hd : decide (x ≤ y) = true := by simp; omega
          rw [hd] at H2
          clear hd H3
          generalize ltTo xs ys k = L at *
          cases L
          · go_wp2_with fail
            go_round
            case rel => exact ⟨k + 1, by omega, by go_num, by rw [H1.out]; rfl, H2.out⟩
            case measure => simp [intOf]; omega
          · go_wp2_with fail
            go_round
            case rel => exact ⟨k + 1, by omega, by go_num, by rw [H1.out]; rfl, H2.out⟩
            case measure => simp [intOf]; omega
      · have hkm : k = max xs.length ys.length := by omega
        have HK := Lib.hid hkm
        clear hkm
        go_wp2_with fail
        go_ret
        refine ⟨?_, rfl⟩
        unfold lessB
        rw [← HK.out, HL.out]
        rfl

set_option maxRecDepth 100000 in
set_option maxHeartbeats 1000000 in
theorem join_any (A A' : Option Addr) (c c' : Nat) (xs ys : List Int) (w : World) (ra : Row w w.heap.size A (ints xs)) (rb : Row w w.heap.size A' (ints ys)) (hm : xs.length * 8 ≤ 140737488351232) (hm' : ys.length * 8 ≤ 140737488351232) :
    Calls Try.prog 154 #[.slice A xs.length c, .slice A' ys.length c'] w fun e w' => ∃ v, e = .returned v ∧
      w'.ownsRow w.heap.size 3 1 v (joinTo xs ys (max xs.length ys.length)).length (ints (joinTo xs ys (max xs.length ys.length))) ∧ Below w.heap.size w w' := by
  have HX := Lib.hid (show xs.length ≤ maxLen by unfold maxLen; omega)
  have HY := Lib.hid (show ys.length ≤ maxLen by unfold maxLen; omega)
  go_enter Try.func154, Try.ntmps154
  go_wp2_with fail
  all_goals
    go_loopw [5, 12] (fun v i wr => ∃ k : Nat, k ≤ max xs.length ys.length ∧ i = .int .i64 k ∧ wr.ownsRow w.heap.size 3 1 v (joinTo xs ys k).length (ints (joinTo xs ys k)) ∧ Below w.heap.size w wr) (fun _ i _ => max xs.length ys.length - (intOf i).toNat)
    case atStart => exact ⟨0, by omega, rfl, World.ownsRow_nil _ _ _ _, Below.refl _ _⟩
    case round =>
      obtain ⟨k, hk, rfl, hown, hb⟩ := hrel
      by_cases hlt : k < max xs.length ys.length
      · have HS := Lib.hid (joinTo_succ xs ys k)
        have hjl := joinTo_len xs ys k
        have HJ := Lib.hid hjl
        clear hjl
        go_wp2_with fail
        refine (part_any _ _ _ _ _ _ _ (ra.below hb) rfl HX.out (by omega)).mono ?_
        rintro e w' ⟨rfl, rfl⟩
        rw [show xs.getD (Int.toNat (k : Int)) 0 = xs.getD k 0 by rw [Int.toNat_natCast]]
        generalize xs.getD k 0 = x at *
        go_wp2_with fail
        refine (part_any _ _ _ _ _ _ _ (rb.below hb) rfl HY.out (by omega)).mono ?_
        rintro e w' ⟨rfl, rfl⟩
        rw [show ys.getD (Int.toNat (k : Int)) 0 = ys.getD k 0 by rw [Int.toNat_natCast]]
        generalize ys.getD k 0 = y at *
        by_cases hxy : x < y
        · -- y is the greater
          have HS' := Lib.hid (show joinTo xs ys (k + 1) = joinTo xs ys k ++ [y] by rw [HS.out, Int.max_eq_right (by omega)])
          clear HS
          go_wp2_with (at_builtin; refine wpList_push rfl (.tmp 15) (.tmp 23) rfl w.heap.size _ (joinTo xs ys k) rfl (hown.alloc _) wr.heap.size y rfl ((Box.new _ _ _).cell 0) (by rw [HJ.out]; omega) (Nat.le_trans hb.size (by simp)) ?_; intro v' w1 hown' hg')
          have hb' := (hb.alloc hb.size _).grown hg' (Nat.le_trans hb.size (by simp)) (fun g hg => (hown.lt g hg).1)
          go_roundw
          case rel => exact ⟨k + 1, by omega, by go_num, by rw [HS'.out]; exact hown', hb'⟩
          case measure => simp [intOf]; omega
        · -- x is
          have HS' := Lib.hid (show joinTo xs ys (k + 1) = joinTo xs ys k ++ [x] by rw [HS.out, Int.max_eq_left (by omega)])
          clear HS
          go_wp2_with (at_builtin; refine wpList_push rfl (.tmp 15) (.tmp 23) rfl w.heap.size _ (joinTo xs ys k) rfl (hown.alloc _) wr.heap.size x rfl ((Box.new _ _ _).cell 0) (by rw [HJ.out]; omega) (Nat.le_trans hb.size (by simp)) ?_; intro v' w1 hown' hg')
          have hb' := (hb.alloc hb.size _).grown hg' (Nat.le_trans hb.size (by simp)) (fun g hg => (hown.lt g hg).1)
          go_roundw
          case rel => exact ⟨k + 1, by omega, by go_num, by rw [HS'.out]; exact hown', hb'⟩
          case measure => simp [intOf]; omega
      · have hkm : k = max xs.length ys.length := by omega
        have HK := Lib.hid hkm
        clear hkm
        go_wp2_with fail
        go_ret
        rw [← HK.out]
        exact ⟨_, rfl, hown, hb⟩
end Go.Proofs.Ytcmkkfpcdebfkaa
