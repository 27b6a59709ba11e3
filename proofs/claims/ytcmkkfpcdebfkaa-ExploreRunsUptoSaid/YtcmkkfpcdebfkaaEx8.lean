/-
  What the reference says of programs (roadref4.Progs); a list of steps turned from one package's type to the other's (roadlaw4.steps).
-/
import Derived.Test.YtcmkkfpcdebfkaaEx7
import Derived.Test.YtcmkkfpcdebfkaaPtRow
namespace Go.Proofs.Ytcmkkfpcdebfkaa
open Go.RowKit

theorem withinT (n a b : Int) (w : World) (h : a ≤ n ∧ n ≤ b) :
    Calls Try.prog 134 #[.int .i64 n, .int .i64 a, .int .i64 b] w fun e w' => e = .returned (.bool true) ∧ w = w' := by
  obtain ⟨h1, h2⟩ := h
  have e1 : decide (a ≤ n) = true := decide_eq_true h1
  have e2 : decide (n ≤ b) = true := decide_eq_true h2
  clear h1 h2
  go_enter Try.func134, Try.ntmps134
  go_wp2_with fail
  go_ret
  exact ⟨rfl, rfl⟩
theorem withinF (n a b : Int) (w : World) (h : n < a ∨ b < n) :
    Calls Try.prog 134 #[.int .i64 n, .int .i64 a, .int .i64 b] w fun e w' => e = .returned (.bool false) ∧ w = w' := by
  by_cases h1 : a ≤ n
  · have e1 : decide (a ≤ n) = true := decide_eq_true h1
    have e2 : decide (n ≤ b) = false := decide_eq_false (by omega)
    clear h1 h
    go_enter Try.func134, Try.ntmps134
    go_wp2_with fail
    go_ret
    exact ⟨rfl, rfl⟩
  · have e1 : decide (a ≤ n) = false := decide_eq_false h1
    clear h1 h
    go_enter Try.func134, Try.ntmps134
    go_wp2_with fail
    go_ret
    exact ⟨rfl, rfl⟩

theorem rowBad_hit {r : List Do} {k : Nat} (hk : k < r.length) (h : rowBad (r.take k) = 0) (hx : doBad (r.getD k (0, 0, 0)) ≠ 0) : rowBad r = doBad (r.getD k (0, 0, 0)) := by
  have e := List.take_append_drop (k + 1) r
  rw [take_getD r (0, 0, 0) hk] at e
  rw [← e, rowBad_append, rowBad_snoc h, if_neg hx, e]

set_option maxRecDepth 100000 in
set_option maxHeartbeats 4000000 in
theorem progsR (A : Option Addr) (c : Nat) (l : List (List Do)) (W : World) (h : PIn W A c l) :
    Calls Try.prog 22 #[.slice A l.length c] W fun e w' => e = .returned (.int .i64 (progBad l)) ∧ Below W.heap.size W w' := by
  have HP := Lib.hid h
  have hlen := h.len
  have hsum := h.sum
  clear h
  obtain ⟨pb, hpb⟩ : ∃ pb, progBad l = pb := ⟨_, rfl⟩
  rw [hpb]
  have HPB := Lib.hid hpb
  clear hpb
  by_cases h4 : 4 < l.length
  · have d1 : decide ((4 : Int) < (l.length : Int)) = true := decide_eq_true (by omega)
    have d2 : decide (4 < l.length) = true := decide_eq_true h4
    have HE := Lib.hid (show pb = 2 by rw [← HPB.out, progBad, if_pos (.inl h4)])
    clear h4
    go_enter Try.func22, Try.ntmps22
    go_wp2_with fail
    go_ret
    exact ⟨by rw [HE.out]; rfl, Below.refl _ _⟩
  have d1 : decide ((4 : Int) < (l.length : Int)) = false := decide_eq_false (by omega)
  have d2 : decide (4 < l.length) = false := decide_eq_false h4
  have HC := Lib.hid (concat_rd A c l W HP.out)
  obtain ⟨ll, hll⟩ : ∃ ll, l.flatten = ll := ⟨_, rfl⟩
  have HLL := Lib.hid hll
  rw [hll] at hsum HC
  clear hll
  go_enter Try.func22, Try.ntmps22
  go_wp2_with fail
  refine HC.out.mono ?_
  rintro e w1 ⟨v, rfl, hown, hb⟩
  obtain ⟨A1, c1, rfl, hr1, hc1, hm1, _⟩ := row_of_own_any hown
  have HB := Lib.hid hb
  clear hown hr1 hb
  by_cases h12 : 12 < ll.length
  · have d3 : decide ((12 : Int) < (ll.length : Int)) = true := decide_eq_true (by omega)
    have d4 : decide (12 < ll.length) = true := decide_eq_true h12
    have HE := Lib.hid (show pb = 2 by rw [← HPB.out, progBad, HLL.out, if_pos (.inr h12)])
    clear h12
    go_wp2_with fail
    go_ret
    exact ⟨by rw [HE.out]; rfl, HB.out⟩
  have d3 : decide ((12 : Int) < (ll.length : Int)) = false := decide_eq_false (by omega)
  have d4 : decide (12 < ll.length) = false := decide_eq_false h12
  have HBAD := Lib.hid (show pb = rowBad ll by rw [← HPB.out, progBad, HLL.out, if_neg (by omega)])
  clear h12
  have HC2 := Lib.hid (concat_rd A c l w1 (HP.out.below HB.out))
  rw [HLL.out] at HC2
  go_wp2_with fail
  refine HC2.out.mono ?_
  rintro e w2 ⟨v, rfl, hown2, hb2⟩
  obtain ⟨A2, c2, rfl, hr2, hc2, hm2, _⟩ := row_of_own_any hown2
  have HB2 := Lib.hid (HB.out.trans (hb2.mono HB.out.size))
  have HR := Lib.hid hr2
  clear hown2 hb2 hr2 HC HC2
  go_wp2_with fail
  go_loopg [17] ll.length (fun gk i wr => ∃ k : Nat, gk = ll.length - k ∧ k ≤ ll.length ∧ i = .int .i64 k ∧ rowBad (ll.take k) = 0 ∧ Below w2.heap.size w2 wr)
  case atStart => exact ⟨0, by omega, by omega, rfl, rfl, Below.refl _ _⟩
  case round =>
    obtain ⟨k, hgk, hk, rfl, h0, hb⟩ := hrel
    have HK := Lib.hid hgk
    have HBW := Lib.hid (HB2.out.trans (hb.mono HB2.out.size))
    have HBR := Lib.hid hb
    have H0 := Lib.hid h0
    have hws : w2.heap.size ≤ wr.heap.size := hb.size
    have hWs : W.heap.size ≤ wr.heap.size := HBW.out.size
    clear hgk h0
    by_cases hlt : k < ll.length
    · obtain ⟨b2, o2, rfl, hb2, hc0, hc1, hc2⟩ := (Row.rd (HR.out.below hb) hlt (0, 0, 0))
      have HSN := Lib.hid (show rowBad (ll.take (k + 1)) = doBad (ll.getD k (0, 0, 0)) by rw [take_getD ll (0, 0, 0) hlt, rowBad_snoc H0.out])
      have HAT := Lib.hid (fun hx => rowBad_hit hlt H0.out hx)
      clear hb
      generalize ll.getD k (0, 0, 0) = y at *
      obtain ⟨yk, yc, yb⟩ := y
      dsimp only at hc0 hc1 hc2
      by_cases c1 : yk < 1 ∨ 4 < yk
      · have HD := Lib.hid (show doBad (yk, yc, yb) = 3 by unfold doBad; dsimp only; rw [if_pos c1])
        have HE := Lib.hid (show pb = 3 by rw [HBAD.out, ← HD.out]; exact HAT.out (by rw [HD.out]; decide))
        have HF := fun w => Lib.hid (withinF yk 1 4 w c1)
        clear c1
        go_wp2_with fail
        refine (HF _).out.mono ?_
        rintro e w3 ⟨rfl, rfl⟩
        go_wp2_with fail
        go_ret
        exact ⟨by rw [HE.out]; rfl, HBW.out.alloc hWs _⟩
      have HF := fun w => Lib.hid (withinT yk 1 4 w (by omega))
      by_cases c2 : yc < 0 ∨ 3 < yc
      · have HD := Lib.hid (show doBad (yk, yc, yb) = 1 by unfold doBad; dsimp only; rw [if_neg c1, if_pos (by omega)])
        have HE := Lib.hid (show pb = 1 by rw [HBAD.out, ← HD.out]; exact HAT.out (by rw [HD.out]; decide))
        have HG := fun w => Lib.hid (withinF yc 0 3 w c2)
        clear c1 c2
        go_wp2_with fail
        refine (HF _).out.mono ?_
        rintro e w3 ⟨rfl, rfl⟩
        go_wp2_with fail
        refine (HG _).out.mono ?_
        rintro e w3 ⟨rfl, rfl⟩
        go_wp2_with fail
        go_ret
        exact ⟨by rw [HE.out]; rfl, HBW.out.alloc hWs _⟩
      have HG := fun w => Lib.hid (withinT yc 0 3 w (by omega))
      by_cases c3 : yb < -1000 ∨ 1000 < yb
      · have HD := Lib.hid (show doBad (yk, yc, yb) = 1 by unfold doBad; dsimp only; rw [if_neg c1, if_pos (by omega)])
        have HE := Lib.hid (show pb = 1 by rw [HBAD.out, ← HD.out]; exact HAT.out (by rw [HD.out]; decide))
        have HI := fun w => Lib.hid (withinF yb (-1000) 1000 w c3)
        clear c1 c2 c3
        go_wp2_with fail
        refine (HF _).out.mono ?_
        rintro e w3 ⟨rfl, rfl⟩
        go_wp2_with fail
        refine (HG _).out.mono ?_
        rintro e w3 ⟨rfl, rfl⟩
        go_wp2_with fail
        refine (HI _).out.mono ?_
        rintro e w3 ⟨rfl, rfl⟩
        go_wp2_with fail
        go_ret
        exact ⟨by rw [HE.out]; rfl, HBW.out.alloc hWs _⟩
      have HI := fun w => Lib.hid (withinT yb (-1000) 1000 w (by omega))
      have HD := Lib.hid (show doBad (yk, yc, yb) = 0 by unfold doBad; dsimp only; rw [if_neg c1, if_neg (by omega)])
      clear c1 c2 c3
      go_wp2_with fail
      refine (HF _).out.mono ?_
      rintro e w3 ⟨rfl, rfl⟩
      go_wp2_with fail
      refine (HG _).out.mono ?_
      rintro e w3 ⟨rfl, rfl⟩
      go_wp2_with fail
      refine (HI _).out.mono ?_
      rintro e w3 ⟨rfl, rfl⟩
      go_wp2_with fail
      go_roundg (ll.length - (k + 1))
      case measure => have := HK.out; omega
      case rel => exact ⟨k + 1, rfl, by omega, by go_num, by rw [HSN.out, HD.out], HBR.out.alloc hws _⟩
    · obtain rfl : k = ll.length := by omega
      have HE := Lib.hid (show pb = 0 by rw [HBAD.out, ← H0.out, List.take_length])
      clear hb
      go_wp2_with fail
      go_ret
      exact ⟨by rw [HE.out]; rfl, HBW.out⟩

set_option maxRecDepth 100000 in
set_option maxHeartbeats 2000000 in
theorem stepsC (A : Option Addr) (c : Nat) (xs : List (Int × Int × Int)) (W : World) (hr : Row W W.heap.size A (flat ptC xs)) (hm : xs.length ≤ 1000000) :
    Calls Try.prog 27 #[.slice A xs.length c] W fun e w' => ∃ v, e = .returned v ∧ w'.ownsRow W.heap.size 61 3 v xs.length (flat ptC xs) ∧ Below W.heap.size W w' := by
  have HR := Lib.hid hr
  clear hr
  go_enter Try.func27, Try.ntmps27
  go_wp2_with fail
  go_loopg [3, 8] xs.length (fun gk v i wr => ∃ (k : Nat), gk = xs.length - k ∧ k ≤ xs.length ∧ i = .int .i64 k ∧ wr.ownsRow W.heap.size 61 3 v (xs.take k).length (flat ptC (xs.take k)) ∧ Below W.heap.size W wr)
  case atStart => exact ⟨0, by omega, by omega, rfl, World.ownsRow_nil _ _ _ _, Below.refl _ _⟩
  case round =>
    obtain ⟨k, hgk, hk, rfl, hown, hb⟩ := hrel
    have HK := Lib.hid hgk
    have HO := Lib.hid hown
    have HB := Lib.hid hb
    have hs := hb.size
    clear hgk hown
    by_cases hlt : k < xs.length
    · obtain ⟨b2, o2, rfl, hb2, hc0, hc1, hc2⟩ := (Row.pt (HR.out.below hb) hlt (0, 0, 0))
      have HT := Lib.hid (take_getD xs (0, 0, 0) hlt)
      have htl : (xs.take k).length ≤ 1000000 := by rw [List.length_take]; omega
      clear hb
      generalize xs.getD k (0, 0, 0) = y at *
      obtain ⟨y0, y1, y2⟩ := y
      dsimp only at hc0 hc1 hc2
      generalize hzs : xs.take k = zs at *
      clear hzs
      have HOA := Lib.hid ((HO.out.alloc (.cells #[.int .i64 y0, .int .i64 y1, .int .i64 y2] 56)).alloc (.cells #[.int .i64 y0, .int .i64 y1, .int .i64 y2] 61))
      have HY := Lib.hid (show ∀ (j : Nat) (u : Value), (ptC (y0, y1, y2))[j]? = some u → ((wr.alloc (.cells #[.int .i64 y0, .int .i64 y1, .int .i64 y2] 56)).alloc (.cells #[.int .i64 y0, .int .i64 y1, .int .i64 y2] 61)).cell? ⟨wr.heap.size + 1, j, none⟩ = some u from fun j u h => by
        have h1 := (Box.new (wr.alloc (.cells #[.int .i64 y0, .int .i64 y1, .int .i64 y2] 56)) 61 #[.int .i64 y0, .int .i64 y1, .int .i64 y2]).cell j
        rw [show (wr.alloc (.cells #[.int .i64 y0, .int .i64 y1, .int .i64 y2] 56)).heap.size = wr.heap.size + 1 by simp] at h1
        rw [h1, ← h]
        simp [ptC])
      have hbd : (zs.length + 1) * 24 ≤ 140737488355328 := by omega
      go_wp2_with (at_builtin; refine wpList_push_pt rfl (.tmp 12) (.tmp 20) rfl W.heap.size _ zs rfl HOA.out (wr.heap.size + 1) (y0, y1, y2) rfl HY.out hbd (by simp; omega) ?_; intro v' w2 hown2 hg2)
      have HB2 := Lib.hid (((HB.out.alloc hs (.cells #[.int .i64 y0, .int .i64 y1, .int .i64 y2] 56)).alloc (by simp; omega) (.cells #[.int .i64 y0, .int .i64 y1, .int .i64 y2] 61)).grown hg2 (by simp; omega) (fun q hq => (HO.out.lt q hq).1))
      have HO2 := Lib.hid hown2
      clear hown2 hg2
      go_roundg (xs.length - (k + 1))
      case measure => have := HK.out; omega
      case rel => exact ⟨k + 1, rfl, by omega, by go_num, by rw [HT.out]; exact HO2.out, HB2.out⟩
    · have HE := Lib.hid (show xs.take k = xs by rw [List.take_of_length_le (by omega)])
      clear hb
      go_wp2_with fail
      go_ret
      exact ⟨_, rfl, by have h := HO.out; rw [HE.out] at h; exact h, HB.out⟩
end Go.Proofs.Ytcmkkfpcdebfkaa
