/-
  Histories packed by the reference (roadref4.Bytes, Pack).
-/
import Derived.Test.YtcmkkfpcdebfkaaTr6
namespace Go.Proofs.Ytcmkkfpcdebfkaa
open Go.RowKit

theorem i64_or_nat (a b : Nat) (ha : a < 9223372036854775808) (hb : b < 9223372036854775808) : bits .or .i64 (a : Int) (b : Int) = ((a ||| b : Nat) : Int) := by
  have hx : a ||| b < 2 ^ 63 := Nat.or_lt_two_pow (by omega) (by omega)
  show IntKind.i64.wrap ((BitVec.ofInt 64 (a : Int) ||| BitVec.ofInt 64 (b : Int)).toNat : Int) = _
  rw [BitVec.toNat_or, ofInt_u64 a (by omega), ofInt_u64 b (by omega), IntKind.wrap_i64]
  omega
theorem or_top2 (m : Nat) (hm : m < 16384) : bits BinOp.or IntKind.i64 (m : Int) 128 % 256 = ((UInt8.ofNat (m % 128 + 128)).toNat : Int) := by
  rw [ofNat_toNat (by omega), show (128 : Int) = ((128 : Nat) : Int) from rfl, i64_or_nat _ _ (by omega) (by omega)]
  have h : ∀ k : Nat, k < 256 → k ||| 128 = k % 128 + 128 := by decide +kernel
  have h2 : (m ||| 128) % 256 = (m % 256) ||| 128 := Nat.or_mod_two_pow (a := m) (b := 128) (n := 8)
  have h3 := h (m % 256) (Nat.mod_lt _ (by decide))
  rw [h3] at h2
  generalize (m ||| 128) = z at *
  omega

set_option maxRecDepth 100000 in
set_option maxHeartbeats 2000000 in
theorem bytesR (A : Option Addr) (c : Nat) (xs : List Int) (W : World) (hr : Row W W.heap.size A (ints xs)) (hl : xs.length ≤ 1000) (hx : ∀ x ∈ xs, 0 ≤ x ∧ x < 16384) :
    Calls Try.prog 158 #[.slice A xs.length c] W fun e w' => ∃ A' c', e = .returned (.slice A' (encL xs).length c') ∧ ByOwn w' W.heap.size A' c' (encL xs) ∧ Below W.heap.size W w' := by
  have HR := Lib.hid hr
  have HX := Lib.hid hx
  clear hr hx
  go_enter Try.func158, Try.ntmps158
  go_wp2_with fail
  go_loopg [3, 8] xs.length (fun gk v i wr => ∃ (k : Nat) (A' : Option Addr) (c' : Nat), gk = xs.length - k ∧ k ≤ xs.length ∧ i = .int .i64 k ∧ v = .slice A' (encL (xs.take k)).length c' ∧ ByOwn wr W.heap.size A' c' (encL (xs.take k)) ∧ Below W.heap.size W wr)
  case atStart => exact ⟨0, none, 0, by omega, by omega, rfl, rfl, OwnAt.nil, Below.refl _ _⟩
  case round =>
    obtain ⟨k, A', c', hgk, hk, rfl, rfl, hown, hb⟩ := hrel
    have HK := Lib.hid hgk
    clear hgk
    by_cases hlt : k < xs.length
    · obtain ⟨b, o1, rfl, hbl, hc0⟩ := (HR.out.below hb).int hlt
      have hxk := HX.out _ (getD_mem 0 hlt)
      have HNS := Lib.hid (show encL (xs.take (k + 1)) = encL (xs.take k) ++ enc (xs.getD k 0).toNat by rw [take_getD xs 0 hlt, encL_append, encL_one])
      have hle2 := encL_le (xs.take k)
      have hle3 : (xs.take k).length ≤ k := List.length_take_le _ _
      generalize xs.getD k 0 = x at *
      obtain ⟨n, rfl⟩ : ∃ n : Nat, x = n := ⟨x.toNat, by omega⟩
      have HO := Lib.hid hown
      have HB := Lib.hid hb
      have hbs := hb.size
      rw [Int.toNat_natCast] at HNS
      clear hown hb
      go_wp2_with fail
      obtain ⟨wo, hwo⟩ : ∃ wo, wo = wr := ⟨_, rfl⟩
      subst hwo
      go_loopg [3, 5] n (fun gk v u wr => ∃ (m : Nat) (A2 : Option Addr) (c2 : Nat) (ys : List UInt8), gk = m ∧ u = .int .i64 (m : Int) ∧ v = .slice A2 ys.length c2 ∧ m < 16384 ∧ ys.length ≤ 3001 ∧ (128 ≤ m → ys.length ≤ 3000) ∧ ys ++ enc m = encL (xs.take (k + 1)) ∧ ByOwn wr W.heap.size A2 c2 ys ∧ Below W.heap.size W wr)
      case atStart => exact ⟨n, A', c', _, rfl, rfl, rfl, by omega, by omega, fun _ => by omega, HNS.out.symm, HO.out, HB.out⟩
      case round =>
        obtain ⟨m, A2, c2, ys, hgk, rfl, rfl, hm, hy, hy2, heq, hown, hb⟩ := hrel
        have HE := Lib.hid heq
        have HGK := Lib.hid hgk
        have HBB := Lib.hid hb
        have hbs := hb.size
        clear hgk heq hb HO HB HNS
        by_cases h128 : 128 ≤ m
        · have hy3 := hy2 h128
          clear hy2
          have d1 : decide ((127 : Int) < (m : Int)) = true := decide_eq_true (by omega)
          have d2 : decide (127 < m) = true := decide_eq_true (by omega)
          have hor := or_top2 m hm
          have HEN := Lib.hid (enc_hi h128 hm)
          generalize UInt8.ofNat (m % 128 + 128) = y at *
          go_wp2_with (at_builtin; refine wpList_push_by rfl (.tmp 14) (.tmp 18) rfl W.heap.size A2 c2 ys rfl (hown.alloc _) wr.heap.size y rfl ((Box.new _ _ _).cell 0) (by omega) (Nat.le_trans hbs (by simp)) ?_; intro g' o' c3 w2 hown' hgr')
          have HO' := Lib.hid hown'
          have HG' := Lib.hid (hgr'.from_alloc.below HBB.out hbs (fun b hb => (ByOwn.blk hown b hb).1))
          clear hown hown' hgr' hor
          go_roundg (m / 128)
          case measure => have := HGK.out; omega
          case rel => exact ⟨m / 128, _, c3, ys ++ [y], rfl, by simp, by rw [List.length_append]; rfl, by omega, by simp; omega, (fun h => by omega), by rw [List.append_assoc, List.singleton_append, ← HEN.out, HE.out], HO'.out, HG'.out⟩
        · have d1 : decide ((127 : Int) < (m : Int)) = false := decide_eq_false (by omega)
          have d2 : decide (127 < m) = false := decide_eq_false (by omega)
          have HM := Lib.hid (show (m : Int) = ((UInt8.ofNat m).toNat : Int) by rw [ofNat_toNat (by omega)])
          have HM2 := Lib.hid (show (m : Int) % 256 = ((UInt8.ofNat m).toNat : Int) by rw [ofNat_toNat (by omega)]; omega)
          have HEN := Lib.hid (enc_lo (show m < 128 by omega))
          generalize UInt8.ofNat m = y at *
          go_wp2_with (at_builtin; refine wpList_push_by rfl (.tmp 22) (.tmp 25) rfl W.heap.size A2 c2 ys rfl (hown.alloc _) wr.heap.size y rfl (((Box.new _ _ _).cell 0).trans (by first | (show some (Value.int .u8 (m : Int)) = _; rw [HM.out]) | (show some (Value.int .u8 ((m : Int) % 256)) = _; rw [HM2.out]))) (by omega) (Nat.le_trans hbs (by simp)) ?_; intro g' o' c3 w2 hown' hgr')
          have HL := Lib.hid (show ys ++ [y] = encL (xs.take (k + 1)) by rw [← HEN.out, HE.out])
          have HO' := Lib.hid hown'
          rw [HL.out] at HO'
          have HG' := Lib.hid (hgr'.from_alloc.below HBB.out hbs (fun b hb => (ByOwn.blk hown b hb).1))
          have HL2 := Lib.hid (show ys.length + 1 = (encL (xs.take (k + 1))).length by rw [← HL.out]; simp)
          clear hown hown' hgr'
          go_roundg (xs.length - (k + 1))
          case measure => have := HK.out; omega
          case rel => exact ⟨k + 1, _, c3, rfl, by omega, by go_num, by rw [← HL2.out], HO'.out, HG'.out⟩
    · obtain rfl : k = xs.length := by omega
      have HO := Lib.hid hown
      have HB := Lib.hid hb
      rw [List.take_length] at HO
      rw [List.take_length]
      clear hown hb
      go_wp2_with fail
      go_ret
      exact ⟨_, _, rfl, HO.out, HB.out⟩

theorem own_one (w : World) (x : Int) : (w.alloc (.cells #[.int .i64 x] 3)).ownsRow w.heap.size 3 1 (.slice (some ⟨w.heap.size, 0, none⟩) 1 1) 1 (ints [x]) :=
  ⟨rfl, .inr ⟨w.heap.size, 1, _, rfl, Nat.le_refl _, Box.new w 3 #[.int .i64 x], Nat.le_refl _, by decide, rfl, rfl⟩⟩

set_option maxRecDepth 100000 in
set_option maxHeartbeats 2000000 in
theorem packR_ok (A : Option Addr) (c : Nat) (l : List Ev) (W : World) (h : EvIn W A c l) (h0 : history l = 0) :
    Calls Try.prog 80 #[.slice A l.length c] W fun e w' => ∃ A' c', e = .returned (.slice A' (encL (numsTo l l.length)).length c') ∧ ByOwn w' W.heap.size A' c' (encL (numsTo l l.length)) ∧ Below W.heap.size W w' := by
  have hl200 := (hist_good h0).1
  have HG := Lib.hid (hist_good h0).2
  have HR := Lib.hid h.row
  have HO := Lib.hid (show (W.alloc (.cells #[.int .i64 (l.length : Int)] 3)).ownsRow W.heap.size 3 1 (.slice (some ⟨W.heap.size, 0, none⟩) 1 1) (numsTo l 0).length (ints (numsTo l 0)) from own_one W l.length)
  have HB := Lib.hid (show Below W.heap.size W (W.alloc (.cells #[.int .i64 (l.length : Int)] 3)) from (Below.refl _ _).alloc (Nat.le_refl _) _)
  clear h h0
  go_enter Try.func80, Try.ntmps80
  go_wp2_with fail
  generalize W.alloc (.cells #[.int .i64 (l.length : Int)] 3) = w1 at *
  go_loopg [3, 11] l.length (fun gk v i wr => ∃ k : Nat, gk = l.length - k ∧ k ≤ l.length ∧ i = .int .i64 k ∧ wr.ownsRow W.heap.size 3 1 v (numsTo l k).length (ints (numsTo l k)) ∧ Below W.heap.size W wr)
  case atStart => exact ⟨0, by omega, by omega, rfl, HO.out, HB.out⟩
  case round =>
    clear HO HB
    obtain ⟨k, hgk, hk, rfl, hown, hb⟩ := hrel
    have HK := Lib.hid hgk
    clear hgk
    by_cases hlt : k < l.length
    · obtain ⟨b, o1, hA, hbl, hc0, hc1, hc2⟩ := (HR.out.below hb).ev hlt (0, 0, 0)
      have hgood := HG.out k hlt
      have HE := Lib.hid (show evAt l k = l.getD k (0, 0, 0) from rfl)
      have hp := hgood.place
      have hkd := hgood.kind
      have HNS := Lib.hid (numsTo_succ l hlt)
      have hle := numsTo_le l k
      rw [HE.out] at hp hkd
      clear hgood
      generalize l.getD k (0, 0, 0) = y at *
      obtain ⟨ep, ek, em⟩ := y
      dsimp only at hc0 hc1 hc2 hp hkd
      subst hA
      have hbs := hb.size
      have HB := Lib.hid hb
      have HOW := Lib.hid hown
      have hv : ep * 3 + ek - 1 = 3 * ep + ek - 1 := by omega
      have HV := Lib.hid hv
      clear hb hv
      by_cases k1 : ek = 1
      · have q1 : decide (1 < ek) = false := decide_eq_false (by omega)
        have HE2 := Lib.hid (show numsTo l k ++ [ep * 3 + ek - 1] = numsTo l (k + 1) by rw [HNS.out, HV.out]; unfold numE; rw [if_pos k1])
        clear k1
        go_upto_region 6 with (at_builtin; refine wpList_push rfl (.tmp 15) (.tmp 23) rfl W.heap.size _ (numsTo l k) rfl ((hown.alloc _).alloc _) (wr.heap.size + 1) (ep * 3 + ek - 1) rfl (by have := (Box.new (wr.alloc (.cells #[.int .i64 ep, .int .i64 ek, .int .i64 em] 146)) 3 #[.int .i64 (ep * 3 + ek - 1)]).cell 0; rw [show (wr.alloc (.cells #[.int .i64 ep, .int .i64 ek, .int .i64 em] 146)).heap.size = wr.heap.size + 1 by simp] at this; exact this) (by omega) (by simp; omega) ?_; intro v' w6 hown' hg')
        have HNEXT := Lib.hid (((HB.out.alloc hbs _).alloc (by simp; omega) _).grown hg' (by simp; omega) (fun g hq => (HOW.out.lt g hq).1))
        have HO' := Lib.hid hown'
        rw [HE2.out] at HO'
        have hbx := ((Box.new wr 146 #[.int .i64 ep, .int .i64 ek, .int .i64 em]).alloc (.cells #[.int .i64 (ep * 3 + ek - 1)] 3)).grown hg' (fun e => by have := (HOW.out.lt _ e.symm).2; omega)
        have d1 := hbx.cell 1
        simp only [List.getElem?_toArray, List.getElem?_cons_zero, List.getElem?_cons_succ] at d1
        clear hown hown' hg' hbx hc0 hc1 hc2
        go_wp2_with fail
        go_roundg (l.length - (k + 1))
        case measure => have := HK.out; omega
        case rel => exact ⟨k + 1, rfl, by omega, by go_num, HO'.out, HNEXT.out⟩
      · have q1 : decide (1 < ek) = true := decide_eq_true (by omega)
        have HE2 := Lib.hid (show (numsTo l k ++ [ep * 3 + ek - 1]) ++ [em] = numsTo l (k + 1) by rw [HNS.out, HV.out, List.append_assoc]; congr 1; unfold numE; rw [if_neg k1]; rfl)
        go_upto_region 6 with (at_builtin; refine wpList_push rfl (.tmp 15) (.tmp 23) rfl W.heap.size _ (numsTo l k) rfl ((hown.alloc _).alloc _) (wr.heap.size + 1) (ep * 3 + ek - 1) rfl (by have := (Box.new (wr.alloc (.cells #[.int .i64 ep, .int .i64 ek, .int .i64 em] 146)) 3 #[.int .i64 (ep * 3 + ek - 1)]).cell 0; rw [show (wr.alloc (.cells #[.int .i64 ep, .int .i64 ek, .int .i64 em] 146)).heap.size = wr.heap.size + 1 by simp] at this; exact this) (by omega) (by simp; omega) ?_; intro v' w6 hown' hg')
        have HB6 := Lib.hid (((HB.out.alloc hbs _).alloc (by simp; omega) _).grown hg' (by simp; omega) (fun g hq => (HOW.out.lt g hq).1))
        have hbx := ((Box.new wr 146 #[.int .i64 ep, .int .i64 ek, .int .i64 em]).alloc (.cells #[.int .i64 (ep * 3 + ek - 1)] 3)).grown hg' (fun e => by have := (HOW.out.lt _ e.symm).2; omega)
        have d1 := hbx.cell 1
        have d2 := hbx.cell 2
        simp only [List.getElem?_toArray, List.getElem?_cons_zero, List.getElem?_cons_succ] at d1 d2
        have HO6 := Lib.hid hown'
        clear hown hg' hbx hc0 hc1 hc2
        have hlen6 : (numsTo l k ++ [ep * 3 + ek - 1]).length ≤ 1000 := by rw [List.length_append, List.length_singleton]; omega
        generalize numsTo l k ++ [ep * 3 + ek - 1] = zs at *
        have hb6s := HB6.out.size
        go_wp2_with (at_builtin; refine wpList_push rfl (.tmp 28) (.tmp 31) rfl W.heap.size _ zs rfl (hown'.alloc _) w6.heap.size em rfl ((Box.new _ _ _).cell 0) (by omega) (Nat.le_trans hb6s (by simp)) ?_; intro v8 w8 hown8 hg8)
        have HNEXT := Lib.hid ((HB6.out.alloc hb6s _).grown hg8 (Nat.le_trans hb6s (by simp)) (fun g hq => (HO6.out.lt g hq).1))
        have HO8 := Lib.hid hown8
        rw [HE2.out] at HO8
        clear hown' hown8 hg8
        go_roundg (l.length - (k + 1))
        case measure => have := HK.out; omega
        case rel => exact ⟨k + 1, rfl, by omega, by go_num, HO8.out, HNEXT.out⟩
    · obtain rfl : k = l.length := by omega
      obtain ⟨A2, c2, rfl, hr2, _⟩ := row_of_own_int hown
      have hle := numsTo_le l l.length
      have HBY := Lib.hid (bytesR A2 c2 (numsTo l l.length) wr hr2 (by omega) (numsTo_lt hl200 HG.out l.length))
      have HB := Lib.hid hb
      clear hown hb hr2
      go_wp2_with fail
      refine HBY.out.mono ?_
      rintro e w9 ⟨A9, c9, rfl, ho9, hb9⟩
      have HO9 := Lib.hid (ho9.lower HB.out.size)
      have HB9 := Lib.hid (HB.out.trans (hb9.mono HB.out.size))
      clear ho9 hb9
      go_wp2_with fail
      go_ret
      exact ⟨_, _, rfl, HO9.out, HB9.out⟩
end Go.Proofs.Ytcmkkfpcdebfkaa
