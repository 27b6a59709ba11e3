
/-
  The words of an object (roadref3.ObjectWords).
-/
import Derived.Test.YtdjahlkjfpbifaaHp2
import Derived.Deep.RegionLaw
namespace Go.Proofs.Ytdjahlkjfpbifaa
open Go.RowKit

theorem str_drop (r : List UInt8) (n : Nat) : (⟨r.toArray⟩ : ByteArray).extract n r.length = ⟨(r.drop n).toArray⟩ := by
  apply ByteArray.ext
  simp [List.take_of_length_le]

set_option maxRecDepth 100000 in
set_option maxHeartbeats 4000000 in
theorem objectWords_any (x : OC) (w : World) (hok : OkO x.o) (hr : Row w w.heap.size x.A (flat huC x.o.parts)) (hn : x.A = none → x.c = 0) : Calls Try.prog 94 #[ocV x] w (huPost (wordsF x.o) w) := by
  have hk1 := hok.1
  have hk5 := hok.2.1
  have ht := hok.2.2.1
  have hp := hok.2.2.2.1
  have HH := Lib.hid (show x.o.kind + 256 * (x.o.text.length : Int) + 1048576 * (x.o.parts.length : Int) = (headW x.o : Int) by have := headW_int x.o hk1; omega)
  have HW := Lib.hid (show wordsF x.o = headW x.o :: (numW x.o ++ packs x.o.text ++ x.o.parts) from rfl)
  have HNW := Lib.hid (show numW x.o = if isNum x.o.kind = true then [(x.o.num % 18446744073709551616).toNat] else [] from rfl)
  have hnl := numW_le x.o
  clear hok
  obtain ⟨⟨o1, k, o3, tx, ps⟩, A, c⟩ := x
  unfold ocV
  dsimp only at *
  generalize headW ⟨o1, k, o3, tx, ps⟩ = H at *
  generalize numW ⟨o1, k, o3, tx, ps⟩ = NW at *
  generalize wordsF ⟨o1, k, o3, tx, ps⟩ = R at *
  have HR := Lib.hid hr
  have HN := Lib.hid hn
  have HB := Lib.hid ((Below.refl w.heap.size w).alloc (Nat.le_refl _) (.cells #[.int .i64 o1, .int .i64 k, .int .i64 o3, .string ⟨tx.toArray⟩, .slice A ps.length c] 113))
  have hbx := Box.new w 113 #[.int .i64 o1, .int .i64 k, .int .i64 o3, .string ⟨tx.toArray⟩, .slice A ps.length c]
  have hsz : (w.alloc (.cells #[.int .i64 o1, .int .i64 k, .int .i64 o3, .string ⟨tx.toArray⟩, .slice A ps.length c] 113)).heap.size = w.heap.size + 1 := by simp
  clear hr hn
  go_enter Try.func94, Try.ntmps94
  go_upto_region 2 with fail
  rw [HH.out]
  have hb1 := HB.out
  generalize hw1 : w.alloc (.cells #[.int .i64 o1, .int .i64 k, .int .i64 o3, .string ⟨tx.toArray⟩, .slice A ps.length c] 113) = w1 at *
  clear hw1 HB
  have HO1 := Lib.hid (UOwn.one (w := w1) (base := w.heap.size + 1) (by omega) H)
  rw [hsz] at HO1
  have hb2 := hb1.alloc (by omega) (.cells #[.int .u64 (H : Int)] 90)
  have hbx2 := hbx.alloc (.cells #[.int .u64 (H : Int)] 90)
  have hsz2 : (w1.alloc (.cells #[.int .u64 (H : Int)] 90)).heap.size = w.heap.size + 2 := by simp [hsz]
  generalize w1.alloc (.cells #[.int .u64 (H : Int)] 90) = w2 at *
  clear hb1 hbx hsz
  have hg0 : w.heap.size < w2.heap.size := by omega
  obtain ⟨c0, c1, c2, c3, c4⟩ := ObBox.cells hbx2
  go_cut [31] (fun v wx => v = .bool (isNum k) ∧ w2 = wx)
  case first =>
    by_cases h1 : k = 1
    · subst h1
      go_wp2_with fail
      go_meet
      exact ⟨rfl, rfl⟩
    · have q1 : (k == 1) = false := by simp [h1]
      have HK := Lib.hid (show isNum k = (k == 4) by simp [isNum, h1])
      clear h1
      go_wp2_with fail
      go_meet
      exact ⟨by rw [HK.out], rfl⟩
  obtain ⟨rfl, rfl⟩ := hcut
  go_upto_if 31 with fail
  go_cut [3] (fun v wx => UOwn wx (w.heap.size + 1) v (H :: NW) ∧ Below w.heap.size w wx ∧ w.heap.size + 1 ≤ wx.heap.size ∧ Box wx w.heap.size 113 #[.int .i64 o1, .int .i64 k, .int .i64 o3, .string ⟨tx.toArray⟩, .slice A ps.length c])
  case first =>
    have hNW := HNW.out
    cases hN : isNum k with
    | true =>
      rw [hN, if_pos rfl] at hNW
      have hy0 := hu_new1 w2 (o3 % 18446744073709551616).toNat
      rw [show (((o3 % 18446744073709551616).toNat : Nat) : Int) = IntKind.u64.wrap o3 by rw [wrap_u64]; omega, hsz2] at hy0
      have HY := Lib.hid hy0
      clear hy0
      go_wp2_with (at_builtin; refine wpList_push_hu rfl (.tmp 32) (.tmp 36) rfl (w.heap.size + 1) _ [H] rfl (HO1.out.alloc _) (w.heap.size + 2) (o3 % 18446744073709551616).toNat rfl HY.out (by simp) (by simp; omega) ?_; intro v' w3 hown' hg')
      go_meet
      subst hNW
      exact ⟨hown', (hb2.alloc (by omega) _).grown hg' (by simp; omega) (fun q hq => by have := (HO1.out.lt q hq).1; omega), by have := hg'.size; simp at this; omega, (hbx2.alloc _).grown hg' (show some w.heap.size ≠ some (w.heap.size + 1) by simp)⟩
    | false =>
      rw [hN, if_neg (by decide)] at hNW
      subst hNW
      go_wp2_with fail
      go_meet
      exact ⟨HO1.out, hb2, by omega, hbx2⟩
  obtain ⟨hown, hb, hsz, hbx⟩ := hcut
  have HO := Lib.hid hown
  have HB := Lib.hid hb
  have HBX := Lib.hid hbx
  clear c0 c1 c2 c3 c4
  obtain ⟨c0, c1, c2, c3, c4⟩ := ObBox.cells hbx
  clear HO1 hb2 hbx2 hsz2 hg0 hown hb hbx HNW
  go_wp2_with fail
  clear c0 c1 c2 c3 c4
  go_loopg [3, 4] tx.length (fun gk v t wr => ∃ (r : List UInt8) (D : List Nat), gk = r.length ∧ r.length ≤ 64 ∧ t = .string ⟨r.toArray⟩ ∧ D ++ packs r = packs tx ∧ UOwn wr (w.heap.size + 1) v (H :: NW ++ D) ∧ Below w.heap.size w wr ∧ w.heap.size + 1 ≤ wr.heap.size ∧ ObBox wr w.heap.size o1 k o3 tx A ps.length c)
  case atStart => exact ⟨tx, [], rfl, by omega, rfl, by simp, HO.out.cast (by simp), HB.out, hsz, HBX.out⟩
  case round =>
    clear HO HB HBX hsz
    obtain ⟨r, D, hgk, hr64, rfl, hD, hown, hb, hsz, hbx⟩ := hrel
    have HGK := Lib.hid hgk
    have HD := Lib.hid hD
    have hDl : D.length ≤ 8 := by
      have := congrArg List.length hD
      simp only [List.length_append, packs_len] at this
      omega
    clear hgk hD
    by_cases hr0 : r = []
    · subst hr0
      obtain ⟨c0, c1, c2, c3, c4⟩ := ObBox.cells hbx
      have HLEN := Lib.hid (show (H :: NW ++ D).length ≤ 20 by simp only [List.length_append, List.length_cons]; omega)
      go_wp2_with (at_builtin; refine wpList_append_hu rfl (.tmp 65) (.tmp 67) 88 88 rfl Try.underlying88 Try.underlying88 (w.heap.size + 1) _ _ rfl hown A c w.heap.size ps rfl (HR.out.below hb) HN.out (by have := HLEN.out; omega) (by omega) ?_; intro v' w3 hown' hg')
      go_ret
      refine ⟨v', rfl, ?_, hb.grown hg' (by omega) (fun q hq => by have := (hown.lt q hq).1; omega)⟩
      have hD := HD.out
      rw [packs_nil, List.append_nil] at hD
      subst hD
      rw [HW.out]
      exact UOwn.lower hown' (by omega)
    · have q1 : r.isEmpty = false := by simp [hr0]
      have q2 : (!r.isEmpty) = true := by simp [hr0]
      have hrl : 0 < r.length := List.length_pos_iff.2 hr0
      have HP := Lib.hid (packs_cons r hr0)
      go_wp2_with fail
      obtain ⟨n, hnm⟩ : ∃ n, n = min 8 r.length := ⟨_, rfl⟩
      have hn8 : n ≤ 8 := by omega
      have hnr : n ≤ r.length := by omega
      have hn1 : 0 < n := by omega
      rw [show min 8 (r.length : Int) = (n : Int) by omega]
      have HNM := Lib.hid hnm
      clear hnm q1 q2 hr0
      go_loopg [6, 7] n (fun gk2 wv kv wr2 => ∃ (m L : Nat) (q : Int), gk2 = m ∧ m ≤ n ∧ kv = .int .i64 q ∧ q + 1 = (m : Int) ∧ wv = .int .u64 (L : Int) ∧ L = le8 ((r.take n).drop m) ∧ wr = wr2)
      case atStart => exact ⟨n, 0, (n : Int) - 1, rfl, by omega, rfl, by omega, rfl, by rw [List.drop_eq_nil_of_le (by rw [List.length_take]; omega)]; rfl, rfl⟩
      case round =>
        obtain ⟨m, L, q, hgk2, hm, rfl, hq, rfl, hL, rfl⟩ := hrel
        have HGK2 := Lib.hid hgk2
        have HL := Lib.hid hL
        clear hgk2 hL
        by_cases hm0 : m = 0
        · subst hm0
          obtain rfl : q = -1 := by omega
          have hL0 := HL.out
          rw [List.drop_zero] at hL0
          have HL0 := Lib.hid hL0
          have HN8 : Hid (r.take n = r.take 8 ∧ r.drop n = r.drop 8) := by
            have := HNM.out
            constructor
            · rcases Nat.lt_or_ge r.length 8 with h | h
              · rw [List.take_of_length_le (by omega), List.take_of_length_le (by omega)]
              · rw [show n = 8 by omega]
            · rcases Nat.lt_or_ge r.length 8 with h | h
              · rw [List.drop_eq_nil_of_le (by omega), List.drop_eq_nil_of_le (by omega)]
              · rw [show n = 8 by omega]
          clear hL0
          go_upto_region 12 with fail
          have hL14 : (H :: NW ++ D).length ≤ 14 := by simp only [List.length_append, List.length_cons]; omega
          have HB := Lib.hid hb
          have HX := Lib.hid hbx
          clear hb hbx
          go_region_law (refine step_push_hu rfl (.tmp 58) (.tmp 60) rfl (w.heap.size + 1) _ (H :: NW ++ D) rfl ((hown.alloc _).drew) wr.heap.size L rfl (hu_new1 wr L) (by omega) (by simp; omega) ?_; intro v' w3 hown' hg')
          all_goals (
            rw [str_drop]
            have HO3 := Lib.hid hown'
            have hs3 := hg'.size
            simp at hs3
            have HB3 := Lib.hid (Below.grown (below_drewN (HB.out.alloc (by omega) (.cells #[.int .u64 (L : Int)] 90)) 1) hg' (by simp; omega) (fun q hq => by have := (hown.lt q hq).1; omega))
            have HX3 := Lib.hid (Box.grown (Box.drew (HX.out.alloc (.cells #[.int .u64 (L : Int)] 90))) hg' (UOwn.far hown (by omega)))
            clear hown' hg'
            simp only [List.getElem_toArray, List.getElem_cons_succ, List.getElem_cons_zero]
            go_frame
            go_wp2_with fail
            go_roundg (r.drop n).length
            case measure => have := HGK.out; rw [List.length_drop]; omega
            case rel => exact ⟨r.drop n, D ++ [L], rfl, by rw [List.length_drop]; omega, rfl, by rw [HL0.out, HN8.out.1, HN8.out.2, List.append_assoc, List.singleton_append, ← HP.out, HD.out], HO3.out.cast (by simp), HB3.out, by omega, HX3.out⟩)
        · obtain ⟨m, rfl⟩ : ∃ m', m = m' + 1 := ⟨m - 1, by omega⟩
          obtain rfl : q = (m : Int) := by omega
          have hmr : m < r.length := by omega
          have hmr' : (m : Int) < (r.length : Int) := by omega
          have hLb : L < 72057594037927936 := by
            have h1 := le8_lt ((r.take n).drop (m + 1))
            rw [← HL.out, List.length_drop, List.length_take] at h1
            exact Nat.lt_of_lt_of_le h1 (Nat.le_trans (Nat.pow_le_pow_right (by decide) (show _ ≤ 7 by omega)) (by decide))
          have hbb := le8_lt [r.getD m 0]
          have HV := Lib.hid (show IntKind.u64.wrap (256 * (L : Int) + IntKind.u64.wrap (((⟨r.toArray⟩ : ByteArray)[m]'hmr).toNat : Int)) = ((((r.getD m 0).toNat + 256 * L : Nat)) : Int) by
            have e1 : ((⟨r.toArray⟩ : ByteArray)[m]'hmr).toNat = (r.getD m 0).toNat := by
              simp [List.getD_eq_getElem?_getD, hmr]
              rfl
            have h2 := (r.getD m 0).toNat_lt
            rw [e1, wrap_u64, wrap_u64]
            omega)
          have HL2 := Lib.hid (show (r.getD m 0).toNat + 256 * L = le8 ((r.take n).drop m) by
            have hm2 : m < (r.take n).length := by rw [List.length_take]; omega
            rw [List.drop_eq_getElem_cons hm2, HL.out]
            show _ = ((r.take n)[m]).toNat + 256 * _
            rw [List.getElem_take]
            simp [List.getD_eq_getElem?_getD, hmr])
          go_wp2_with fail
          rw [HV.out]
          go_roundg m
          case measure => have := HGK2.out; omega
          case rel => exact ⟨m, _, (m : Int) - 1, rfl, by omega, rfl, by omega, rfl, HL2.out, rfl⟩
end Go.Proofs.Ytdjahlkjfpbifaa
