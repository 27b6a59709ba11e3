
/-
  All objects of a heap (roadref3.HeapObjects).
-/
import Derived.Test.YtdjahlkjfpbifaaHp8
namespace Go.Proofs.Ytdjahlkjfpbifaa
open Go.RowKit

theorem objectAt_cases (A : Option Addr) (c : Nat) (h : List Nat) (q : Nat) (w : World) (hh : HpIn w A c h) (hq : q < h.length) : Calls Try.prog 49 #[.slice A h.length c, .int .i64 (q : Int)] w fun e w' => Below w.heap.size w w' ∧ match progF h q with
    | none => ∃ y : OC, e = .returned (.tuple #[ocV y, .bool false])
    | some o => ∃ y : OC, y.o = o ∧ PNew w' w.heap.size y ∧ e = .returned (.tuple #[ocV y, .bool true]) := by
  refine (objectAt_any A c h q w hh).mono ?_
  rintro e w' ⟨hb, y, b, rfl, hr, hz, hp⟩
  refine ⟨hb, ?_⟩
  unfold raF at hr
  rw [if_neg (by omega), Int.toNat_natCast] at hr
  rw [hr]
  cases b with
  | true => exact ⟨y, rfl, hp, rfl⟩
  | false => exact ⟨y, rfl⟩
set_option maxRecDepth 100000 in
set_option maxHeartbeats 4000000 in
theorem heapObjects_any (A : Option Addr) (c : Nat) (h : List Nat) (w : World) (hh : HpIn w A c h) : Calls Try.prog 39 #[.slice A h.length c] w (AllP w h) := by
  have hcap := hh.cap
  have hle := hh.le
  unfold maxLen at hcap
  by_cases hlarge : 4000 < h.length
  · have hi : 4000 < (h.length : Int) := by omega
    have d0 : decide (4000 < (h.length : Int)) = true := decide_eq_true hi
    have HL := Lib.hid hlarge
    clear hlarge
    go_enter Try.func39, Try.ntmps39
    go_wp2_with fail
    go_ret2
    exact allP_large (Below.refl _ _) HL.out
  · have hi : ¬ 4000 < (h.length : Int) := by omega
    have d0 : decide (4000 < (h.length : Int)) = false := decide_eq_false hi
    have HL := Lib.hid hlarge
    have HH := Lib.hid hh
    clear hlarge hh
    go_enter Try.func39, Try.ntmps39
    go_wp2_with fail
    go_loopg [4, 5] h.length (fun gk v i wr => ∃ (q : Nat) (A4 : Option Addr) (c4 n4 : Nat) (ys : List OC), gk = h.length - q ∧ v = .slice A4 n4 c4 ∧ n4 = ys.length ∧ i = .int .i64 q ∧ AllSt h q ys ∧ ObMk wr w.heap.size A4 c4 ys ∧ Below w.heap.size w wr)
    case atStart => exact ⟨0, none, 0, 0, [], by omega, rfl, rfl, rfl, AllSt.nil h, ObMk.nil, Below.refl _ _⟩
    case round =>
      obtain ⟨q, A4, c4, n4, ys, hgk, rfl, hn4, rfl, hst, hmk, hb⟩ := hrel
      have HGK := Lib.hid hgk
      have HST := Lib.hid hst
      have HMK := Lib.hid hmk
      have HB := Lib.hid hb
      have HN := Lib.hid hn4
      have hcap4 := hmk.own.cap_le
      rw [← hn4] at hcap4
      have hn4000 : n4 ≤ 4000 := by have := hst.1; have := hst.2.1; omega
      clear hgk hst hmk hn4
      unfold maxLen at hcap4
      by_cases hlt : q < h.length
      · have hlt' : (q : Int) < (h.length : Int) := by omega
        have hrd := objectAt_cases A c h q wr (HH.out.below HB.out) hlt
        cases hq : progF h q with
        | none =>
          rw [hq] at hrd
          dsimp only at hrd
          have HRD := Lib.hid hrd
          have HQ := Lib.hid hq
          clear hrd hq
          go_wp2_with (go_at_call 49; refine HRD.out.mono ?_; rintro e w2 ⟨hb2, y, rfl⟩; unfold ocV; obtain ⟨⟨y1, y2, y3, y4, y5⟩, B, d⟩ := y; dsimp only)
          go_ret2
          exact allP_form ((HB.out.trans (hb2.mono HB.out.size)).alloc (Nat.le_trans HB.out.size hb2.size) _) HL.out (HST.out.fail hlt HQ.out)
        | some o =>
          rw [hq] at hrd
          dsimp only at hrd
          have HRD := Lib.hid hrd
          have HQ := Lib.hid hq
          have hok := progF_ok hq
          have hpos := wordsF_pos o
          have hlen1 := hok.2.1
          have HW := Lib.hid (show ∀ (n : Nat), n = (wordsF o).length → n = (wordsF o).length from fun _ h => h)
          clear hrd hq hok
          have hoko0 := (progF_ok HQ.out).1
          generalize hwl : (wordsF o).length = wl at *
          go_upto_region 9 with (go_at_call 49; refine HRD.out.mono ?_; rintro e w2 ⟨hb2, y, hyo, hpn, rfl⟩; unfold ocV; obtain ⟨⟨y1, y2, y3, y4, y5⟩, B, d⟩ := y; dsimp only at *)
          subst hyo
          have hoko : OkO ⟨y1, y2, y3, y4, y5⟩ := hoko0
          have HWL := Lib.hid hwl
          have HG2 : Hid (wr.heap.size ≤ w2.heap.size) := Lib.hid hb2.size
          have hb3 : Below wr.heap.size wr (w2.alloc (.cells #[.int .i64 y1, .int .i64 y2, .int .i64 y3, .string ⟨y4.toArray⟩, .slice B y5.length d] 113)) := hb2.alloc hb2.size _
          have hpn3 := hpn.below ((Below.refl w2.heap.size w2).alloc (Nat.le_refl _) (.cells #[.int .i64 y1, .int .i64 y2, .int .i64 y3, .string ⟨y4.toArray⟩, .slice B y5.length d] 113))
          have hby := Box.new w2 113 #[.int .i64 y1, .int .i64 y2, .int .i64 y3, .string ⟨y4.toArray⟩, .slice B y5.length d]
          clear hb2 hpn
          generalize w2.alloc (.cells #[.int .i64 y1, .int .i64 y2, .int .i64 y3, .string ⟨y4.toArray⟩, .slice B y5.length d] 113) = w3 at *
          generalize w2.heap.size = g2 at *
          obtain ⟨f0, f1, f2, f3, f4⟩ := ObBox.cells hby
          have hal := (Below.refl w3.heap.size w3).alloc (Nat.le_refl _) (.cells #[.int .i64 y1, .int .i64 y2, .int .i64 y3, .string ⟨y4.toArray⟩, .slice B y5.length d] 113)
          have HM3 := Lib.hid ((HMK.out.below hb3).below hal)
          have HI3 := Lib.hid ((hpn3.below hal).into (nb := A4.map (·.block)) (fun b hb => (HMK.out.blk b hb).2))
          have HB3 := Lib.hid (HB.out.trans ((hb3.trans (hal.mono hb3.size)).mono HB.out.size))
          have hsz3 := HB3.out.size
          have HY := Lib.hid (oc_new w3 ⟨⟨y1, y2, y3, y4, y5⟩, B, d⟩)
          have hby4 := hby.alloc (.cells #[.int .i64 y1, .int .i64 y2, .int .i64 y3, .string ⟨y4.toArray⟩, .slice B y5.length d] 113)
          clear hb3 hpn3 hby hal HRD hb
          go_upto_region 10 with (at_builtin; go_loud (refine wpList_mk_oc rfl (.tmp 23) (.tmp 25) rfl w.heap.size A4 c4 n4 ys HN.out.symm rfl HM3.out w3.heap.size ⟨⟨y1, y2, y3, y4, y5⟩, B, d⟩ rfl HY.out HI3.out (by omega) hsz3 ?_; intro A5 c5 w4 hmk5 hb5 ho5))
          have hgne : ¬ A4.map (·.block) = some g2 := fun e => by have := (HMK.out.blk _ e).2; have := HG2.out; omega
          have hby5 := ho5.box hby4 hgne
          obtain ⟨k0, k1, k2, k3, k4⟩ := ObBox.cells hby5
          have hin5 := hmk5.all ⟨⟨y1, y2, y3, y4, y5⟩, B, d⟩ (List.mem_append_right _ (List.mem_singleton_self _))
          have hw := objectWords_any ⟨⟨y1, y2, y3, y4, y5⟩, B, d⟩ w4 hoko hin5.row hin5.none
          unfold ocV at hw
          dsimp only at hw
          have HW5 := Lib.hid hw
          have HMK5 := Lib.hid hmk5
          have HB5 := Lib.hid (HB3.out.trans hb5)
          clear hw hin5 hmk5 hb5 ho5 hby5 f0 f1 f2 f3 f4 hby4
          go_wp2_with (go_at_call 94; refine HW5.out.mono ?_; rintro e w6 ⟨v6, rfl, hown6, hb6⟩; obtain ⟨A6, c6, rfl, hoa6⟩ := OwnAt.of_own hown6; rw [HWL.out]; clear hown6 hoa6)
          have HMK6 := Lib.hid (HMK5.out.below hb6)
          have HB6 := Lib.hid (HB5.out.trans (hb6.mono HB5.out.size))
          go_roundg (h.length - (q + wl))
          case measure => have := HGK.out; omega
          case rel =>
            have hs := HST.out.step hlt (y := ⟨⟨y1, y2, y3, y4, y5⟩, B, d⟩) HQ.out
            rw [show (wordsF (OC.o ⟨⟨y1, y2, y3, y4, y5⟩, B, d⟩)).length = wl from hwl] at hs
            exact ⟨q + wl, A5, c5, n4 + 1, _, rfl, rfl, by rw [List.length_append, ← HN.out]; rfl, by go_num, hs, HMK6.out, HB6.out⟩
      · obtain rfl : q = h.length := by have := HST.out.2.1; omega
        go_wp2_with fail
        go_ret2
        have hn := HN.out
        subst hn
        exact allP_ok HB.out HL.out HMK.out (HST.out.done (Nat.le_refl _))
end Go.Proofs.Ytdjahlkjfpbifaa
