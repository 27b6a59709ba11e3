/-
  TraceSays: the walk.
-/
import Derived.Test.YtcmkkfpcdebfkaaTr7
import Derived.Test.YtcmkkfpcdebfkaaUnp4
import Derived.Test.YtcmkkfpcdebfkaaEqBy
import Derived.Test.YtcmkkfpcdebfkaaEv13
import Derived.Deep.RegionHeld3
namespace Go.Proofs.Ytcmkkfpcdebfkaa
open Go.RowKit

theorem two2_enc : encL (numsTo two2 two2.length) = [2, 1, 5, 5, 5] := by decide +kernel
theorem row_lit (w : World) (bs : List UInt8) : Row (w.alloc (.cells (by8 bs).toArray 5)) (w.alloc (.cells (by8 bs).toArray 5)).heap.size (some ⟨w.heap.size, 0, none⟩) (by8 bs) := by
  have := row_of_cells (Box.new w 5 (by8 bs).toArray)
  simpa using this
theorem lit5 (w : World) : Row (w.alloc (.cells #[.int .u8 2, .int .u8 1, .int .u8 5, .int .u8 5, .int .u8 5] 5)) (w.alloc (.cells #[.int .u8 2, .int .u8 1, .int .u8 5, .int .u8 5, .int .u8 5] 5)).heap.size (some ⟨w.heap.size, 0, none⟩) (by8 [2, 1, 5, 5, 5]) := row_lit w [2, 1, 5, 5, 5]

set_option maxRecDepth 100000 in
set_option maxHeartbeats 4000000 in
theorem traceSays_walk (A B : Option Addr) (c d : Nat) (l : List Ev) (bs : List UInt8) (W : World) (h : EvIn W A c l) (hbs : ByIn W B d bs) :
    Calls Try.prog 9 #[.slice A l.length c, .slice B bs.length d] W fun e w' => e = .returned (.bool true) ∧ Below W.heap.size W w' := by
  have HEV := Lib.hid h
  have HBY := Lib.hid hbs
  clear h hbs
  go_enter Try.func9, Try.ntmps9
  go_wp2_with fail
  refine (two_any _).mono ?_
  rintro e w1 ⟨g1, rfl, hev1, hb1⟩
  have hp := pack_ok _ _ two2 w1 hev1 two2_hist
  rw [two2_enc] at hp
  have HT := Lib.hid hp
  have HB1 := Lib.hid hb1
  clear hev1 hb1 hp
  go_wp2_with fail
  refine HT.out.mono ?_
  rintro e w2 ⟨A2, c2, rfl, ho2, hb2⟩
  have HB2 := Lib.hid (HB1.out.trans (hb2.mono HB1.out.size))
  have HR2 := Lib.hid (OwnAt.row ho2)
  have HE2 := Lib.hid (eqBy1 A2 (some ⟨w2.heap.size, 0, none⟩) c2 5 [2, 1, 5, 5, 5] _ _ (w2.alloc (.cells #[.int .u8 2, .int .u8 1, .int .u8 5, .int .u8 5, .int .u8 5] 5)) ((OwnAt.row ho2).below ((Below.refl _ _).alloc (Nat.le_refl _) _)) (lit5 w2))
  clear hb2 HT HB1 ho2
  go_wp2_with fail
  refine HE2.out.mono ?_
  rintro e w3 ⟨rfl, rfl⟩
  have HB3 := Lib.hid (HB2.out.alloc HB2.out.size (.cells #[.int .u8 2, .int .u8 1, .int .u8 5, .int .u8 5, .int .u8 5] 5))
  generalize w2.alloc (.cells #[.int .u8 2, .int .u8 1, .int .u8 5, .int .u8 5, .int .u8 5] 5) = w3 at *
  clear HB2 HR2 HE2
  have HUP := Lib.hid (fun w (hw : Below W.heap.size W w) => unpackP B d bs w ((HBY.out).below hw))
  have HUR := Lib.hid (fun w (hw : Below W.heap.size W w) => unpackR B d bs w ((HBY.out).below hw))
  have HHI := Lib.hid (fun w (hw : Below W.heap.size W w) => historyE_any A c l w ((HEV.out).below hw).row HEV.out.le HEV.out.cap)
  have q0 : ((unp bs).2 == (unp bs).2) = true := by simp
  generalize (unp bs).2 = ue at *
  generalize (unp bs).1 = ul at *
  by_cases h0 : history l = 0
  case neg =>
    have q1 : (history l != 0) = true := by rw [bne_iff_ne]; exact h0
    have q2 : (history l != history l) = false := by simp
    have HPK := Lib.hid (fun w (hw : Below W.heap.size W w) => pack_bad A c l w ((HEV.out).below hw) h0)
    generalize history l = e0 at *
    clear h0
    go_wp2_with fail
    refine (HPK.out _ HB3.out).mono ?_
    rintro e w4 ⟨rfl, hb4⟩
    have HB4 := Lib.hid (HB3.out.trans (hb4.mono HB3.out.size))
    clear hb4
    go_wp2_with fail
    refine (HUP.out _ HB4.out).mono ?_
    rintro e w5 ⟨v5, rfl, ho5, hb5⟩
    have HB5 := Lib.hid (HB4.out.trans (hb5.mono HB4.out.size))
    obtain ⟨A5, c5, rfl, hr5, hm5⟩ := ho5.parts
    have HR5 := Lib.hid hr5
    clear hb5 ho5 hr5
    go_wp2_with fail
    refine (HHI.out _ HB5.out).mono ?_
    rintro e w6 ⟨rfl, hb6⟩
    have HB6 := Lib.hid (HB5.out.trans (hb6.mono HB5.out.size))
    have HR6 := Lib.hid ((HR5.out.below hb6).more hb6.size)
    clear hb6 HR5
    go_wp2_with fail
    refine (HUR.out _ HB6.out).mono ?_
    rintro e w7 ⟨v7, rfl, ho7, hb7⟩
    have HB7 := Lib.hid (HB6.out.trans (hb7.mono HB6.out.size))
    have HR7 := Lib.hid ((HR6.out.below hb7).more hb7.size)
    obtain ⟨A7, c7, rfl, hr7, hm7⟩ := ho7.parts
    have heq := equal_ev A5 A7 c5 c7 ul ul _ _ w7 HR7.out hr7 hm5 hm7
    rw [decide_eq_true rfl] at heq
    have HEQ := Lib.hid heq
    clear hb7 ho7 hr7 HR6 heq
    go_wp2_with fail
    refine HEQ.out.mono ?_
    rintro e w8 ⟨rfl, n8, rfl⟩
    go_wp2_with fail
    go_ret
    exact ⟨rfl, below_drewN HB7.out n8⟩
  have HPK := Lib.hid (fun w (hw : Below W.heap.size W w) => pack_ok A c l w ((HEV.out).below hw) h0)
  have HPR := Lib.hid (fun w (hw : Below W.heap.size W w) => packR_ok A c l w ((HEV.out).below hw) h0)
  rw [h0] at HHI
  clear h0
  generalize encL (numsTo l l.length) = zs at *
  go_wp2_with fail
  refine (HPK.out _ HB3.out).mono ?_
  rintro e w4 ⟨A4, c4, rfl, ho4, hb4⟩
  have HB4 := Lib.hid (HB3.out.trans (hb4.mono HB3.out.size))
  have HO4 := Lib.hid (OwnAt.row ho4)
  clear hb4 ho4
  go_wp2_with fail
  refine (HUP.out _ HB4.out).mono ?_
  rintro e w5 ⟨v5, rfl, ho5, hb5⟩
  have HB5 := Lib.hid (HB4.out.trans (hb5.mono HB4.out.size))
  have HO5 := Lib.hid ((HO4.out.below hb5).more hb5.size)
  obtain ⟨A5, c5, rfl, hr5, hm5⟩ := ho5.parts
  have HR5 := Lib.hid hr5
  clear hb5 ho5 hr5 HO4
  go_wp2_with fail
  refine (HHI.out _ HB5.out).mono ?_
  rintro e w6 ⟨rfl, hb6⟩
  have HB6 := Lib.hid (HB5.out.trans (hb6.mono HB5.out.size))
  have HO6 := Lib.hid ((HO5.out.below hb6).more hb6.size)
  have HR6 := Lib.hid ((HR5.out.below hb6).more hb6.size)
  clear hb6 HR5 HO5
  go_wp2_with fail
  refine (HPR.out _ HB6.out).mono ?_
  rintro e w7 ⟨A7, c7, rfl, ho7, hb7⟩
  have HB7 := Lib.hid (HB6.out.trans (hb7.mono HB6.out.size))
  have HR7 := Lib.hid ((HR6.out.below hb7).more hb7.size)
  have HEB := Lib.hid (eqBy1 A4 A7 c4 c7 zs _ _ w7 ((HO6.out.below hb7).more hb7.size) (OwnAt.row ho7))
  clear hb7 ho7 HR6 HO6
  go_wp2_with fail
  refine HEB.out.mono ?_
  rintro e w8 ⟨rfl, rfl⟩
  go_wp2_with fail
  refine (HUR.out _ HB7.out).mono ?_
  rintro e w9 ⟨v9, rfl, ho9, hb9⟩
  have HB9 := Lib.hid (HB7.out.trans (hb9.mono HB7.out.size))
  have HR9 := Lib.hid ((HR7.out.below hb9).more hb9.size)
  obtain ⟨A9, c9, rfl, hr9, hm9⟩ := ho9.parts
  have heq := equal_ev A5 A9 c5 c9 ul ul _ _ w9 HR9.out hr9 hm5 hm9
  rw [decide_eq_true rfl] at heq
  have HEQ := Lib.hid heq
  clear hb9 ho9 hr9 HR7 heq
  go_wp2_with fail
  refine HEQ.out.mono ?_
  rintro e w10 ⟨rfl, n10, rfl⟩
  go_wp2_with fail
  go_ret
  exact ⟨rfl, below_drewN HB9.out n10⟩
end Go.Proofs.Ytcmkkfpcdebfkaa
