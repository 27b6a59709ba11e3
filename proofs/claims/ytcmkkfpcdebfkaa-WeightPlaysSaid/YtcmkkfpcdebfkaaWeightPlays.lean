/-
  The law WeightPlays: its walk.
-/
import Derived.Test.YtcmkkfpcdebfkaaWt14
import Derived.Test.YtcmkkfpcdebfkaaHeldC
namespace Go.Proofs.Ytcmkkfpcdebfkaa
open Go.RowKit

theorem int_infoW : (Try.prog.info? 3).map (fun i => (i.zero, i.size, i.bytes)) = some (some (.int .i64 0), 1, 8) := by kernel_rfl
theorem int_partsW : ∃ i, Try.prog.info? 3 = some i ∧ i.zero = some (.int .i64 0) ∧ i.size = 1 ∧ i.bytes = 8 := by
  have h := int_infoW
  cases hi : Try.prog.info? 3 with
  | none => rw [hi] at h; cases h
  | some i =>
    rw [hi] at h
    simp only [Option.map_some, Option.some.injEq, Prod.mk.injEq] at h
    exact ⟨i, rfl, h.1, h.2.1, h.2.2⟩
theorem ints_oneW (xs : List Int) : ∀ u ∈ ints xs, u.oneCell' = true := by
  intro u hu
  simp only [ints, List.mem_map] at hu
  obtain ⟨x, _, rfl⟩ := hu
  rfl
theorem zero8 : ∀ a : Nat, a < 8 → (#[.int .i64 0, .int .i64 0, .int .i64 0, .int .i64 0, .int .i64 0, .int .i64 0, .int .i64 0, .int .i64 0] : Array Value)[a]? = some (.int .i64 0)
  | 0, _ => rfl
  | 1, _ => rfl
  | 2, _ => rfl
  | 3, _ => rfl
  | 4, _ => rfl
  | 5, _ => rfl
  | 6, _ => rfl
  | 7, _ => rfl
  | a + 8, h => by omega
theorem lit_int {w : World} {g : Nat} {y : Int} (h : w.cell? ⟨g, 0, none⟩ = some (.int .i64 y)) : ∀ j u, (ints [y])[j]? = some u → w.cell? ((⟨g, 0, none⟩ : Addr).add j) = some u := fun j u hu => by
  match j, hu with
  | 0, hu => simp [ints] at hu; subst hu; exact h
  | j + 1, hu => simp [ints] at hu
theorem grown_cell {w w' : World} {row : Option Nat} (hg : w.grownBy w' row) {p : Addr} {v : Value} (hc : w.cell? p = some v) (hne : some p.block ≠ row) : w'.cell? p = some v := by
  have := hg.block p.block (lt_of_cell hc) hne
  unfold World.cell? at hc ⊢
  rw [this]
  exact hc
def wlab (x m : Nat) (b : Nat) : Nat := if b = x then 1 else if b = m then 2 else 0
theorem first_send : sendE (2 : Nat) ((⟨[], []⟩ : WS).new 1) 1 0 0 = 0 := by decide
theorem first_ways : (((⟨[], []⟩ : WS).new 1).sent 1 0 0).Y = [((0 : Int), (0 : Int), (32768 : Int), false)] := by kernel_rfl

set_option maxRecDepth 100000 in
set_option maxHeartbeats 8000000 in
theorem weightPlays_walk (n : Int) (A : Option Addr) (c : Nat) (xss : List (List Int)) (W : World) (hr : IntRows W W.heap.size A xss) (hm : xss.length ≤ maxLen) :
    Calls Try.prog 6 #[.int .i64 n, .slice A xss.length c] W fun e w' => e = .returned (.bool true) ∧ Below W.heap.size W w' := by
  have HR := Lib.hid hr
  have HMX := Lib.hid hm
  unfold maxLen at hm
  clear hr
  have HN2 := Lib.hid (wnew_ok 2 W (by decide) (by decide))
  have hx0 := xat_new W W.heap.size (wlab W.heap.size W.heap.size) ((2 : Nat) : Int) 0 (Nat.le_refl _) (if_pos rfl)
  have hb0 : Below W.heap.size W (W.alloc (.cells #[.int .i64 ((2 : Nat) : Int), .slice none 0 0, .slice none 0 0] 268)) := (Below.refl _ _).alloc (Nat.le_refl _) _
  have HC0 := Lib.hid (come_bad W.heap.size _ W.heap.size ((2 : Nat) : Int) 0 ⟨[], []⟩ _ 0 _ hx0 (by decide))
  rw [show comeE ⟨[], []⟩ 0 = 4 from rfl] at HC0
  have HMK := Lib.hid (make_ok W.heap.size _ W.heap.size ((2 : Nat) : Int) 0 ⟨[], []⟩ _ 1 _ hx0 (by decide) (by unfold I64; omega) (by decide) hb0.size)
  have HB0 := Lib.hid hb0
  have HF0 : Hid (∀ b, b < W.heap.size → wlab W.heap.size W.heap.size b = 0) := fun b hb => by unfold wlab; rw [if_neg (by omega), if_neg (by omega)]
  clear hx0 hb0
  go_enter Try.func6, Try.ntmps6
  go_wp2_with fail
  refine HN2.out.mono ?_
  rintro e w1 ⟨rfl, rfl⟩
  go_wp2_with fail
  refine HC0.out.mono ?_
  rintro e w1 ⟨rfl, rfl⟩
  go_wp2_with fail
  refine HMK.out.mono ?_
  rintro e w2 ⟨rfl, f2, r2, hx2, ho2, hf2⟩
  have hb2 : Below W.heap.size W w2 := ho2.to_below HB0.out HB0.out.size (fun i hi => by
    rcases Nat.lt_or_ge i W.heap.size with hl | hl
    · have hi' : xlab (wlab W.heap.size W.heap.size i) := hi
      rw [HF0.out i hl] at hi'
      unfold xlab at hi'; omega
    · exact hl)
  have hf2' : ∀ b, b < W.heap.size → f2 b = 0 := fun b hb => (hf2 b (Nat.lt_of_lt_of_le hb HB0.out.size)).trans (HF0.out b hb)
  have HSD := Lib.hid (send_ok W.heap.size f2 W.heap.size ((2 : Nat) : Int) 1 _ r2 1 0 0 w2 hx2 (by unfold I64; omega) (by unfold maxLen; decide) (by decide) hb2.size first_send)
  have HB2 := Lib.hid hb2
  have HF2 := Lib.hid hf2'
  clear hx2 ho2 hf2 hb2 hf2' HMK HC0 HN2
  go_wp2_with fail
  refine HSD.out.mono ?_
  rintro e w3 ⟨rfl, f3, r3, hx3, ho3, hf3⟩
  have hb3 : Below W.heap.size W w3 := ho3.to_below HB2.out HB2.out.size (fun i hi => by
    rcases Nat.lt_or_ge i W.heap.size with hl | hl
    · have hi' : xlab (f2 i) := hi
      rw [HF2.out i hl] at hi'
      unfold xlab at hi'; omega
    · exact hl)
  have HUN := Lib.hid (under_any W.heap.size f3 W.heap.size ((2 : Nat) : Int) (1 + 1) _ r3 w3 hx3 (by rw [first_ways]; decide))
  rw [first_ways] at HUN
  have HB3 := Lib.hid hb3
  clear hx3 ho3 hf3 hb3 HSD HB2 HF2
  go_wp2_with fail
  refine HUN.out.mono ?_
  rintro e w4 ⟨v4, rfl, hown4, hb4⟩
  obtain ⟨A4, c4, rfl, hr4, _⟩ := row_of_own_any hown4
  have hbA := (Below.refl w4.heap.size w4).alloc (Nat.le_refl _) (.cells #[.int .i64 0, .int .i64 0, .int .i64 32768, .bool false] 95)
  have HEQ := Lib.hid (equal_wy A4 (some ⟨w4.heap.size, 0, none⟩) c4 1 [((0 : Int), (0 : Int), (32768 : Int), false)] [((0 : Int), (0 : Int), (32768 : Int), false)] _ (w4.heap.size + 1) (w4.alloc (.cells #[.int .i64 0, .int .i64 0, .int .i64 32768, .bool false] 95)) (hr4.below hbA) (fun _ => ⟨w4.heap.size, 0, rfl, by omega, fun i v hv => by rw [Nat.zero_add, (Box.new w4 95 #[.int .i64 0, .int .i64 0, .int .i64 32768, .bool false]).cell i, ← hv]; simp [flat, wyC]⟩) (by decide) (by decide))
  have HB4 := Lib.hid ((HB3.out.trans (hb4.mono HB3.out.size)).alloc (Nat.le_trans HB3.out.size hb4.size) (.cells #[.int .i64 0, .int .i64 0, .int .i64 32768, .bool false] 95))
  clear hown4 hb4 hr4 hbA HUN HB3 HB0 HF0
  go_wp2_with fail
  refine HEQ.out.mono ?_
  rintro e w5 ⟨rfl, n5, rfl⟩
  have HB5 := Lib.hid (below_drewN HB4.out n5)
  generalize (w4.alloc (.cells #[.int .i64 0, .int .i64 0, .int .i64 32768, .bool false] 95)).drewN n5 = w5 at *
  clear HEQ HB4
  by_cases hbad : n < 1 ∨ 8 < n
  · have HNB := Lib.hid (wnew_bad n w5 hbad)
    by_cases h1 : n < 1
    · have d1 : decide (n < 1) = true := by simp; omega
      clear hbad
      go_wp2_with fail
      refine HNB.out.mono ?_
      rintro e w6 ⟨rfl, rfl⟩
      go_wp2_with fail
      go_ret
      exact ⟨rfl, HB5.out⟩
    · have d1 : decide (n < 1) = false := by simp; omega
      have d2 : decide (8 < n) = true := by simp; omega
      clear hbad
      go_wp2_with fail
      refine HNB.out.mono ?_
      rintro e w6 ⟨rfl, rfl⟩
      go_wp2_with fail
      go_ret
      exact ⟨rfl, HB5.out⟩
  have d1 : decide (n < 1) = false := by simp; omega
  have d2 : decide (8 < n) = false := by simp; omega
  obtain ⟨N, rfl⟩ := Int.eq_ofNat_of_zero_le (show 0 ≤ n by omega)
  have hN1 : 1 ≤ N := by omega
  have hN8 : N ≤ 8 := by omega
  have d1' : decide (N < 1) = false := by simp; omega
  have d2' : decide (8 < N) = false := by simp; omega
  have HNW := Lib.hid (wnew_ok N w5 (by omega) (by omega))
  clear hbad
  go_wp2_with fail
  refine HNW.out.mono ?_
  rintro e w6 ⟨rfl, rfl⟩
  go_wp2_with fail
  have HBO : Hid (WBoth W ((w5.alloc (.cells #[.int .i64 (N : Int), .slice none 0 0, .slice none 0 0] 268)).alloc (.cells #[.int .i64 (N : Int), .slice none 0 0, .slice none 0 0, .slice none 0 0, .slice none 0 0] 100)) (wlab w5.heap.size (w5.heap.size + 1)) w5.heap.size (w5.heap.size + 1) N 0 ⟨[], []⟩ ⟨none, 0, none, 0, []⟩ ⟨none, 0, none, 0, none, 0, none, 0⟩) := by
    have hs := HB5.out.size
    refine ⟨(xat_new w5 W.heap.size (wlab w5.heap.size (w5.heap.size + 1)) N 0 hs (if_pos rfl)).below ((Below.refl _ _).alloc (Nat.le_refl _) _), ?_, ⟨by omega, by omega, by decide, by decide, fun i hi => absurd hi (Nat.not_lt_zero _), fun i hi => absurd hi (Nat.not_lt_zero _)⟩, (HB5.out.alloc hs _).alloc (by simp; omega) _, fun b hb => ?_⟩
    · have := ms_new (w5.alloc (.cells #[.int .i64 (N : Int), .slice none 0 0, .slice none 0 0] 268)) W.heap.size (wlab w5.heap.size (w5.heap.size + 1)) N (by simp; omega) (by simp [wlab])
      simpa using this
    · unfold wlab
      rw [if_neg (by omega), if_neg (by omega)]
  generalize w5.heap.size = x at *
  obtain ⟨m, hmx⟩ : ∃ m, x + 1 = m := ⟨_, rfl⟩
  rw [hmx] at HBO ⊢
  clear HNW HB5 hmx
  go_loopg [88] xss.length (fun gk v wr => ∃ (k : Nat) (s : WS) (f : Nat → Nat) (r : XR) (r2 : MR), gk = xss.length - k ∧ k ≤ xss.length ∧ v = .int .i64 k ∧ WBoth W wr f x m N k s r r2)
  case atStart => exact ⟨0, _, _, _, _, by omega, by omega, rfl, HBO.out⟩
  case round =>
    obtain ⟨k, s, f, r, r2, hgk, hk, rfl, hbo⟩ := hrel
    have HK := Lib.hid hgk
    clear hgk HBO
    by_cases hlt : k < xss.length
    · obtain ⟨b, o, a', c', rfl, hcell, hrow, hlm, hI⟩ := (HR.out.below hbo.hb).at hlt
      generalize xss.getD k [] = xs at *
      have hkm : k < maxLen := Nat.lt_of_lt_of_le hlt HMX.out
      have HA0 := Lib.hid (at_any a' xs.length c' xs 0 _ wr hrow rfl hlm (by decide))
      have HA1 := Lib.hid (at_any a' xs.length c' xs 1 _ wr hrow rfl hlm (by decide))
      have HA2 := Lib.hid (at_any a' xs.length c' xs 2 _ wr hrow rfl hlm (by decide))
      have HA3 := Lib.hid (at_any a' xs.length c' xs 3 _ wr hrow rfl hlm (by decide))
      have HI1 := Lib.hid (I64.getD hI 1)
      rw [show (0 : Int).toNat = 0 from rfl] at HA0
      rw [show (1 : Int).toNat = 1 from rfl] at HA1
      rw [show (2 : Int).toNat = 2 from rfl] at HA2
      rw [show (3 : Int).toNat = 3 from rfl] at HA3
      generalize xs.getD 0 0 = z at *
      generalize xs.getD 1 0 = y1 at *
      generalize xs.getD 2 0 = y2 at *
      generalize xs.getD 3 0 = y3 at *
      have HBO := Lib.hid hbo
      clear hrow hI hbo
      go_wp2_with fail
      refine HA1.out.mono ?_
      rintro e w' ⟨rfl, rfl⟩
      go_wp2_with fail
      refine HA2.out.mono ?_
      rintro e w' ⟨rfl, rfl⟩
      go_wp2_with fail
      refine HA3.out.mono ?_
      rintro e w' ⟨rfl, rfl⟩
      go_wp2_with fail
      refine HA0.out.mono ?_
      rintro e w' ⟨rfl, rfl⟩
      clear HA0 HA1 HA2 HA3
      by_cases z1 : z = 1
      case pos =>
        have b1 : (z == 1) = true := by simp [z1]
        clear z1
        by_cases h1 : y1 < 0
        · have he : makeE N s y1 = 1 := if_pos (.inl h1)
          have e1 : decide (y1 < 0) = true := by simp; omega
          have HX := Lib.hid (make_bad W.heap.size f x N k s r y1 wr HBO.out.X (by rw [he]; decide))
          rw [he] at HX
          clear h1
          go_wp2_with fail
          refine HX.out.mono ?_
          rintro e w1 ⟨rfl, rfl⟩
          clear HX he

          obtain ⟨s9, f9, r9, r29, HBN⟩ : ∃ s9 f9 r9 r29, Hid (WBoth W wr f9 x m N (k + 1) s9 r9 r29) := ⟨s, f, r, r2, HBO.out.mono (Nat.le_succ k)⟩

          have hok9 := HBN.out.ok
          have HWT := Lib.hid (weightTells_any W.heap.size f9 x m N (k + 1) s9 r9 r29 _ HBN.out.X HBN.out.M hN8 hok9.t20 hok9.y60)
          clear hok9
          go_wp2_with fail
          refine HWT.out.mono ?_
          rintro e w9 ⟨rfl, hb9⟩
          have HB9 := Lib.hid (HBN.out.below hb9)
          clear hb9 HWT
          go_wp2_with fail
          go_roundg (xss.length - (k + 1))
          case measure => have := HK.out; omega
          case rel => exact ⟨k + 1, s9, f9, r9, r29, rfl, by omega, by go_num, HB9.out⟩

        have e1 : decide (y1 < 0) = false := by simp; omega
        obtain ⟨a, rfl⟩ := Int.eq_ofNat_of_zero_le (show 0 ≤ y1 by omega)
        by_cases h2 : N ≤ a
        · have he : makeE N s a = 1 := if_pos (.inr (by omega))
          have e2 : decide ((N : Int) ≤ (a : Int)) = true := by simp; omega
          have e2' : decide (N ≤ a) = true := by simp; omega
          have HX := Lib.hid (make_bad W.heap.size f x N k s r a wr HBO.out.X (by rw [he]; decide))
          rw [he] at HX
          clear h1 h2
          go_wp2_with fail
          refine HX.out.mono ?_
          rintro e w1 ⟨rfl, rfl⟩
          clear HX he

          obtain ⟨s9, f9, r9, r29, HBN⟩ : ∃ s9 f9 r9 r29, Hid (WBoth W wr f9 x m N (k + 1) s9 r9 r29) := ⟨s, f, r, r2, HBO.out.mono (Nat.le_succ k)⟩

          have hok9 := HBN.out.ok
          have HWT := Lib.hid (weightTells_any W.heap.size f9 x m N (k + 1) s9 r9 r29 _ HBN.out.X HBN.out.M hN8 hok9.t20 hok9.y60)
          clear hok9
          go_wp2_with fail
          refine HWT.out.mono ?_
          rintro e w9 ⟨rfl, hb9⟩
          have HB9 := Lib.hid (HBN.out.below hb9)
          clear hb9 HWT
          go_wp2_with fail
          go_roundg (xss.length - (k + 1))
          case measure => have := HK.out; omega
          case rel => exact ⟨k + 1, s9, f9, r9, r29, rfl, by omega, by go_num, HB9.out⟩

        have e2 : decide ((N : Int) ≤ (a : Int)) = false := by simp; omega
        have e2' : decide (N ≤ a) = false := by simp; omega
        by_cases h3 : s.T.length = 20
        · have he : makeE N s a = 6 := by unfold makeE; rw [if_neg (by omega), if_pos h3]
          have p1 := MAt.d1 HBO.out.M
          rw [List.length_map, h3] at p1
          have HX := Lib.hid (make_bad W.heap.size f x N k s r a wr HBO.out.X (by rw [he]; decide))
          rw [he] at HX
          clear h1 h2 h3
          go_wp2_with fail
          refine HX.out.mono ?_
          rintro e w1 ⟨rfl, rfl⟩
          clear HX he

          obtain ⟨s9, f9, r9, r29, HBN⟩ : ∃ s9 f9 r9 r29, Hid (WBoth W wr f9 x m N (k + 1) s9 r9 r29) := ⟨s, f, r, r2, HBO.out.mono (Nat.le_succ k)⟩

          have hok9 := HBN.out.ok
          have HWT := Lib.hid (weightTells_any W.heap.size f9 x m N (k + 1) s9 r9 r29 _ HBN.out.X HBN.out.M hN8 hok9.t20 hok9.y60)
          clear hok9
          go_wp2_with fail
          refine HWT.out.mono ?_
          rintro e w9 ⟨rfl, hb9⟩
          have HB9 := Lib.hid (HBN.out.below hb9)
          clear hb9 HWT
          go_wp2_with fail
          go_roundg (xss.length - (k + 1))
          case measure => have := HK.out; omega
          case rel => exact ⟨k + 1, s9, f9, r9, r29, rfl, by omega, by go_num, HB9.out⟩

        have he : makeE N s a = 0 := by unfold makeE; rw [if_neg (by omega), if_neg h3]
        have e3 : (s.T.length == 20) = false := by simp [h3]
        have e3' : ((s.T.length : Int) == 20) = false := by simp; omega
        have HX := Lib.hid (make_ok W.heap.size f x N k s r a wr HBO.out.X he HI1.out HBO.out.ok.t20 HBO.out.hb.size)
        have HOK := Lib.hid (wok_new HBO.out.ok he)
        have ha8 : a < 8 := by omega
        have ha8' : (a : Int) < 8 := by omega
        clear h1 h2 h3 he
        go_wp2_with fail
        refine HX.out.mono ?_
        rintro e w1 ⟨rfl, hx1⟩
        obtain ⟨f1, r1, hh⟩ := HBO.out.step hx1
        have p1 := MAt.d1 hh.M
        have p2 := MAt.d2 hh.M
        have p3 := MAt.d3 hh.M
        rw [List.length_map] at p1 p2
        have HH := Lib.hid hh
        clear hx1 hh HX
        have ht20 := HBO.out.ok.t20
        obtain ⟨i0, hi0, hz0, hz1, hz2⟩ := int_partsW
        have hM := HH.out.M
        have hfm : f1 m = 2 := RBox.fg hM
        have HO1 : Hid (∀ wa, Below w1.heap.size w1 wa → OwnAt wa W.heap.size 3 1 r2.A1 s.T.length r2.c1 (ints (s.T.map (·.home)))) := fun wa hb => by
          have := MAt.o1 (MAt.below hM hb)
          rwa [List.length_map] at this
        have HO2 : Hid (∀ wa, Only (fun b => f1 b = 5) w1 wa → OwnAt wa W.heap.size 3 1 r2.A2 s.T.length r2.c2 (ints (s.T.map (·.back)))) := fun wa hb => by
          have := (MAt.o2 hM).only hb fun b hb e => by have h6 := MAt.l2 hM b hb; have h5 : f1 b = 5 := e; omega
          rwa [List.length_map] at this
        have HSK : Hid (∀ w', Only (fun b => f1 b = 5 ∨ f1 b = 6) w1 w' → w'.cell? ⟨m, 1, none⟩ = some (.slice r2.A1 s.T.length r2.c1) ∧ w'.cell? ⟨m, 2, none⟩ = some (.slice r2.A2 s.T.length r2.c2)) := fun w' h => ⟨h.cell p1 (by show ¬ (f1 m = 5 ∨ f1 m = 6); omega), h.cell p2 (by show ¬ (f1 m = 5 ∨ f1 m = 6); omega)⟩
        have HLB := Lib.hid (fun b (hb : r2.A1.map (·.block) = some b) => (rblk_lt (MAt.o1 hM) hb).2)
        have BD := Lib.hid ((Below.refl w1.heap.size w1).drew)
        have BA := Lib.hid (show Below w1.heap.size w1 (w1.alloc (.cells #[.int .i64 (a : Int)] 3)).drew from ((Below.refl w1.heap.size w1).alloc (Nat.le_refl _) (.cells #[.int .i64 (a : Int)] 3)).drew)
        have BB := Lib.hid (show Below w1.heap.size w1 ((w1.alloc (.cells #[.int .i64 (a : Int)] 3)).alloc (.cells #[.int .i64 0] 3)).drew from (((Below.refl w1.heap.size w1).alloc (Nat.le_refl _) (.cells #[.int .i64 (a : Int)] 3)).alloc (by simp) (.cells #[.int .i64 0] 3)).drew)
        have BE := Lib.hid (show Below w1.heap.size w1 (w1.alloc (.cells #[.int .i64 0] 3)).drew from ((Below.refl w1.heap.size w1).alloc (Nat.le_refl _) (.cells #[.int .i64 0] 3)).drew)
        have BC := Lib.hid (show Below w1.heap.size w1 ((w1.alloc (.cells #[.int .i64 0] 3)).alloc (.cells #[.int .i64 (a : Int)] 3)).drew from (((Below.refl w1.heap.size w1).alloc (Nat.le_refl _) (.cells #[.int .i64 0] 3)).alloc (by simp) (.cells #[.int .i64 (a : Int)] 3)).drew)
        have LA1 := Lib.hid (show (w1.alloc (.cells #[.int .i64 (a : Int)] 3)).drew.cell? ⟨w1.heap.size, 0, none⟩ = some (.int .i64 a) from (Box.new w1 3 #[.int .i64 (a : Int)]).cell 0)
        have LB1 := Lib.hid (show ((w1.alloc (.cells #[.int .i64 (a : Int)] 3)).alloc (.cells #[.int .i64 0] 3)).drew.cell? ⟨w1.heap.size, 0, none⟩ = some (.int .i64 a) from ((Box.new w1 3 #[.int .i64 (a : Int)]).alloc _).cell 0)
        have LB2 : Hid (((w1.alloc (.cells #[.int .i64 (a : Int)] 3)).alloc (.cells #[.int .i64 0] 3)).drew.cell? ⟨w1.heap.size + 1, 0, none⟩ = some (.int .i64 0)) := by
          have h := (Box.new (w1.alloc (.cells #[.int .i64 (a : Int)] 3)) 3 #[.int .i64 0]).cell 0
          rw [show (w1.alloc (.cells #[.int .i64 (a : Int)] 3)).heap.size = w1.heap.size + 1 by simp] at h
          exact h
        have LC2 := Lib.hid (show ((w1.alloc (.cells #[.int .i64 0] 3)).alloc (.cells #[.int .i64 (a : Int)] 3)).drew.cell? ⟨w1.heap.size, 0, none⟩ = some (.int .i64 0) from ((Box.new w1 3 #[.int .i64 0]).alloc _).cell 0)
        have LC1 : Hid (((w1.alloc (.cells #[.int .i64 0] 3)).alloc (.cells #[.int .i64 (a : Int)] 3)).drew.cell? ⟨w1.heap.size + 1, 0, none⟩ = some (.int .i64 a)) := by
          have h := (Box.new (w1.alloc (.cells #[.int .i64 0] 3)) 3 #[.int .i64 (a : Int)]).cell 0
          rw [show (w1.alloc (.cells #[.int .i64 0] 3)).heap.size = w1.heap.size + 1 by simp] at h
          exact h
        have HWB := Lib.hid HH.out.hb.size
        have HFM := Lib.hid hfm
        clear hM hfm
        go_upto_region 22 with fail
        have hHeld := HSK.out w1.drew (Only.of_below BD.out)
        refine wp_region_C (S := (fun w' => w'.cell? ⟨m, 1, none⟩ = some (.slice r2.A1 s.T.length r2.c1) ∧ w'.cell? ⟨m, 2, none⟩ = some (.slice r2.A2 s.T.length r2.c2))) (k := 17) (by kernel_rfl) ?_
        refine wpAnyC_takeU (i := 0) (v := ?_) rfl (by kernel_rfl) (by kernel_rfl) (by kernel_rfl) (by kernel_rfl) (fun _ _ _ h => h) (Or.inl ⟨by rfl, ?_⟩) (fun _ => by assumption) ?_
        rotate_left
        · (intro w _; go_simp; (try with_reducible rfl))
        try simp only [List.getElem_toArray]
        try simp only [List.getElem_cons_succ]
        try simp only [List.getElem_cons_zero]
        try simp only [Act.put]
        try simp only [List.setIfInBounds_toArray]
        try simp only [List.set_cons_succ]
        try simp only [List.set_cons_zero]
        refine wpAnyC_takeU (i := 1) (v := ?_) rfl (by kernel_rfl) (by kernel_rfl) (by kernel_rfl) (by kernel_rfl) (fun _ _ _ h => h) (Or.inl ⟨by rfl, ?_⟩) (fun _ => by assumption) ?_
        rotate_left
        · (intro w _; go_simp; (try with_reducible rfl))
        try simp only [List.getElem_toArray]
        try simp only [List.getElem_cons_succ]
        try simp only [List.getElem_cons_zero]
        try simp only [Act.put]
        try simp only [List.setIfInBounds_toArray]
        try simp only [List.set_cons_succ]
        try simp only [List.set_cons_zero]
        refine wpAnyC_takeU (i := 2) (v := ?_) rfl (by kernel_rfl) (by kernel_rfl) (by kernel_rfl) (by kernel_rfl) (fun _ _ _ h => h) (Or.inl ⟨by rfl, ?_⟩) (fun _ => by assumption) ?_
        rotate_left
        · (intro w _; go_simp; (try with_reducible rfl))
        try simp only [List.getElem_toArray]
        try simp only [List.getElem_cons_succ]
        try simp only [List.getElem_cons_zero]
        try simp only [Act.put]
        try simp only [List.setIfInBounds_toArray]
        try simp only [List.set_cons_succ]
        try simp only [List.set_cons_zero]
        refine wpAnyC_takeU (i := 3) (v := ?_) rfl (by kernel_rfl) (by kernel_rfl) (by kernel_rfl) (by kernel_rfl) (fun _ _ _ h => h) (Or.inl ⟨by rfl, ?_⟩) (fun _ => by assumption) ?_
        rotate_left
        · (intro w _; go_simp; (try with_reducible rfl))
        try simp only [List.getElem_toArray]
        try simp only [List.getElem_cons_succ]
        try simp only [List.getElem_cons_zero]
        try simp only [Act.put]
        try simp only [List.setIfInBounds_toArray]
        try simp only [List.set_cons_succ]
        try simp only [List.set_cons_zero]
        refine wpAnyC_takeU (i := 4) (v := ?_) rfl (by kernel_rfl) (by kernel_rfl) (by kernel_rfl) (by kernel_rfl) (fun _ _ _ h => h) (Or.inl ⟨by rfl, ?_⟩) (fun _ => by assumption) ?_
        rotate_left
        · (intro w _; go_simp; (try with_reducible rfl))
        try simp only [List.getElem_toArray]
        try simp only [List.getElem_cons_succ]
        try simp only [List.getElem_cons_zero]
        try simp only [Act.put]
        try simp only [List.setIfInBounds_toArray]
        try simp only [List.set_cons_succ]
        try simp only [List.set_cons_zero]
        refine wpAnyC_take (i := 5) (v := ?_) rfl (by kernel_rfl) (by kernel_rfl) (by kernel_rfl) (by kernel_rfl) (by kernel_rfl) (fun _ _ _ h => h) (Or.inl ⟨by rfl, ?_⟩) (by assumption) ?_
        rotate_left
        · (intro w hSw; (try dsimp only at hSw); go_simp; (try with_reducible rfl))
        try simp only [List.getElem_toArray]
        try simp only [List.getElem_cons_succ]
        try simp only [List.getElem_cons_zero]
        try simp only [Act.put]
        try simp only [List.setIfInBounds_toArray]
        try simp only [List.set_cons_succ]
        try simp only [List.set_cons_zero]
        refine wpAnyC_takeU (i := 6) (v := ?_) rfl (by kernel_rfl) (by kernel_rfl) (by kernel_rfl) (by kernel_rfl) (fun _ _ _ h => h) (Or.inl ⟨by rfl, ?_⟩) (fun _ => by assumption) ?_
        rotate_left
        · (intro w _; go_simp; (try with_reducible rfl))
        try simp only [List.getElem_toArray]
        try simp only [List.getElem_cons_succ]
        try simp only [List.getElem_cons_zero]
        try simp only [Act.put]
        try simp only [List.setIfInBounds_toArray]
        try simp only [List.set_cons_succ]
        try simp only [List.set_cons_zero]
        refine wpAnyC_takeU (i := 9) (v := ?_) rfl (by kernel_rfl) (by kernel_rfl) (by kernel_rfl) (by kernel_rfl) (fun _ _ _ h => h) (Or.inl ⟨by rfl, ?_⟩) (fun _ => by assumption) ?_
        rotate_left
        · (intro w _; go_simp; (try with_reducible rfl))
        try simp only [List.getElem_toArray]
        try simp only [List.getElem_cons_succ]
        try simp only [List.getElem_cons_zero]
        try simp only [Act.put]
        try simp only [List.setIfInBounds_toArray]
        try simp only [List.set_cons_succ]
        try simp only [List.set_cons_zero]
        refine wpAnyC_takeU (i := 10) (v := ?_) rfl (by kernel_rfl) (by kernel_rfl) (by kernel_rfl) (by kernel_rfl) (fun _ _ _ h => h) (Or.inl ⟨by rfl, ?_⟩) (fun _ => by assumption) ?_
        rotate_left
        · (intro w _; go_simp; (try with_reducible rfl))
        try simp only [List.getElem_toArray]
        try simp only [List.getElem_cons_succ]
        try simp only [List.getElem_cons_zero]
        try simp only [Act.put]
        try simp only [List.setIfInBounds_toArray]
        try simp only [List.set_cons_succ]
        try simp only [List.set_cons_zero]
        refine wpAnyC_takeU (i := 11) (v := ?_) rfl (by kernel_rfl) (by kernel_rfl) (by kernel_rfl) (by kernel_rfl) (fun _ _ _ h => h) (Or.inl ⟨by rfl, ?_⟩) (fun _ => by assumption) ?_
        rotate_left
        · (intro w _; go_simp; (try with_reducible rfl))
        try simp only [List.getElem_toArray]
        try simp only [List.getElem_cons_succ]
        try simp only [List.getElem_cons_zero]
        try simp only [Act.put]
        try simp only [List.setIfInBounds_toArray]
        try simp only [List.set_cons_succ]
        try simp only [List.set_cons_zero]
        refine wpAnyC_take (i := 12) (v := ?_) rfl (by kernel_rfl) (by kernel_rfl) (by kernel_rfl) (by kernel_rfl) (by kernel_rfl) (fun _ _ _ h => h) (Or.inl ⟨by rfl, ?_⟩) (by assumption) ?_
        rotate_left
        · (intro w hSw; (try dsimp only at hSw); go_simp; (try with_reducible rfl))
        try simp only [List.getElem_toArray]
        try simp only [List.getElem_cons_succ]
        try simp only [List.getElem_cons_zero]
        try simp only [Act.put]
        try simp only [List.setIfInBounds_toArray]
        try simp only [List.set_cons_succ]
        try simp only [List.set_cons_zero]
        refine wpAnyC_ready (rs := [7, 13]) (by kernel_rfl) (by simp) ?_
        refine AllReadyC.cons rfl (fun K hK => ?_) ?_
        · go_simp
          refine hK.out _ _ (fun _ => HSK.out _ (Only.of_below BA.out)) ?_
          clear hK K
          try simp only [List.getElem_toArray]
          try simp only [List.getElem_cons_succ]
          try simp only [List.getElem_cons_zero]
          try simp only [Act.put]
          try simp only [List.setIfInBounds_toArray]
          try simp only [List.set_cons_succ]
          try simp only [List.set_cons_zero]
          refine wpAnyC_ready (rs := [8, 13]) (by kernel_rfl) (by simp) ?_
          refine AllReadyC.cons rfl (fun K hK => ?_) ?_
          · refine step_append_q rfl (.tmp 113) (.tmp 115) 33 rfl W.heap.size 3 i0 (.int .i64 0) 1 8 Try.underlying33 hi0 hz0 hz1 hz2 rfl (by decide) r2.A1 s.T.length r2.c1 (ints (s.T.map (·.home))) rfl (HO1.out _ BA.out) ⟨w1.heap.size, 0, none⟩ 1 1 (ints [(a : Int)]) rfl rfl (lit_int LA1.out) (ints_oneW [(a : Int)]) (by unfold maxLen; omega) (by omega) (Nat.le_trans HWB.out BA.out.size) (by decide) ?_
            intro g1 o1 d1 w4 k1 k2 k3
            have hO5 : Only (fun b => f1 b = 5) w1 w4 := (Only.of_below BA.out).trans (grown_lab k2 (MAt.l1 HH.out.M))
            have HK3 : Hid (r2.A1.map (·.block) = some g1 ∨ w1.heap.size ≤ g1) := k3.imp_right (fun e => by have := BA.out.size; omega)
            have HO5 := Lib.hid hO5
            have HK1 := Lib.hid k1
            clear k2 k3 k1 hO5
            refine hK.out _ _ (fun _ => HSK.out _ (HO5.out.more fun i hi => .inl hi)) ?_
            clear hK K
            try simp only [List.getElem_toArray]
            try simp only [List.getElem_cons_succ]
            try simp only [List.getElem_cons_zero]
            try simp only [Act.put]
            try simp only [List.setIfInBounds_toArray]
            try simp only [List.set_cons_succ]
            try simp only [List.set_cons_zero]
            refine wpAnyC_ready (rs := [13]) (by kernel_rfl) (by simp) ?_
            refine AllReadyC.cons rfl (fun K hK => ?_) AllReadyC.nil
            go_simp
            refine hK.out _ _ (fun _ => HSK.out _ ((HO5.out.more fun i hi => .inl hi).alloc _)) ?_
            clear hK K
            try simp only [List.getElem_toArray]
            try simp only [List.getElem_cons_succ]
            try simp only [List.getElem_cons_zero]
            try simp only [Act.put]
            try simp only [List.setIfInBounds_toArray]
            try simp only [List.set_cons_succ]
            try simp only [List.set_cons_zero]
            refine wpAnyC_ready (rs := [14]) (by kernel_rfl) (by simp) ?_
            refine AllReadyC.cons rfl (fun K hK => ?_) AllReadyC.nil
            have hbb := (Below.refl w4.heap.size w4).alloc (Nat.le_refl _) (.cells #[.int .i64 0] 3)
            refine step_append_q rfl (.tmp 120) (.tmp 121) 33 rfl W.heap.size 3 i0 (.int .i64 0) 1 8 Try.underlying33 hi0 hz0 hz1 hz2 rfl (by decide) r2.A2 s.T.length r2.c2 (ints (s.T.map (·.back))) rfl (HO2.out _ (HO5.out.below hbb)) ⟨w4.heap.size, 0, none⟩ 1 1 (ints [(0 : Int)]) rfl rfl (lit_int ((Box.new w4 3 #[.int .i64 0]).cell 0)) (ints_oneW [(0 : Int)]) (by unfold maxLen; omega) (by omega) (Nat.le_trans HWB.out (Nat.le_trans HO5.out.size hbb.size)) (by decide) ?_
            intro g2 o2 d2 w5 j1 j2 j3
            have hfin := MAt.fin12 HH.out.M HO5.out (by rw [List.length_map]; exact HK1.out) HK3.out hbb (by rw [List.length_map]; exact j1) j2 j3
            rw [List.length_map, List.length_map] at hfin
            have HP := Lib.hid hfin.1
            have HO6 := Lib.hid hfin.2
            have e5 := HSK.out w5 HO6.out
            have f5 := (HO6.out.box (RBox.box HH.out.M) (by show ¬ (f1 m = 5 ∨ f1 m = 6); have := HFM.out; omega)).frozen 1
            have f6 := (HO6.out.box (RBox.box HH.out.M) (by show ¬ (f1 m = 5 ∨ f1 m = 6); have := HFM.out; omega)).frozen 2
            obtain ⟨e51, e52⟩ := e5
            clear j1 j2 j3 hfin hbb
            refine hK.out _ _ (fun _ => HSK.out _ HO6.out) ?_
            clear hK K
            try simp only [List.getElem_toArray]
            try simp only [List.getElem_cons_succ]
            try simp only [List.getElem_cons_zero]
            try simp only [Act.put]
            try simp only [List.setIfInBounds_toArray]
            try simp only [List.set_cons_succ]
            try simp only [List.set_cons_zero]
            refine wpAnyC_ready (rs := [15]) (by kernel_rfl) (by simp) ?_
            refine AllReadyC.cons rfl (fun K hK => ?_) AllReadyC.nil
            go_simp
            refine hK.out _ _ (fun _ => HSK.out _ HO6.out) ?_
            clear hK K
            try simp only [List.getElem_toArray]
            try simp only [List.getElem_cons_succ]
            try simp only [List.getElem_cons_zero]
            try simp only [Act.put]
            try simp only [List.setIfInBounds_toArray]
            try simp only [List.set_cons_succ]
            try simp only [List.set_cons_zero]
            refine wpAnyC_ready (rs := [16]) (by kernel_rfl) (by simp) ?_
            refine AllReadyC.cons rfl (fun K hK => ?_) AllReadyC.nil
            go_simp
            refine hK.out _ _ (fun _ => HSK.out _ HO6.out) ?_
            clear hK K
            try simp only [List.getElem_toArray]
            try simp only [List.getElem_cons_succ]
            try simp only [List.getElem_cons_zero]
            try simp only [Act.put]
            try simp only [List.setIfInBounds_toArray]
            try simp only [List.set_cons_succ]
            try simp only [List.set_cons_zero]
            refine wpAnyC_ready (rs := [17]) (by kernel_rfl) (by simp) ?_
            refine AllReadyC.cons rfl (fun K hK => ?_) AllReadyC.nil
            go_simp
            refine hK.out _ _ (fun h => by cases h) ?_
            clear hK K
            try simp only [List.getElem_toArray]
            try simp only [List.getElem_cons_succ]
            try simp only [List.getElem_cons_zero]
            try simp only [Act.put]
            try simp only [List.setIfInBounds_toArray]
            try simp only [List.set_cons_succ]
            try simp only [List.set_cons_zero]
            refine wpAnyC_ready (rs := [18]) (by kernel_rfl) (by simp) ?_
            refine AllReadyC.cons rfl (fun K hK => ?_) AllReadyC.nil
            go_simp
            refine hK.out _ _ (fun h => by cases h) ?_
            clear hK K
            try simp only [List.getElem_toArray]
            try simp only [List.getElem_cons_succ]
            try simp only [List.getElem_cons_zero]
            try simp only [Act.put]
            try simp only [List.setIfInBounds_toArray]
            try simp only [List.set_cons_succ]
            try simp only [List.set_cons_zero]
            refine wpAnyC_ready (rs := [19]) (by kernel_rfl) (by simp) ?_
            refine AllReadyC.cons rfl (fun K hK => ?_) AllReadyC.nil
            go_simp
            refine hK.out _ _ (fun h => by cases h) ?_
            clear hK K
            try simp only [List.getElem_toArray]
            try simp only [List.getElem_cons_succ]
            try simp only [List.getElem_cons_zero]
            try simp only [Act.put]
            try simp only [List.setIfInBounds_toArray]
            try simp only [List.set_cons_succ]
            try simp only [List.set_cons_zero]
            refine wpAnyC_ready (rs := [20]) (by kernel_rfl) (by simp) ?_
            refine AllReadyC.cons rfl (fun K hK => ?_) AllReadyC.nil
            go_simp
            refine hK.out _ _ (fun h => by cases h) ?_
            clear hK K
            try simp only [List.getElem_toArray]
            try simp only [List.getElem_cons_succ]
            try simp only [List.getElem_cons_zero]
            try simp only [Act.put]
            try simp only [List.setIfInBounds_toArray]
            try simp only [List.set_cons_succ]
            try simp only [List.set_cons_zero]
            refine wpAnyC_done (by kernel_rfl) ?_ _
            clear e51 e52 f5 f6
            go_upto_region 23 with fail
            have hP := HP.out
            obtain ⟨w6, hw6⟩ : ∃ w6, w6 = (w5.setCell ⟨m, 1, none⟩ (.slice (some ⟨g1, o1, none⟩) (s.T.length + 1) d1)).setCell ⟨m, 2, none⟩ (.slice (some ⟨g2, o2, none⟩) (s.T.length + 1) d2) := ⟨_, rfl⟩
            rw [← hw6] at hP ⊢
            clear hw6 HP
            obtain ⟨f6, r6, h6, hO6, hf6⟩ := hP
            have hz8 : (w6.alloc (.cells #[.int .i64 0, .int .i64 0, .int .i64 0, .int .i64 0, .int .i64 0, .int .i64 0, .int .i64 0, .int .i64 0] 102)).cell? ⟨w6.heap.size, a, none⟩ = some (.int .i64 0) := by rw [(Box.new w6 102 #[.int .i64 0, .int .i64 0, .int .i64 0, .int .i64 0, .int .i64 0, .int .i64 0, .int .i64 0, .int .i64 0]).cell]; exact zero8 a ha8
            have hzf := (Box.new w6 102 #[.int .i64 0, .int .i64 0, .int .i64 0, .int .i64 0, .int .i64 0, .int .i64 0, .int .i64 0, .int .i64 0]).frozen a
            have hbx := Box.new w6 102 (h8C (newTh (a : Int))).toArray
            have hb7 : Below w6.heap.size w6 (w6.alloc (.cells (h8C (newTh (a : Int))).toArray 102)) := (Below.refl _ _).alloc (Nat.le_refl _) _
            obtain ⟨h7, hf7⟩ := MAt.label h6 hb7 (tb := w6.heap.size) (Nat.le_refl _) 0
            obtain ⟨f7, hf7e⟩ : ∃ f7, f7 = (fun z => if z = w6.heap.size then 0 else f6 z) := ⟨_, rfl⟩
            rw [← hf7e] at h7 hf7
            have hf7g : f7 w6.heap.size = 0 := by rw [hf7e]; exact if_pos rfl
            have HO7 := Lib.hid (hO6.below hb7)
            have HF7 : Hid (∀ b, b < w1.heap.size → f7 b = f1 b) := fun b hb => (hf7 b (Nat.lt_of_lt_of_le hb hO6.size)).trans (hf6 b hb)
            have HB7 := Lib.hid (Nat.le_trans HWB.out (Nat.le_trans hO6.size hb7.size))
            have HBX := Lib.hid hbx
            have H7 := Lib.hid h7
            have HF7G := Lib.hid hf7g
            clear h6 hO6 hf6 hbx hb7 h7 hf7 hf7e hf7g HO1 HO2 HSK HLB BD BA BB BE BC LA1 LB1 LB2 LC1 LC2 HO5 HK1 HK3 HFM
            go_upto_region 25 with fail
            rw [show ([.int .i64 0, .int .i64 0, .int .i64 0, .int .i64 0, .int .i64 0, .int .i64 0, .int .i64 0, .int .i64 0].set a (.int .i64 65536)).toArray = (h8C (newTh (a : Int))).toArray from (List.setIfInBounds_toArray _ _ _).symm.trans (h8_new a ha8)]
            obtain ⟨w7, hw7⟩ : ∃ w7, w7 = w6.alloc (.cells (h8C (newTh (a : Int))).toArray 102) := ⟨_, rfl⟩
            rw [← hw7] at HO7 HB7 HBX H7 ⊢
            clear hw7 hz8 hzf
            obtain ⟨gb, hgb⟩ : ∃ gb, gb = w6.heap.size := ⟨_, rfl⟩
            rw [← hgb] at HBX HF7G ⊢
            clear hgb
            have HS25 : Hid (∀ w', Only (fun b => f7 b = 7) w7 w' → ((fun w' => w'.cell? ⟨m, 3, none⟩ = some (.slice r6.A3 s.T.length r6.c3) ∧ w'.cell? ⟨gb, 0, none⟩ = some (.int .i64 ((newTh (a : Int)).has 0)) ∧ w'.cell? ⟨gb, 1, none⟩ = some (.int .i64 ((newTh (a : Int)).has 1)) ∧ w'.cell? ⟨gb, 2, none⟩ = some (.int .i64 ((newTh (a : Int)).has 2)) ∧ w'.cell? ⟨gb, 3, none⟩ = some (.int .i64 ((newTh (a : Int)).has 3)) ∧ w'.cell? ⟨gb, 4, none⟩ = some (.int .i64 ((newTh (a : Int)).has 4)) ∧ w'.cell? ⟨gb, 5, none⟩ = some (.int .i64 ((newTh (a : Int)).has 5)) ∧ w'.cell? ⟨gb, 6, none⟩ = some (.int .i64 ((newTh (a : Int)).has 6)) ∧ w'.cell? ⟨gb, 7, none⟩ = some (.int .i64 ((newTh (a : Int)).has 7)))) w') := fun w' h => by
              have hm3 := MAt.d3 H7.out
              have hfm : f7 m = 2 := RBox.fg H7.out
              have hgb := HF7G.out
              have hx := h.box HBX.out (by show ¬ f7 gb = 7; omega)
              exact ⟨h.cell hm3 (by show ¬ f7 m = 7; omega), hx.cell 0, hx.cell 1, hx.cell 2, hx.cell 3, hx.cell 4, hx.cell 5, hx.cell 6, hx.cell 7⟩
            have BL := Lib.hid (show Below w7.heap.size w7 (w7.alloc (.cells #[.int .i64 ((newTh (a : Int)).has 0), .int .i64 ((newTh (a : Int)).has 1), .int .i64 ((newTh (a : Int)).has 2), .int .i64 ((newTh (a : Int)).has 3), .int .i64 ((newTh (a : Int)).has 4), .int .i64 ((newTh (a : Int)).has 5), .int .i64 ((newTh (a : Int)).has 6), .int .i64 ((newTh (a : Int)).has 7)] 102)).drew from ((Below.refl w7.heap.size w7).alloc (Nat.le_refl _) (.cells #[.int .i64 ((newTh (a : Int)).has 0), .int .i64 ((newTh (a : Int)).has 1), .int .i64 ((newTh (a : Int)).has 2), .int .i64 ((newTh (a : Int)).has 3), .int .i64 ((newTh (a : Int)).has 4), .int .i64 ((newTh (a : Int)).has 5), .int .i64 ((newTh (a : Int)).has 6), .int .i64 ((newTh (a : Int)).has 7)] 102)).drew)
            have HN8W : Hid (∀ j u, (h8C (newTh (a : Int)))[j]? = some u → (w7.alloc (.cells #[.int .i64 ((newTh (a : Int)).has 0), .int .i64 ((newTh (a : Int)).has 1), .int .i64 ((newTh (a : Int)).has 2), .int .i64 ((newTh (a : Int)).has 3), .int .i64 ((newTh (a : Int)).has 4), .int .i64 ((newTh (a : Int)).has 5), .int .i64 ((newTh (a : Int)).has 6), .int .i64 ((newTh (a : Int)).has 7)] 102)).drew.cell? ((⟨w7.heap.size, 0, none⟩ : Addr).add j) = some u) := fun j u hu => by
              rw [addr_add, Nat.zero_add]
              refine ((Box.new w7 102 (h8C (newTh (a : Int))).toArray).cell j).trans ?_
              rw [← hu]
              simp
            obtain ⟨i8, y8, hi8, hy8, hy81, hy82, hy83⟩ := h8_parts
            have hHeld := HS25.out w7.drew ((Only.refl _ w7).drew)
            refine wp_region_C (S := (fun w' => w'.cell? ⟨m, 3, none⟩ = some (.slice r6.A3 s.T.length r6.c3) ∧ w'.cell? ⟨gb, 0, none⟩ = some (.int .i64 ((newTh (a : Int)).has 0)) ∧ w'.cell? ⟨gb, 1, none⟩ = some (.int .i64 ((newTh (a : Int)).has 1)) ∧ w'.cell? ⟨gb, 2, none⟩ = some (.int .i64 ((newTh (a : Int)).has 2)) ∧ w'.cell? ⟨gb, 3, none⟩ = some (.int .i64 ((newTh (a : Int)).has 3)) ∧ w'.cell? ⟨gb, 4, none⟩ = some (.int .i64 ((newTh (a : Int)).has 4)) ∧ w'.cell? ⟨gb, 5, none⟩ = some (.int .i64 ((newTh (a : Int)).has 5)) ∧ w'.cell? ⟨gb, 6, none⟩ = some (.int .i64 ((newTh (a : Int)).has 6)) ∧ w'.cell? ⟨gb, 7, none⟩ = some (.int .i64 ((newTh (a : Int)).has 7)))) (k := 10) (by kernel_rfl) ?_
            refine wpAnyC_takeU (i := 0) (v := ?_) rfl (by kernel_rfl) (by kernel_rfl) (by kernel_rfl) (by kernel_rfl) (fun _ _ _ h => h) (Or.inl ⟨by rfl, ?_⟩) (fun _ => by assumption) ?_
            rotate_left
            · (intro w _; go_simp; (try with_reducible rfl))
            try simp only [List.getElem_toArray]
            try simp only [List.getElem_cons_succ]
            try simp only [List.getElem_cons_zero]
            try simp only [Act.put]
            try simp only [List.setIfInBounds_toArray]
            try simp only [List.set_cons_succ]
            try simp only [List.set_cons_zero]
            refine wpAnyC_takeU (i := 1) (v := ?_) rfl (by kernel_rfl) (by kernel_rfl) (by kernel_rfl) (by kernel_rfl) (fun _ _ _ h => h) (Or.inl ⟨by rfl, ?_⟩) (fun _ => by assumption) ?_
            rotate_left
            · (intro w _; go_simp; (try with_reducible rfl))
            try simp only [List.getElem_toArray]
            try simp only [List.getElem_cons_succ]
            try simp only [List.getElem_cons_zero]
            try simp only [Act.put]
            try simp only [List.setIfInBounds_toArray]
            try simp only [List.set_cons_succ]
            try simp only [List.set_cons_zero]
            refine wpAnyC_takeU (i := 2) (v := ?_) rfl (by kernel_rfl) (by kernel_rfl) (by kernel_rfl) (by kernel_rfl) (fun _ _ _ h => h) (Or.inl ⟨by rfl, ?_⟩) (fun _ => by assumption) ?_
            rotate_left
            · (intro w _; go_simp; (try with_reducible rfl))
            try simp only [List.getElem_toArray]
            try simp only [List.getElem_cons_succ]
            try simp only [List.getElem_cons_zero]
            try simp only [Act.put]
            try simp only [List.setIfInBounds_toArray]
            try simp only [List.set_cons_succ]
            try simp only [List.set_cons_zero]
            refine wpAnyC_takeU (i := 3) (v := ?_) rfl (by kernel_rfl) (by kernel_rfl) (by kernel_rfl) (by kernel_rfl) (fun _ _ _ h => h) (Or.inl ⟨by rfl, ?_⟩) (fun _ => by assumption) ?_
            rotate_left
            · (intro w _; go_simp; (try with_reducible rfl))
            try simp only [List.getElem_toArray]
            try simp only [List.getElem_cons_succ]
            try simp only [List.getElem_cons_zero]
            try simp only [Act.put]
            try simp only [List.setIfInBounds_toArray]
            try simp only [List.set_cons_succ]
            try simp only [List.set_cons_zero]
            refine wpAnyC_take (i := 4) (v := ?_) rfl (by kernel_rfl) (by kernel_rfl) (by kernel_rfl) (by kernel_rfl) (by kernel_rfl) (fun _ _ _ h => h) (Or.inl ⟨by rfl, ?_⟩) (by assumption) ?_
            rotate_left
            · (intro w hSw; (try dsimp only at hSw); go_simp; (try with_reducible rfl))
            try simp only [List.getElem_toArray]
            try simp only [List.getElem_cons_succ]
            try simp only [List.getElem_cons_zero]
            try simp only [Act.put]
            try simp only [List.setIfInBounds_toArray]
            try simp only [List.set_cons_succ]
            try simp only [List.set_cons_zero]
            refine wpAnyC_take (i := 5) (v := ?_) rfl (by kernel_rfl) (by kernel_rfl) (by kernel_rfl) (by kernel_rfl) (by kernel_rfl) (fun _ _ _ h => h) (Or.inl ⟨by rfl, ?_⟩) (by assumption) ?_
            rotate_left
            · (intro w hSw; (try dsimp only at hSw); go_simp; (try with_reducible rfl))
            try simp only [List.getElem_toArray]
            try simp only [List.getElem_cons_succ]
            try simp only [List.getElem_cons_zero]
            try simp only [Act.put]
            try simp only [List.setIfInBounds_toArray]
            try simp only [List.set_cons_succ]
            try simp only [List.set_cons_zero]
            refine wpAnyC_ready (rs := [6]) (by kernel_rfl) (by simp) ?_
            refine AllReadyC.cons rfl (fun K hK => ?_) AllReadyC.nil
            go_simp
            refine hK.out _ _ (fun _ => HS25.out _ (Only.of_below BL.out)) ?_
            clear hK K
            try simp only [List.getElem_toArray]
            try simp only [List.getElem_cons_succ]
            try simp only [List.getElem_cons_zero]
            try simp only [Act.put]
            try simp only [List.setIfInBounds_toArray]
            try simp only [List.set_cons_succ]
            try simp only [List.set_cons_zero]
            refine wpAnyC_ready (rs := [7]) (by kernel_rfl) (by simp) ?_
            refine AllReadyC.cons rfl (fun K hK => ?_) AllReadyC.nil
            refine step_append_q rfl (.tmp 133) (.tmp 135) 98 rfl W.heap.size 102 i8 y8 8 64 Try.underlying98 hi8 hy8 hy81 hy82 hy83 (by decide) r6.A3 s.T.length r6.c3 (flat h8C s.T) rfl (MAt.o3 (MAt.below H7.out BL.out)) ⟨w7.heap.size, 0, none⟩ 1 1 (h8C (newTh (a : Int))) rfl rfl HN8W.out (h8_one _) (by unfold maxLen; omega) (by omega) (Nat.le_trans HB7.out BL.out.size) (by decide) ?_
            intro g3 o3 d3 w9 j1 j2 j3
            have hX9 := MAt.push3 (MAt.below H7.out BL.out) j1 j2 j3
            have HX9 := Lib.hid (hX9.chain (Only.of_below BL.out) (fun _ _ => rfl))
            have HO9 : Hid (Only (fun b => f7 b = 7) w7 w9) := (Only.of_below BL.out).trans (grown_lab j2 (MAt.l3 H7.out))
            obtain ⟨e93, _⟩ := HS25.out w9 HO9.out
            have f93 := (HO9.out.box (RBox.box H7.out) (by show ¬ f7 m = 7; have h2 : f7 m = 2 := RBox.fg H7.out; omega)).frozen 3
            clear j1 j2 j3 hX9
            refine hK.out _ _ (fun _ => HS25.out _ HO9.out) ?_
            clear hK K
            try simp only [List.getElem_toArray]
            try simp only [List.getElem_cons_succ]
            try simp only [List.getElem_cons_zero]
            try simp only [Act.put]
            try simp only [List.setIfInBounds_toArray]
            try simp only [List.set_cons_succ]
            try simp only [List.set_cons_zero]
            refine wpAnyC_ready (rs := [8]) (by kernel_rfl) (by simp) ?_
            refine AllReadyC.cons rfl (fun K hK => ?_) AllReadyC.nil
            go_simp
            refine hK.out _ _ (fun _ => HS25.out _ HO9.out) ?_
            clear hK K
            try simp only [List.getElem_toArray]
            try simp only [List.getElem_cons_succ]
            try simp only [List.getElem_cons_zero]
            try simp only [Act.put]
            try simp only [List.setIfInBounds_toArray]
            try simp only [List.set_cons_succ]
            try simp only [List.set_cons_zero]
            refine wpAnyC_ready (rs := [9]) (by kernel_rfl) (by simp) ?_
            refine AllReadyC.cons rfl (fun K hK => ?_) AllReadyC.nil
            go_simp
            refine hK.out _ _ (fun _ => HS25.out _ HO9.out) ?_
            clear hK K
            try simp only [List.getElem_toArray]
            try simp only [List.getElem_cons_succ]
            try simp only [List.getElem_cons_zero]
            try simp only [Act.put]
            try simp only [List.setIfInBounds_toArray]
            try simp only [List.set_cons_succ]
            try simp only [List.set_cons_zero]
            refine wpAnyC_ready (rs := [10]) (by kernel_rfl) (by simp) ?_
            refine AllReadyC.cons rfl (fun K hK => ?_) AllReadyC.nil
            go_simp
            refine hK.out _ _ (fun h => by cases h) ?_
            clear hK K
            try simp only [List.getElem_toArray]
            try simp only [List.getElem_cons_succ]
            try simp only [List.getElem_cons_zero]
            try simp only [Act.put]
            try simp only [List.setIfInBounds_toArray]
            try simp only [List.set_cons_succ]
            try simp only [List.set_cons_zero]
            refine wpAnyC_done (by kernel_rfl) ?_ _
            go_upto_region 26 with fail
            have hX9 := HX9.out.chain HO7.out HF7.out
            obtain ⟨w10, hw10⟩ : ∃ w10, w10 = w9.setCell ⟨m, 3, none⟩ (.slice (some ⟨g3, o3, none⟩) (s.T.length + 1) d3) := ⟨_, rfl⟩
            rw [← hw10] at hX9 ⊢
            clear hw10 HX9 HO9 e93 f93 BL HN8W HS25 HBX H7 HF7G HB7 HF7 HO7
            have hm2 : MSPost w1 w10 W.heap.size f1 m N (s.new a) := by
              show MPost w1 w10 W.heap.size f1 m N ((s.T ++ [newTh a]).map (·.home)) ((s.T ++ [newTh a]).map (·.back)) (s.T ++ [newTh a]) s.Y
              rw [List.map_append, List.map_append]
              exact hX9
            obtain ⟨f9, r9, r29, hbn⟩ := HH.out.step HOK.out hm2
            have q10 := MAt.d1 hbn.M
            rw [List.length_map, show (s.new a).T.length = s.T.length + 1 by simp [WS.new]] at q10
            obtain ⟨s9, hs9⟩ : ∃ s9, s9 = s.new a := ⟨_, rfl⟩
            rw [← hs9] at hbn
            have HBN := Lib.hid hbn
            clear hm2 hbn HH HOK hs9 hX9
            have hok9 := HBN.out.ok
            have HWT := Lib.hid (weightTells_any W.heap.size f9 x m N (k + 1) s9 r9 r29 _ HBN.out.X HBN.out.M hN8 hok9.t20 hok9.y60)
            clear hok9
            go_wp2_with fail
            refine HWT.out.mono ?_
            rintro e w9 ⟨rfl, hb9⟩
            have HB9 := Lib.hid (HBN.out.below hb9)
            clear hb9 HWT
            go_wp2_with fail
            go_roundg (xss.length - (k + 1))
            case measure => have := HK.out; omega
            case rel => exact ⟨k + 1, s9, f9, r9, r29, rfl, by omega, by go_num, HB9.out⟩
          refine AllReadyC.cons rfl (fun K hK => ?_) ?_
          · go_simp
            refine hK.out _ _ (fun _ => HSK.out _ (Only.of_below BB.out)) ?_
            clear hK K
            try simp only [List.getElem_toArray]
            try simp only [List.getElem_cons_succ]
            try simp only [List.getElem_cons_zero]
            try simp only [Act.put]
            try simp only [List.setIfInBounds_toArray]
            try simp only [List.set_cons_succ]
            try simp only [List.set_cons_zero]
            refine wpAnyC_ready (rs := [8]) (by kernel_rfl) (by simp) ?_
            refine AllReadyC.cons rfl (fun K hK => ?_) AllReadyC.nil
            refine step_append_q rfl (.tmp 113) (.tmp 115) 33 rfl W.heap.size 3 i0 (.int .i64 0) 1 8 Try.underlying33 hi0 hz0 hz1 hz2 rfl (by decide) r2.A1 s.T.length r2.c1 (ints (s.T.map (·.home))) rfl (HO1.out _ BB.out) ⟨w1.heap.size, 0, none⟩ 1 1 (ints [(a : Int)]) rfl rfl (lit_int LB1.out) (ints_oneW [(a : Int)]) (by unfold maxLen; omega) (by omega) (Nat.le_trans HWB.out BB.out.size) (by decide) ?_
            intro g1 o1 d1 w4 k1 k2 k3
            have hO5 : Only (fun b => f1 b = 5) w1 w4 := (Only.of_below BB.out).trans (grown_lab k2 (MAt.l1 HH.out.M))
            have HK3 : Hid (r2.A1.map (·.block) = some g1 ∨ w1.heap.size ≤ g1) := k3.imp_right (fun e => by have := BB.out.size; omega)
            have HO5 := Lib.hid hO5
            have HK1 := Lib.hid k1
            have hl2 := grown_cell k2 LB2.out (fun e => by have := HLB.out _ e.symm; (try dsimp only at this); omega)
            clear k2 k3 k1 hO5
            refine hK.out _ _ (fun _ => HSK.out _ (HO5.out.more fun i hi => .inl hi)) ?_
            clear hK K
            try simp only [List.getElem_toArray]
            try simp only [List.getElem_cons_succ]
            try simp only [List.getElem_cons_zero]
            try simp only [Act.put]
            try simp only [List.setIfInBounds_toArray]
            try simp only [List.set_cons_succ]
            try simp only [List.set_cons_zero]
            refine wpAnyC_ready (rs := [14]) (by kernel_rfl) (by simp) ?_
            refine AllReadyC.cons rfl (fun K hK => ?_) AllReadyC.nil
            have hbb := Below.refl w4.heap.size w4
            refine step_append_q rfl (.tmp 120) (.tmp 121) 33 rfl W.heap.size 3 i0 (.int .i64 0) 1 8 Try.underlying33 hi0 hz0 hz1 hz2 rfl (by decide) r2.A2 s.T.length r2.c2 (ints (s.T.map (·.back))) rfl (HO2.out _ (HO5.out.below hbb)) ⟨w1.heap.size + 1, 0, none⟩ 1 1 (ints [(0 : Int)]) rfl rfl (lit_int hl2) (ints_oneW [(0 : Int)]) (by unfold maxLen; omega) (by omega) (Nat.le_trans HWB.out (Nat.le_trans HO5.out.size hbb.size)) (by decide) ?_
            intro g2 o2 d2 w5 j1 j2 j3
            have hfin := MAt.fin12 HH.out.M HO5.out (by rw [List.length_map]; exact HK1.out) HK3.out hbb (by rw [List.length_map]; exact j1) j2 j3
            rw [List.length_map, List.length_map] at hfin
            have HP := Lib.hid hfin.1
            have HO6 := Lib.hid hfin.2
            have e5 := HSK.out w5 HO6.out
            have f5 := (HO6.out.box (RBox.box HH.out.M) (by show ¬ (f1 m = 5 ∨ f1 m = 6); have := HFM.out; omega)).frozen 1
            have f6 := (HO6.out.box (RBox.box HH.out.M) (by show ¬ (f1 m = 5 ∨ f1 m = 6); have := HFM.out; omega)).frozen 2
            obtain ⟨e51, e52⟩ := e5
            clear j1 j2 j3 hfin hbb
            refine hK.out _ _ (fun _ => HSK.out _ HO6.out) ?_
            clear hK K
            try simp only [List.getElem_toArray]
            try simp only [List.getElem_cons_succ]
            try simp only [List.getElem_cons_zero]
            try simp only [Act.put]
            try simp only [List.setIfInBounds_toArray]
            try simp only [List.set_cons_succ]
            try simp only [List.set_cons_zero]
            refine wpAnyC_ready (rs := [15]) (by kernel_rfl) (by simp) ?_
            refine AllReadyC.cons rfl (fun K hK => ?_) AllReadyC.nil
            go_simp
            refine hK.out _ _ (fun _ => HSK.out _ HO6.out) ?_
            clear hK K
            try simp only [List.getElem_toArray]
            try simp only [List.getElem_cons_succ]
            try simp only [List.getElem_cons_zero]
            try simp only [Act.put]
            try simp only [List.setIfInBounds_toArray]
            try simp only [List.set_cons_succ]
            try simp only [List.set_cons_zero]
            refine wpAnyC_ready (rs := [16]) (by kernel_rfl) (by simp) ?_
            refine AllReadyC.cons rfl (fun K hK => ?_) AllReadyC.nil
            go_simp
            refine hK.out _ _ (fun _ => HSK.out _ HO6.out) ?_
            clear hK K
            try simp only [List.getElem_toArray]
            try simp only [List.getElem_cons_succ]
            try simp only [List.getElem_cons_zero]
            try simp only [Act.put]
            try simp only [List.setIfInBounds_toArray]
            try simp only [List.set_cons_succ]
            try simp only [List.set_cons_zero]
            refine wpAnyC_ready (rs := [17]) (by kernel_rfl) (by simp) ?_
            refine AllReadyC.cons rfl (fun K hK => ?_) AllReadyC.nil
            go_simp
            refine hK.out _ _ (fun h => by cases h) ?_
            clear hK K
            try simp only [List.getElem_toArray]
            try simp only [List.getElem_cons_succ]
            try simp only [List.getElem_cons_zero]
            try simp only [Act.put]
            try simp only [List.setIfInBounds_toArray]
            try simp only [List.set_cons_succ]
            try simp only [List.set_cons_zero]
            refine wpAnyC_ready (rs := [18]) (by kernel_rfl) (by simp) ?_
            refine AllReadyC.cons rfl (fun K hK => ?_) AllReadyC.nil
            go_simp
            refine hK.out _ _ (fun h => by cases h) ?_
            clear hK K
            try simp only [List.getElem_toArray]
            try simp only [List.getElem_cons_succ]
            try simp only [List.getElem_cons_zero]
            try simp only [Act.put]
            try simp only [List.setIfInBounds_toArray]
            try simp only [List.set_cons_succ]
            try simp only [List.set_cons_zero]
            refine wpAnyC_ready (rs := [19]) (by kernel_rfl) (by simp) ?_
            refine AllReadyC.cons rfl (fun K hK => ?_) AllReadyC.nil
            go_simp
            refine hK.out _ _ (fun h => by cases h) ?_
            clear hK K
            try simp only [List.getElem_toArray]
            try simp only [List.getElem_cons_succ]
            try simp only [List.getElem_cons_zero]
            try simp only [Act.put]
            try simp only [List.setIfInBounds_toArray]
            try simp only [List.set_cons_succ]
            try simp only [List.set_cons_zero]
            refine wpAnyC_ready (rs := [20]) (by kernel_rfl) (by simp) ?_
            refine AllReadyC.cons rfl (fun K hK => ?_) AllReadyC.nil
            go_simp
            refine hK.out _ _ (fun h => by cases h) ?_
            clear hK K
            try simp only [List.getElem_toArray]
            try simp only [List.getElem_cons_succ]
            try simp only [List.getElem_cons_zero]
            try simp only [Act.put]
            try simp only [List.setIfInBounds_toArray]
            try simp only [List.set_cons_succ]
            try simp only [List.set_cons_zero]
            refine wpAnyC_done (by kernel_rfl) ?_ _
            clear e51 e52 f5 f6
            go_upto_region 23 with fail
            have hP := HP.out
            obtain ⟨w6, hw6⟩ : ∃ w6, w6 = (w5.setCell ⟨m, 1, none⟩ (.slice (some ⟨g1, o1, none⟩) (s.T.length + 1) d1)).setCell ⟨m, 2, none⟩ (.slice (some ⟨g2, o2, none⟩) (s.T.length + 1) d2) := ⟨_, rfl⟩
            rw [← hw6] at hP ⊢
            clear hw6 HP
            obtain ⟨f6, r6, h6, hO6, hf6⟩ := hP
            have hz8 : (w6.alloc (.cells #[.int .i64 0, .int .i64 0, .int .i64 0, .int .i64 0, .int .i64 0, .int .i64 0, .int .i64 0, .int .i64 0] 102)).cell? ⟨w6.heap.size, a, none⟩ = some (.int .i64 0) := by rw [(Box.new w6 102 #[.int .i64 0, .int .i64 0, .int .i64 0, .int .i64 0, .int .i64 0, .int .i64 0, .int .i64 0, .int .i64 0]).cell]; exact zero8 a ha8
            have hzf := (Box.new w6 102 #[.int .i64 0, .int .i64 0, .int .i64 0, .int .i64 0, .int .i64 0, .int .i64 0, .int .i64 0, .int .i64 0]).frozen a
            have hbx := Box.new w6 102 (h8C (newTh (a : Int))).toArray
            have hb7 : Below w6.heap.size w6 (w6.alloc (.cells (h8C (newTh (a : Int))).toArray 102)) := (Below.refl _ _).alloc (Nat.le_refl _) _
            obtain ⟨h7, hf7⟩ := MAt.label h6 hb7 (tb := w6.heap.size) (Nat.le_refl _) 0
            obtain ⟨f7, hf7e⟩ : ∃ f7, f7 = (fun z => if z = w6.heap.size then 0 else f6 z) := ⟨_, rfl⟩
            rw [← hf7e] at h7 hf7
            have hf7g : f7 w6.heap.size = 0 := by rw [hf7e]; exact if_pos rfl
            have HO7 := Lib.hid (hO6.below hb7)
            have HF7 : Hid (∀ b, b < w1.heap.size → f7 b = f1 b) := fun b hb => (hf7 b (Nat.lt_of_lt_of_le hb hO6.size)).trans (hf6 b hb)
            have HB7 := Lib.hid (Nat.le_trans HWB.out (Nat.le_trans hO6.size hb7.size))
            have HBX := Lib.hid hbx
            have H7 := Lib.hid h7
            have HF7G := Lib.hid hf7g
            clear h6 hO6 hf6 hbx hb7 h7 hf7 hf7e hf7g HO1 HO2 HSK HLB BD BA BB BE BC LA1 LB1 LB2 LC1 LC2 HO5 HK1 HK3 HFM
            go_upto_region 25 with fail
            rw [show ([.int .i64 0, .int .i64 0, .int .i64 0, .int .i64 0, .int .i64 0, .int .i64 0, .int .i64 0, .int .i64 0].set a (.int .i64 65536)).toArray = (h8C (newTh (a : Int))).toArray from (List.setIfInBounds_toArray _ _ _).symm.trans (h8_new a ha8)]
            obtain ⟨w7, hw7⟩ : ∃ w7, w7 = w6.alloc (.cells (h8C (newTh (a : Int))).toArray 102) := ⟨_, rfl⟩
            rw [← hw7] at HO7 HB7 HBX H7 ⊢
            clear hw7 hz8 hzf
            obtain ⟨gb, hgb⟩ : ∃ gb, gb = w6.heap.size := ⟨_, rfl⟩
            rw [← hgb] at HBX HF7G ⊢
            clear hgb
            have HS25 : Hid (∀ w', Only (fun b => f7 b = 7) w7 w' → ((fun w' => w'.cell? ⟨m, 3, none⟩ = some (.slice r6.A3 s.T.length r6.c3) ∧ w'.cell? ⟨gb, 0, none⟩ = some (.int .i64 ((newTh (a : Int)).has 0)) ∧ w'.cell? ⟨gb, 1, none⟩ = some (.int .i64 ((newTh (a : Int)).has 1)) ∧ w'.cell? ⟨gb, 2, none⟩ = some (.int .i64 ((newTh (a : Int)).has 2)) ∧ w'.cell? ⟨gb, 3, none⟩ = some (.int .i64 ((newTh (a : Int)).has 3)) ∧ w'.cell? ⟨gb, 4, none⟩ = some (.int .i64 ((newTh (a : Int)).has 4)) ∧ w'.cell? ⟨gb, 5, none⟩ = some (.int .i64 ((newTh (a : Int)).has 5)) ∧ w'.cell? ⟨gb, 6, none⟩ = some (.int .i64 ((newTh (a : Int)).has 6)) ∧ w'.cell? ⟨gb, 7, none⟩ = some (.int .i64 ((newTh (a : Int)).has 7)))) w') := fun w' h => by
              have hm3 := MAt.d3 H7.out
              have hfm : f7 m = 2 := RBox.fg H7.out
              have hgb := HF7G.out
              have hx := h.box HBX.out (by show ¬ f7 gb = 7; omega)
              exact ⟨h.cell hm3 (by show ¬ f7 m = 7; omega), hx.cell 0, hx.cell 1, hx.cell 2, hx.cell 3, hx.cell 4, hx.cell 5, hx.cell 6, hx.cell 7⟩
            have BL := Lib.hid (show Below w7.heap.size w7 (w7.alloc (.cells #[.int .i64 ((newTh (a : Int)).has 0), .int .i64 ((newTh (a : Int)).has 1), .int .i64 ((newTh (a : Int)).has 2), .int .i64 ((newTh (a : Int)).has 3), .int .i64 ((newTh (a : Int)).has 4), .int .i64 ((newTh (a : Int)).has 5), .int .i64 ((newTh (a : Int)).has 6), .int .i64 ((newTh (a : Int)).has 7)] 102)).drew from ((Below.refl w7.heap.size w7).alloc (Nat.le_refl _) (.cells #[.int .i64 ((newTh (a : Int)).has 0), .int .i64 ((newTh (a : Int)).has 1), .int .i64 ((newTh (a : Int)).has 2), .int .i64 ((newTh (a : Int)).has 3), .int .i64 ((newTh (a : Int)).has 4), .int .i64 ((newTh (a : Int)).has 5), .int .i64 ((newTh (a : Int)).has 6), .int .i64 ((newTh (a : Int)).has 7)] 102)).drew)
            have HN8W : Hid (∀ j u, (h8C (newTh (a : Int)))[j]? = some u → (w7.alloc (.cells #[.int .i64 ((newTh (a : Int)).has 0), .int .i64 ((newTh (a : Int)).has 1), .int .i64 ((newTh (a : Int)).has 2), .int .i64 ((newTh (a : Int)).has 3), .int .i64 ((newTh (a : Int)).has 4), .int .i64 ((newTh (a : Int)).has 5), .int .i64 ((newTh (a : Int)).has 6), .int .i64 ((newTh (a : Int)).has 7)] 102)).drew.cell? ((⟨w7.heap.size, 0, none⟩ : Addr).add j) = some u) := fun j u hu => by
              rw [addr_add, Nat.zero_add]
              refine ((Box.new w7 102 (h8C (newTh (a : Int))).toArray).cell j).trans ?_
              rw [← hu]
              simp
            obtain ⟨i8, y8, hi8, hy8, hy81, hy82, hy83⟩ := h8_parts
            have hHeld := HS25.out w7.drew ((Only.refl _ w7).drew)
            refine wp_region_C (S := (fun w' => w'.cell? ⟨m, 3, none⟩ = some (.slice r6.A3 s.T.length r6.c3) ∧ w'.cell? ⟨gb, 0, none⟩ = some (.int .i64 ((newTh (a : Int)).has 0)) ∧ w'.cell? ⟨gb, 1, none⟩ = some (.int .i64 ((newTh (a : Int)).has 1)) ∧ w'.cell? ⟨gb, 2, none⟩ = some (.int .i64 ((newTh (a : Int)).has 2)) ∧ w'.cell? ⟨gb, 3, none⟩ = some (.int .i64 ((newTh (a : Int)).has 3)) ∧ w'.cell? ⟨gb, 4, none⟩ = some (.int .i64 ((newTh (a : Int)).has 4)) ∧ w'.cell? ⟨gb, 5, none⟩ = some (.int .i64 ((newTh (a : Int)).has 5)) ∧ w'.cell? ⟨gb, 6, none⟩ = some (.int .i64 ((newTh (a : Int)).has 6)) ∧ w'.cell? ⟨gb, 7, none⟩ = some (.int .i64 ((newTh (a : Int)).has 7)))) (k := 10) (by kernel_rfl) ?_
            refine wpAnyC_takeU (i := 0) (v := ?_) rfl (by kernel_rfl) (by kernel_rfl) (by kernel_rfl) (by kernel_rfl) (fun _ _ _ h => h) (Or.inl ⟨by rfl, ?_⟩) (fun _ => by assumption) ?_
            rotate_left
            · (intro w _; go_simp; (try with_reducible rfl))
            try simp only [List.getElem_toArray]
            try simp only [List.getElem_cons_succ]
            try simp only [List.getElem_cons_zero]
            try simp only [Act.put]
            try simp only [List.setIfInBounds_toArray]
            try simp only [List.set_cons_succ]
            try simp only [List.set_cons_zero]
            refine wpAnyC_takeU (i := 1) (v := ?_) rfl (by kernel_rfl) (by kernel_rfl) (by kernel_rfl) (by kernel_rfl) (fun _ _ _ h => h) (Or.inl ⟨by rfl, ?_⟩) (fun _ => by assumption) ?_
            rotate_left
            · (intro w _; go_simp; (try with_reducible rfl))
            try simp only [List.getElem_toArray]
            try simp only [List.getElem_cons_succ]
            try simp only [List.getElem_cons_zero]
            try simp only [Act.put]
            try simp only [List.setIfInBounds_toArray]
            try simp only [List.set_cons_succ]
            try simp only [List.set_cons_zero]
            refine wpAnyC_takeU (i := 2) (v := ?_) rfl (by kernel_rfl) (by kernel_rfl) (by kernel_rfl) (by kernel_rfl) (fun _ _ _ h => h) (Or.inl ⟨by rfl, ?_⟩) (fun _ => by assumption) ?_
            rotate_left
            · (intro w _; go_simp; (try with_reducible rfl))
            try simp only [List.getElem_toArray]
            try simp only [List.getElem_cons_succ]
            try simp only [List.getElem_cons_zero]
            try simp only [Act.put]
            try simp only [List.setIfInBounds_toArray]
            try simp only [List.set_cons_succ]
            try simp only [List.set_cons_zero]
            refine wpAnyC_takeU (i := 3) (v := ?_) rfl (by kernel_rfl) (by kernel_rfl) (by kernel_rfl) (by kernel_rfl) (fun _ _ _ h => h) (Or.inl ⟨by rfl, ?_⟩) (fun _ => by assumption) ?_
            rotate_left
            · (intro w _; go_simp; (try with_reducible rfl))
            try simp only [List.getElem_toArray]
            try simp only [List.getElem_cons_succ]
            try simp only [List.getElem_cons_zero]
            try simp only [Act.put]
            try simp only [List.setIfInBounds_toArray]
            try simp only [List.set_cons_succ]
            try simp only [List.set_cons_zero]
            refine wpAnyC_take (i := 4) (v := ?_) rfl (by kernel_rfl) (by kernel_rfl) (by kernel_rfl) (by kernel_rfl) (by kernel_rfl) (fun _ _ _ h => h) (Or.inl ⟨by rfl, ?_⟩) (by assumption) ?_
            rotate_left
            · (intro w hSw; (try dsimp only at hSw); go_simp; (try with_reducible rfl))
            try simp only [List.getElem_toArray]
            try simp only [List.getElem_cons_succ]
            try simp only [List.getElem_cons_zero]
            try simp only [Act.put]
            try simp only [List.setIfInBounds_toArray]
            try simp only [List.set_cons_succ]
            try simp only [List.set_cons_zero]
            refine wpAnyC_take (i := 5) (v := ?_) rfl (by kernel_rfl) (by kernel_rfl) (by kernel_rfl) (by kernel_rfl) (by kernel_rfl) (fun _ _ _ h => h) (Or.inl ⟨by rfl, ?_⟩) (by assumption) ?_
            rotate_left
            · (intro w hSw; (try dsimp only at hSw); go_simp; (try with_reducible rfl))
            try simp only [List.getElem_toArray]
            try simp only [List.getElem_cons_succ]
            try simp only [List.getElem_cons_zero]
            try simp only [Act.put]
            try simp only [List.setIfInBounds_toArray]
            try simp only [List.set_cons_succ]
            try simp only [List.set_cons_zero]
            refine wpAnyC_ready (rs := [6]) (by kernel_rfl) (by simp) ?_
            refine AllReadyC.cons rfl (fun K hK => ?_) AllReadyC.nil
            go_simp
            refine hK.out _ _ (fun _ => HS25.out _ (Only.of_below BL.out)) ?_
            clear hK K
            try simp only [List.getElem_toArray]
            try simp only [List.getElem_cons_succ]
            try simp only [List.getElem_cons_zero]
            try simp only [Act.put]
            try simp only [List.setIfInBounds_toArray]
            try simp only [List.set_cons_succ]
            try simp only [List.set_cons_zero]
            refine wpAnyC_ready (rs := [7]) (by kernel_rfl) (by simp) ?_
            refine AllReadyC.cons rfl (fun K hK => ?_) AllReadyC.nil
            refine step_append_q rfl (.tmp 133) (.tmp 135) 98 rfl W.heap.size 102 i8 y8 8 64 Try.underlying98 hi8 hy8 hy81 hy82 hy83 (by decide) r6.A3 s.T.length r6.c3 (flat h8C s.T) rfl (MAt.o3 (MAt.below H7.out BL.out)) ⟨w7.heap.size, 0, none⟩ 1 1 (h8C (newTh (a : Int))) rfl rfl HN8W.out (h8_one _) (by unfold maxLen; omega) (by omega) (Nat.le_trans HB7.out BL.out.size) (by decide) ?_
            intro g3 o3 d3 w9 j1 j2 j3
            have hX9 := MAt.push3 (MAt.below H7.out BL.out) j1 j2 j3
            have HX9 := Lib.hid (hX9.chain (Only.of_below BL.out) (fun _ _ => rfl))
            have HO9 : Hid (Only (fun b => f7 b = 7) w7 w9) := (Only.of_below BL.out).trans (grown_lab j2 (MAt.l3 H7.out))
            obtain ⟨e93, _⟩ := HS25.out w9 HO9.out
            have f93 := (HO9.out.box (RBox.box H7.out) (by show ¬ f7 m = 7; have h2 : f7 m = 2 := RBox.fg H7.out; omega)).frozen 3
            clear j1 j2 j3 hX9
            refine hK.out _ _ (fun _ => HS25.out _ HO9.out) ?_
            clear hK K
            try simp only [List.getElem_toArray]
            try simp only [List.getElem_cons_succ]
            try simp only [List.getElem_cons_zero]
            try simp only [Act.put]
            try simp only [List.setIfInBounds_toArray]
            try simp only [List.set_cons_succ]
            try simp only [List.set_cons_zero]
            refine wpAnyC_ready (rs := [8]) (by kernel_rfl) (by simp) ?_
            refine AllReadyC.cons rfl (fun K hK => ?_) AllReadyC.nil
            go_simp
            refine hK.out _ _ (fun _ => HS25.out _ HO9.out) ?_
            clear hK K
            try simp only [List.getElem_toArray]
            try simp only [List.getElem_cons_succ]
            try simp only [List.getElem_cons_zero]
            try simp only [Act.put]
            try simp only [List.setIfInBounds_toArray]
            try simp only [List.set_cons_succ]
            try simp only [List.set_cons_zero]
            refine wpAnyC_ready (rs := [9]) (by kernel_rfl) (by simp) ?_
            refine AllReadyC.cons rfl (fun K hK => ?_) AllReadyC.nil
            go_simp
            refine hK.out _ _ (fun _ => HS25.out _ HO9.out) ?_
            clear hK K
            try simp only [List.getElem_toArray]
            try simp only [List.getElem_cons_succ]
            try simp only [List.getElem_cons_zero]
            try simp only [Act.put]
            try simp only [List.setIfInBounds_toArray]
            try simp only [List.set_cons_succ]
            try simp only [List.set_cons_zero]
            refine wpAnyC_ready (rs := [10]) (by kernel_rfl) (by simp) ?_
            refine AllReadyC.cons rfl (fun K hK => ?_) AllReadyC.nil
            go_simp
            refine hK.out _ _ (fun h => by cases h) ?_
            clear hK K
            try simp only [List.getElem_toArray]
            try simp only [List.getElem_cons_succ]
            try simp only [List.getElem_cons_zero]
            try simp only [Act.put]
            try simp only [List.setIfInBounds_toArray]
            try simp only [List.set_cons_succ]
            try simp only [List.set_cons_zero]
            refine wpAnyC_done (by kernel_rfl) ?_ _
            go_upto_region 26 with fail
            have hX9 := HX9.out.chain HO7.out HF7.out
            obtain ⟨w10, hw10⟩ : ∃ w10, w10 = w9.setCell ⟨m, 3, none⟩ (.slice (some ⟨g3, o3, none⟩) (s.T.length + 1) d3) := ⟨_, rfl⟩
            rw [← hw10] at hX9 ⊢
            clear hw10 HX9 HO9 e93 f93 BL HN8W HS25 HBX H7 HF7G HB7 HF7 HO7
            have hm2 : MSPost w1 w10 W.heap.size f1 m N (s.new a) := by
              show MPost w1 w10 W.heap.size f1 m N ((s.T ++ [newTh a]).map (·.home)) ((s.T ++ [newTh a]).map (·.back)) (s.T ++ [newTh a]) s.Y
              rw [List.map_append, List.map_append]
              exact hX9
            obtain ⟨f9, r9, r29, hbn⟩ := HH.out.step HOK.out hm2
            have q10 := MAt.d1 hbn.M
            rw [List.length_map, show (s.new a).T.length = s.T.length + 1 by simp [WS.new]] at q10
            obtain ⟨s9, hs9⟩ : ∃ s9, s9 = s.new a := ⟨_, rfl⟩
            rw [← hs9] at hbn
            have HBN := Lib.hid hbn
            clear hm2 hbn HH HOK hs9 hX9
            have hok9 := HBN.out.ok
            have HWT := Lib.hid (weightTells_any W.heap.size f9 x m N (k + 1) s9 r9 r29 _ HBN.out.X HBN.out.M hN8 hok9.t20 hok9.y60)
            clear hok9
            go_wp2_with fail
            refine HWT.out.mono ?_
            rintro e w9 ⟨rfl, hb9⟩
            have HB9 := Lib.hid (HBN.out.below hb9)
            clear hb9 HWT
            go_wp2_with fail
            go_roundg (xss.length - (k + 1))
            case measure => have := HK.out; omega
            case rel => exact ⟨k + 1, s9, f9, r9, r29, rfl, by omega, by go_num, HB9.out⟩
          exact AllReadyC.nil
        refine AllReadyC.cons rfl (fun K hK => ?_) ?_
        · go_simp
          refine hK.out _ _ (fun _ => HSK.out _ (Only.of_below BE.out)) ?_
          clear hK K
          try simp only [List.getElem_toArray]
          try simp only [List.getElem_cons_succ]
          try simp only [List.getElem_cons_zero]
          try simp only [Act.put]
          try simp only [List.setIfInBounds_toArray]
          try simp only [List.set_cons_succ]
          try simp only [List.set_cons_zero]
          refine wpAnyC_ready (rs := [7]) (by kernel_rfl) (by simp) ?_
          refine AllReadyC.cons rfl (fun K hK => ?_) AllReadyC.nil
          go_simp
          refine hK.out _ _ (fun _ => HSK.out _ (Only.of_below BC.out)) ?_
          clear hK K
          try simp only [List.getElem_toArray]
          try simp only [List.getElem_cons_succ]
          try simp only [List.getElem_cons_zero]
          try simp only [Act.put]
          try simp only [List.setIfInBounds_toArray]
          try simp only [List.set_cons_succ]
          try simp only [List.set_cons_zero]
          refine wpAnyC_ready (rs := [8]) (by kernel_rfl) (by simp) ?_
          refine AllReadyC.cons rfl (fun K hK => ?_) AllReadyC.nil
          refine step_append_q rfl (.tmp 113) (.tmp 115) 33 rfl W.heap.size 3 i0 (.int .i64 0) 1 8 Try.underlying33 hi0 hz0 hz1 hz2 rfl (by decide) r2.A1 s.T.length r2.c1 (ints (s.T.map (·.home))) rfl (HO1.out _ BC.out) ⟨w1.heap.size + 1, 0, none⟩ 1 1 (ints [(a : Int)]) rfl rfl (lit_int LC1.out) (ints_oneW [(a : Int)]) (by unfold maxLen; omega) (by omega) (Nat.le_trans HWB.out BC.out.size) (by decide) ?_
          intro g1 o1 d1 w4 k1 k2 k3
          have hO5 : Only (fun b => f1 b = 5) w1 w4 := (Only.of_below BC.out).trans (grown_lab k2 (MAt.l1 HH.out.M))
          have HK3 : Hid (r2.A1.map (·.block) = some g1 ∨ w1.heap.size ≤ g1) := k3.imp_right (fun e => by have := BC.out.size; omega)
          have HO5 := Lib.hid hO5
          have HK1 := Lib.hid k1
          have hl2 := grown_cell k2 LC2.out (fun e => by have := HLB.out _ e.symm; (try dsimp only at this); omega)
          clear k2 k3 k1 hO5
          refine hK.out _ _ (fun _ => HSK.out _ (HO5.out.more fun i hi => .inl hi)) ?_
          clear hK K
          try simp only [List.getElem_toArray]
          try simp only [List.getElem_cons_succ]
          try simp only [List.getElem_cons_zero]
          try simp only [Act.put]
          try simp only [List.setIfInBounds_toArray]
          try simp only [List.set_cons_succ]
          try simp only [List.set_cons_zero]
          refine wpAnyC_ready (rs := [14]) (by kernel_rfl) (by simp) ?_
          refine AllReadyC.cons rfl (fun K hK => ?_) AllReadyC.nil
          have hbb := Below.refl w4.heap.size w4
          refine step_append_q rfl (.tmp 120) (.tmp 121) 33 rfl W.heap.size 3 i0 (.int .i64 0) 1 8 Try.underlying33 hi0 hz0 hz1 hz2 rfl (by decide) r2.A2 s.T.length r2.c2 (ints (s.T.map (·.back))) rfl (HO2.out _ (HO5.out.below hbb)) ⟨w1.heap.size, 0, none⟩ 1 1 (ints [(0 : Int)]) rfl rfl (lit_int hl2) (ints_oneW [(0 : Int)]) (by unfold maxLen; omega) (by omega) (Nat.le_trans HWB.out (Nat.le_trans HO5.out.size hbb.size)) (by decide) ?_
          intro g2 o2 d2 w5 j1 j2 j3
          have hfin := MAt.fin12 HH.out.M HO5.out (by rw [List.length_map]; exact HK1.out) HK3.out hbb (by rw [List.length_map]; exact j1) j2 j3
          rw [List.length_map, List.length_map] at hfin
          have HP := Lib.hid hfin.1
          have HO6 := Lib.hid hfin.2
          have e5 := HSK.out w5 HO6.out
          have f5 := (HO6.out.box (RBox.box HH.out.M) (by show ¬ (f1 m = 5 ∨ f1 m = 6); have := HFM.out; omega)).frozen 1
          have f6 := (HO6.out.box (RBox.box HH.out.M) (by show ¬ (f1 m = 5 ∨ f1 m = 6); have := HFM.out; omega)).frozen 2
          obtain ⟨e51, e52⟩ := e5
          clear j1 j2 j3 hfin hbb
          refine hK.out _ _ (fun _ => HSK.out _ HO6.out) ?_
          clear hK K
          try simp only [List.getElem_toArray]
          try simp only [List.getElem_cons_succ]
          try simp only [List.getElem_cons_zero]
          try simp only [Act.put]
          try simp only [List.setIfInBounds_toArray]
          try simp only [List.set_cons_succ]
          try simp only [List.set_cons_zero]
          refine wpAnyC_ready (rs := [15]) (by kernel_rfl) (by simp) ?_
          refine AllReadyC.cons rfl (fun K hK => ?_) AllReadyC.nil
          go_simp
          refine hK.out _ _ (fun _ => HSK.out _ HO6.out) ?_
          clear hK K
          try simp only [List.getElem_toArray]
          try simp only [List.getElem_cons_succ]
          try simp only [List.getElem_cons_zero]
          try simp only [Act.put]
          try simp only [List.setIfInBounds_toArray]
          try simp only [List.set_cons_succ]
          try simp only [List.set_cons_zero]
          refine wpAnyC_ready (rs := [16]) (by kernel_rfl) (by simp) ?_
          refine AllReadyC.cons rfl (fun K hK => ?_) AllReadyC.nil
          go_simp
          refine hK.out _ _ (fun _ => HSK.out _ HO6.out) ?_
          clear hK K
          try simp only [List.getElem_toArray]
          try simp only [List.getElem_cons_succ]
          try simp only [List.getElem_cons_zero]
          try simp only [Act.put]
          try simp only [List.setIfInBounds_toArray]
          try simp only [List.set_cons_succ]
          try simp only [List.set_cons_zero]
          refine wpAnyC_ready (rs := [17]) (by kernel_rfl) (by simp) ?_
          refine AllReadyC.cons rfl (fun K hK => ?_) AllReadyC.nil
          go_simp
          refine hK.out _ _ (fun h => by cases h) ?_
          clear hK K
          try simp only [List.getElem_toArray]
          try simp only [List.getElem_cons_succ]
          try simp only [List.getElem_cons_zero]
          try simp only [Act.put]
          try simp only [List.setIfInBounds_toArray]
          try simp only [List.set_cons_succ]
          try simp only [List.set_cons_zero]
          refine wpAnyC_ready (rs := [18]) (by kernel_rfl) (by simp) ?_
          refine AllReadyC.cons rfl (fun K hK => ?_) AllReadyC.nil
          go_simp
          refine hK.out _ _ (fun h => by cases h) ?_
          clear hK K
          try simp only [List.getElem_toArray]
          try simp only [List.getElem_cons_succ]
          try simp only [List.getElem_cons_zero]
          try simp only [Act.put]
          try simp only [List.setIfInBounds_toArray]
          try simp only [List.set_cons_succ]
          try simp only [List.set_cons_zero]
          refine wpAnyC_ready (rs := [19]) (by kernel_rfl) (by simp) ?_
          refine AllReadyC.cons rfl (fun K hK => ?_) AllReadyC.nil
          go_simp
          refine hK.out _ _ (fun h => by cases h) ?_
          clear hK K
          try simp only [List.getElem_toArray]
          try simp only [List.getElem_cons_succ]
          try simp only [List.getElem_cons_zero]
          try simp only [Act.put]
          try simp only [List.setIfInBounds_toArray]
          try simp only [List.set_cons_succ]
          try simp only [List.set_cons_zero]
          refine wpAnyC_ready (rs := [20]) (by kernel_rfl) (by simp) ?_
          refine AllReadyC.cons rfl (fun K hK => ?_) AllReadyC.nil
          go_simp
          refine hK.out _ _ (fun h => by cases h) ?_
          clear hK K
          try simp only [List.getElem_toArray]
          try simp only [List.getElem_cons_succ]
          try simp only [List.getElem_cons_zero]
          try simp only [Act.put]
          try simp only [List.setIfInBounds_toArray]
          try simp only [List.set_cons_succ]
          try simp only [List.set_cons_zero]
          refine wpAnyC_done (by kernel_rfl) ?_ _
          clear e51 e52 f5 f6
          go_upto_region 23 with fail
          have hP := HP.out
          obtain ⟨w6, hw6⟩ : ∃ w6, w6 = (w5.setCell ⟨m, 1, none⟩ (.slice (some ⟨g1, o1, none⟩) (s.T.length + 1) d1)).setCell ⟨m, 2, none⟩ (.slice (some ⟨g2, o2, none⟩) (s.T.length + 1) d2) := ⟨_, rfl⟩
          rw [← hw6] at hP ⊢
          clear hw6 HP
          obtain ⟨f6, r6, h6, hO6, hf6⟩ := hP
          have hz8 : (w6.alloc (.cells #[.int .i64 0, .int .i64 0, .int .i64 0, .int .i64 0, .int .i64 0, .int .i64 0, .int .i64 0, .int .i64 0] 102)).cell? ⟨w6.heap.size, a, none⟩ = some (.int .i64 0) := by rw [(Box.new w6 102 #[.int .i64 0, .int .i64 0, .int .i64 0, .int .i64 0, .int .i64 0, .int .i64 0, .int .i64 0, .int .i64 0]).cell]; exact zero8 a ha8
          have hzf := (Box.new w6 102 #[.int .i64 0, .int .i64 0, .int .i64 0, .int .i64 0, .int .i64 0, .int .i64 0, .int .i64 0, .int .i64 0]).frozen a
          have hbx := Box.new w6 102 (h8C (newTh (a : Int))).toArray
          have hb7 : Below w6.heap.size w6 (w6.alloc (.cells (h8C (newTh (a : Int))).toArray 102)) := (Below.refl _ _).alloc (Nat.le_refl _) _
          obtain ⟨h7, hf7⟩ := MAt.label h6 hb7 (tb := w6.heap.size) (Nat.le_refl _) 0
          obtain ⟨f7, hf7e⟩ : ∃ f7, f7 = (fun z => if z = w6.heap.size then 0 else f6 z) := ⟨_, rfl⟩
          rw [← hf7e] at h7 hf7
          have hf7g : f7 w6.heap.size = 0 := by rw [hf7e]; exact if_pos rfl
          have HO7 := Lib.hid (hO6.below hb7)
          have HF7 : Hid (∀ b, b < w1.heap.size → f7 b = f1 b) := fun b hb => (hf7 b (Nat.lt_of_lt_of_le hb hO6.size)).trans (hf6 b hb)
          have HB7 := Lib.hid (Nat.le_trans HWB.out (Nat.le_trans hO6.size hb7.size))
          have HBX := Lib.hid hbx
          have H7 := Lib.hid h7
          have HF7G := Lib.hid hf7g
          clear h6 hO6 hf6 hbx hb7 h7 hf7 hf7e hf7g HO1 HO2 HSK HLB BD BA BB BE BC LA1 LB1 LB2 LC1 LC2 HO5 HK1 HK3 HFM
          go_upto_region 25 with fail
          rw [show ([.int .i64 0, .int .i64 0, .int .i64 0, .int .i64 0, .int .i64 0, .int .i64 0, .int .i64 0, .int .i64 0].set a (.int .i64 65536)).toArray = (h8C (newTh (a : Int))).toArray from (List.setIfInBounds_toArray _ _ _).symm.trans (h8_new a ha8)]
          obtain ⟨w7, hw7⟩ : ∃ w7, w7 = w6.alloc (.cells (h8C (newTh (a : Int))).toArray 102) := ⟨_, rfl⟩
          rw [← hw7] at HO7 HB7 HBX H7 ⊢
          clear hw7 hz8 hzf
          obtain ⟨gb, hgb⟩ : ∃ gb, gb = w6.heap.size := ⟨_, rfl⟩
          rw [← hgb] at HBX HF7G ⊢
          clear hgb
          have HS25 : Hid (∀ w', Only (fun b => f7 b = 7) w7 w' → ((fun w' => w'.cell? ⟨m, 3, none⟩ = some (.slice r6.A3 s.T.length r6.c3) ∧ w'.cell? ⟨gb, 0, none⟩ = some (.int .i64 ((newTh (a : Int)).has 0)) ∧ w'.cell? ⟨gb, 1, none⟩ = some (.int .i64 ((newTh (a : Int)).has 1)) ∧ w'.cell? ⟨gb, 2, none⟩ = some (.int .i64 ((newTh (a : Int)).has 2)) ∧ w'.cell? ⟨gb, 3, none⟩ = some (.int .i64 ((newTh (a : Int)).has 3)) ∧ w'.cell? ⟨gb, 4, none⟩ = some (.int .i64 ((newTh (a : Int)).has 4)) ∧ w'.cell? ⟨gb, 5, none⟩ = some (.int .i64 ((newTh (a : Int)).has 5)) ∧ w'.cell? ⟨gb, 6, none⟩ = some (.int .i64 ((newTh (a : Int)).has 6)) ∧ w'.cell? ⟨gb, 7, none⟩ = some (.int .i64 ((newTh (a : Int)).has 7)))) w') := fun w' h => by
            have hm3 := MAt.d3 H7.out
            have hfm : f7 m = 2 := RBox.fg H7.out
            have hgb := HF7G.out
            have hx := h.box HBX.out (by show ¬ f7 gb = 7; omega)
            exact ⟨h.cell hm3 (by show ¬ f7 m = 7; omega), hx.cell 0, hx.cell 1, hx.cell 2, hx.cell 3, hx.cell 4, hx.cell 5, hx.cell 6, hx.cell 7⟩
          have BL := Lib.hid (show Below w7.heap.size w7 (w7.alloc (.cells #[.int .i64 ((newTh (a : Int)).has 0), .int .i64 ((newTh (a : Int)).has 1), .int .i64 ((newTh (a : Int)).has 2), .int .i64 ((newTh (a : Int)).has 3), .int .i64 ((newTh (a : Int)).has 4), .int .i64 ((newTh (a : Int)).has 5), .int .i64 ((newTh (a : Int)).has 6), .int .i64 ((newTh (a : Int)).has 7)] 102)).drew from ((Below.refl w7.heap.size w7).alloc (Nat.le_refl _) (.cells #[.int .i64 ((newTh (a : Int)).has 0), .int .i64 ((newTh (a : Int)).has 1), .int .i64 ((newTh (a : Int)).has 2), .int .i64 ((newTh (a : Int)).has 3), .int .i64 ((newTh (a : Int)).has 4), .int .i64 ((newTh (a : Int)).has 5), .int .i64 ((newTh (a : Int)).has 6), .int .i64 ((newTh (a : Int)).has 7)] 102)).drew)
          have HN8W : Hid (∀ j u, (h8C (newTh (a : Int)))[j]? = some u → (w7.alloc (.cells #[.int .i64 ((newTh (a : Int)).has 0), .int .i64 ((newTh (a : Int)).has 1), .int .i64 ((newTh (a : Int)).has 2), .int .i64 ((newTh (a : Int)).has 3), .int .i64 ((newTh (a : Int)).has 4), .int .i64 ((newTh (a : Int)).has 5), .int .i64 ((newTh (a : Int)).has 6), .int .i64 ((newTh (a : Int)).has 7)] 102)).drew.cell? ((⟨w7.heap.size, 0, none⟩ : Addr).add j) = some u) := fun j u hu => by
            rw [addr_add, Nat.zero_add]
            refine ((Box.new w7 102 (h8C (newTh (a : Int))).toArray).cell j).trans ?_
            rw [← hu]
            simp
          obtain ⟨i8, y8, hi8, hy8, hy81, hy82, hy83⟩ := h8_parts
          have hHeld := HS25.out w7.drew ((Only.refl _ w7).drew)
          refine wp_region_C (S := (fun w' => w'.cell? ⟨m, 3, none⟩ = some (.slice r6.A3 s.T.length r6.c3) ∧ w'.cell? ⟨gb, 0, none⟩ = some (.int .i64 ((newTh (a : Int)).has 0)) ∧ w'.cell? ⟨gb, 1, none⟩ = some (.int .i64 ((newTh (a : Int)).has 1)) ∧ w'.cell? ⟨gb, 2, none⟩ = some (.int .i64 ((newTh (a : Int)).has 2)) ∧ w'.cell? ⟨gb, 3, none⟩ = some (.int .i64 ((newTh (a : Int)).has 3)) ∧ w'.cell? ⟨gb, 4, none⟩ = some (.int .i64 ((newTh (a : Int)).has 4)) ∧ w'.cell? ⟨gb, 5, none⟩ = some (.int .i64 ((newTh (a : Int)).has 5)) ∧ w'.cell? ⟨gb, 6, none⟩ = some (.int .i64 ((newTh (a : Int)).has 6)) ∧ w'.cell? ⟨gb, 7, none⟩ = some (.int .i64 ((newTh (a : Int)).has 7)))) (k := 10) (by kernel_rfl) ?_
          refine wpAnyC_takeU (i := 0) (v := ?_) rfl (by kernel_rfl) (by kernel_rfl) (by kernel_rfl) (by kernel_rfl) (fun _ _ _ h => h) (Or.inl ⟨by rfl, ?_⟩) (fun _ => by assumption) ?_
          rotate_left
          · (intro w _; go_simp; (try with_reducible rfl))
          try simp only [List.getElem_toArray]
          try simp only [List.getElem_cons_succ]
          try simp only [List.getElem_cons_zero]
          try simp only [Act.put]
          try simp only [List.setIfInBounds_toArray]
          try simp only [List.set_cons_succ]
          try simp only [List.set_cons_zero]
          refine wpAnyC_takeU (i := 1) (v := ?_) rfl (by kernel_rfl) (by kernel_rfl) (by kernel_rfl) (by kernel_rfl) (fun _ _ _ h => h) (Or.inl ⟨by rfl, ?_⟩) (fun _ => by assumption) ?_
          rotate_left
          · (intro w _; go_simp; (try with_reducible rfl))
          try simp only [List.getElem_toArray]
          try simp only [List.getElem_cons_succ]
          try simp only [List.getElem_cons_zero]
          try simp only [Act.put]
          try simp only [List.setIfInBounds_toArray]
          try simp only [List.set_cons_succ]
          try simp only [List.set_cons_zero]
          refine wpAnyC_takeU (i := 2) (v := ?_) rfl (by kernel_rfl) (by kernel_rfl) (by kernel_rfl) (by kernel_rfl) (fun _ _ _ h => h) (Or.inl ⟨by rfl, ?_⟩) (fun _ => by assumption) ?_
          rotate_left
          · (intro w _; go_simp; (try with_reducible rfl))
          try simp only [List.getElem_toArray]
          try simp only [List.getElem_cons_succ]
          try simp only [List.getElem_cons_zero]
          try simp only [Act.put]
          try simp only [List.setIfInBounds_toArray]
          try simp only [List.set_cons_succ]
          try simp only [List.set_cons_zero]
          refine wpAnyC_takeU (i := 3) (v := ?_) rfl (by kernel_rfl) (by kernel_rfl) (by kernel_rfl) (by kernel_rfl) (fun _ _ _ h => h) (Or.inl ⟨by rfl, ?_⟩) (fun _ => by assumption) ?_
          rotate_left
          · (intro w _; go_simp; (try with_reducible rfl))
          try simp only [List.getElem_toArray]
          try simp only [List.getElem_cons_succ]
          try simp only [List.getElem_cons_zero]
          try simp only [Act.put]
          try simp only [List.setIfInBounds_toArray]
          try simp only [List.set_cons_succ]
          try simp only [List.set_cons_zero]
          refine wpAnyC_take (i := 4) (v := ?_) rfl (by kernel_rfl) (by kernel_rfl) (by kernel_rfl) (by kernel_rfl) (by kernel_rfl) (fun _ _ _ h => h) (Or.inl ⟨by rfl, ?_⟩) (by assumption) ?_
          rotate_left
          · (intro w hSw; (try dsimp only at hSw); go_simp; (try with_reducible rfl))
          try simp only [List.getElem_toArray]
          try simp only [List.getElem_cons_succ]
          try simp only [List.getElem_cons_zero]
          try simp only [Act.put]
          try simp only [List.setIfInBounds_toArray]
          try simp only [List.set_cons_succ]
          try simp only [List.set_cons_zero]
          refine wpAnyC_take (i := 5) (v := ?_) rfl (by kernel_rfl) (by kernel_rfl) (by kernel_rfl) (by kernel_rfl) (by kernel_rfl) (fun _ _ _ h => h) (Or.inl ⟨by rfl, ?_⟩) (by assumption) ?_
          rotate_left
          · (intro w hSw; (try dsimp only at hSw); go_simp; (try with_reducible rfl))
          try simp only [List.getElem_toArray]
          try simp only [List.getElem_cons_succ]
          try simp only [List.getElem_cons_zero]
          try simp only [Act.put]
          try simp only [List.setIfInBounds_toArray]
          try simp only [List.set_cons_succ]
          try simp only [List.set_cons_zero]
          refine wpAnyC_ready (rs := [6]) (by kernel_rfl) (by simp) ?_
          refine AllReadyC.cons rfl (fun K hK => ?_) AllReadyC.nil
          go_simp
          refine hK.out _ _ (fun _ => HS25.out _ (Only.of_below BL.out)) ?_
          clear hK K
          try simp only [List.getElem_toArray]
          try simp only [List.getElem_cons_succ]
          try simp only [List.getElem_cons_zero]
          try simp only [Act.put]
          try simp only [List.setIfInBounds_toArray]
          try simp only [List.set_cons_succ]
          try simp only [List.set_cons_zero]
          refine wpAnyC_ready (rs := [7]) (by kernel_rfl) (by simp) ?_
          refine AllReadyC.cons rfl (fun K hK => ?_) AllReadyC.nil
          refine step_append_q rfl (.tmp 133) (.tmp 135) 98 rfl W.heap.size 102 i8 y8 8 64 Try.underlying98 hi8 hy8 hy81 hy82 hy83 (by decide) r6.A3 s.T.length r6.c3 (flat h8C s.T) rfl (MAt.o3 (MAt.below H7.out BL.out)) ⟨w7.heap.size, 0, none⟩ 1 1 (h8C (newTh (a : Int))) rfl rfl HN8W.out (h8_one _) (by unfold maxLen; omega) (by omega) (Nat.le_trans HB7.out BL.out.size) (by decide) ?_
          intro g3 o3 d3 w9 j1 j2 j3
          have hX9 := MAt.push3 (MAt.below H7.out BL.out) j1 j2 j3
          have HX9 := Lib.hid (hX9.chain (Only.of_below BL.out) (fun _ _ => rfl))
          have HO9 : Hid (Only (fun b => f7 b = 7) w7 w9) := (Only.of_below BL.out).trans (grown_lab j2 (MAt.l3 H7.out))
          obtain ⟨e93, _⟩ := HS25.out w9 HO9.out
          have f93 := (HO9.out.box (RBox.box H7.out) (by show ¬ f7 m = 7; have h2 : f7 m = 2 := RBox.fg H7.out; omega)).frozen 3
          clear j1 j2 j3 hX9
          refine hK.out _ _ (fun _ => HS25.out _ HO9.out) ?_
          clear hK K
          try simp only [List.getElem_toArray]
          try simp only [List.getElem_cons_succ]
          try simp only [List.getElem_cons_zero]
          try simp only [Act.put]
          try simp only [List.setIfInBounds_toArray]
          try simp only [List.set_cons_succ]
          try simp only [List.set_cons_zero]
          refine wpAnyC_ready (rs := [8]) (by kernel_rfl) (by simp) ?_
          refine AllReadyC.cons rfl (fun K hK => ?_) AllReadyC.nil
          go_simp
          refine hK.out _ _ (fun _ => HS25.out _ HO9.out) ?_
          clear hK K
          try simp only [List.getElem_toArray]
          try simp only [List.getElem_cons_succ]
          try simp only [List.getElem_cons_zero]
          try simp only [Act.put]
          try simp only [List.setIfInBounds_toArray]
          try simp only [List.set_cons_succ]
          try simp only [List.set_cons_zero]
          refine wpAnyC_ready (rs := [9]) (by kernel_rfl) (by simp) ?_
          refine AllReadyC.cons rfl (fun K hK => ?_) AllReadyC.nil
          go_simp
          refine hK.out _ _ (fun _ => HS25.out _ HO9.out) ?_
          clear hK K
          try simp only [List.getElem_toArray]
          try simp only [List.getElem_cons_succ]
          try simp only [List.getElem_cons_zero]
          try simp only [Act.put]
          try simp only [List.setIfInBounds_toArray]
          try simp only [List.set_cons_succ]
          try simp only [List.set_cons_zero]
          refine wpAnyC_ready (rs := [10]) (by kernel_rfl) (by simp) ?_
          refine AllReadyC.cons rfl (fun K hK => ?_) AllReadyC.nil
          go_simp
          refine hK.out _ _ (fun h => by cases h) ?_
          clear hK K
          try simp only [List.getElem_toArray]
          try simp only [List.getElem_cons_succ]
          try simp only [List.getElem_cons_zero]
          try simp only [Act.put]
          try simp only [List.setIfInBounds_toArray]
          try simp only [List.set_cons_succ]
          try simp only [List.set_cons_zero]
          refine wpAnyC_done (by kernel_rfl) ?_ _
          go_upto_region 26 with fail
          have hX9 := HX9.out.chain HO7.out HF7.out
          obtain ⟨w10, hw10⟩ : ∃ w10, w10 = w9.setCell ⟨m, 3, none⟩ (.slice (some ⟨g3, o3, none⟩) (s.T.length + 1) d3) := ⟨_, rfl⟩
          rw [← hw10] at hX9 ⊢
          clear hw10 HX9 HO9 e93 f93 BL HN8W HS25 HBX H7 HF7G HB7 HF7 HO7
          have hm2 : MSPost w1 w10 W.heap.size f1 m N (s.new a) := by
            show MPost w1 w10 W.heap.size f1 m N ((s.T ++ [newTh a]).map (·.home)) ((s.T ++ [newTh a]).map (·.back)) (s.T ++ [newTh a]) s.Y
            rw [List.map_append, List.map_append]
            exact hX9
          obtain ⟨f9, r9, r29, hbn⟩ := HH.out.step HOK.out hm2
          have q10 := MAt.d1 hbn.M
          rw [List.length_map, show (s.new a).T.length = s.T.length + 1 by simp [WS.new]] at q10
          obtain ⟨s9, hs9⟩ : ∃ s9, s9 = s.new a := ⟨_, rfl⟩
          rw [← hs9] at hbn
          have HBN := Lib.hid hbn
          clear hm2 hbn HH HOK hs9 hX9
          have hok9 := HBN.out.ok
          have HWT := Lib.hid (weightTells_any W.heap.size f9 x m N (k + 1) s9 r9 r29 _ HBN.out.X HBN.out.M hN8 hok9.t20 hok9.y60)
          clear hok9
          go_wp2_with fail
          refine HWT.out.mono ?_
          rintro e w9 ⟨rfl, hb9⟩
          have HB9 := Lib.hid (HBN.out.below hb9)
          clear hb9 HWT
          go_wp2_with fail
          go_roundg (xss.length - (k + 1))
          case measure => have := HK.out; omega
          case rel => exact ⟨k + 1, s9, f9, r9, r29, rfl, by omega, by go_num, HB9.out⟩
        exact AllReadyC.nil
      have b1 : (z == 1) = false := by simp [z1]
      by_cases z2 : z = 2
      case pos =>
        have b2 : (z == 2) = true := by simp [z2]
        clear z1 z2
        by_cases he : sendE N s y1 y2 y3 = 0
        · have HX := Lib.hid (send_ok W.heap.size f x N k s r y1 y2 y3 wr HBO.out.X HI1.out hkm HBO.out.ok.y60 HBO.out.hb.size he)
          have HM := Lib.hid (fun w1 f1 r1 (hh : WHalf W w1 f1 x m N (k + 1) s (s.sent y1 y2 y3) r1 r2) => msend_ok W.heap.size f1 m N s r2 y1 y2 y3 w1 hh.M (by omega) HBO.out.ok.y60 hh.hb.size he)
          have HOK := Lib.hid (wok_sent HBO.out.ok he)
          go_wp2_with fail
          refine HX.out.mono ?_
          rintro e w1 ⟨rfl, hx1⟩
          obtain ⟨f1, r1, hh⟩ := HBO.out.step hx1
          have HH := Lib.hid hh
          clear hx1 hh HX
          go_wp2_with fail
          refine (HM.out w1 f1 r1 HH.out).mono ?_
          rintro e w2 ⟨rfl, hm2⟩
          obtain ⟨f9, r9, r29, hbn⟩ := HH.out.step HOK.out hm2
          obtain ⟨s9, hs9⟩ : ∃ s9, s9 = s.sent y1 y2 y3 := ⟨_, rfl⟩
          rw [← hs9] at hbn
          have HBN := Lib.hid hbn
          clear hm2 hbn HM HH HOK he hs9

          have hok9 := HBN.out.ok
          have HWT := Lib.hid (weightTells_any W.heap.size f9 x m N (k + 1) s9 r9 r29 _ HBN.out.X HBN.out.M hN8 hok9.t20 hok9.y60)
          clear hok9
          go_wp2_with fail
          refine HWT.out.mono ?_
          rintro e w9 ⟨rfl, hb9⟩
          have HB9 := Lib.hid (HBN.out.below hb9)
          clear hb9 HWT
          go_wp2_with fail
          go_roundg (xss.length - (k + 1))
          case measure => have := HK.out; omega
          case rel => exact ⟨k + 1, s9, f9, r9, r29, rfl, by omega, by go_num, HB9.out⟩
        · have HX := Lib.hid (send_bad W.heap.size f x N k s r y1 y2 y3 wr HBO.out.X HI1.out he)
          have HM := Lib.hid (msend_bad W.heap.size f m N s r2 y1 y2 y3 wr HBO.out.M (by omega) he)
          generalize sendE N s y1 y2 y3 = E at *
          go_wp2_with fail
          refine HX.out.mono ?_
          rintro e w1 ⟨rfl, rfl⟩
          go_wp2_with fail
          refine HM.out.mono ?_
          rintro e w1 ⟨rfl, rfl⟩
          clear HX HM he

          obtain ⟨s9, f9, r9, r29, HBN⟩ : ∃ s9 f9 r9 r29, Hid (WBoth W wr f9 x m N (k + 1) s9 r9 r29) := ⟨s, f, r, r2, HBO.out.mono (Nat.le_succ k)⟩

          have hok9 := HBN.out.ok
          have HWT := Lib.hid (weightTells_any W.heap.size f9 x m N (k + 1) s9 r9 r29 _ HBN.out.X HBN.out.M hN8 hok9.t20 hok9.y60)
          clear hok9
          go_wp2_with fail
          refine HWT.out.mono ?_
          rintro e w9 ⟨rfl, hb9⟩
          have HB9 := Lib.hid (HBN.out.below hb9)
          clear hb9 HWT
          go_wp2_with fail
          go_roundg (xss.length - (k + 1))
          case measure => have := HK.out; omega
          case rel => exact ⟨k + 1, s9, f9, r9, r29, rfl, by omega, by go_num, HB9.out⟩
      have b2 : (z == 2) = false := by simp [z2]
      by_cases z3 : z = 3
      case pos =>
        have b3 : (z == 3) = true := by simp [z3]
        clear z1 z2 z3
        by_cases he : dropE N s y1 y2 = 0
        · have HX := Lib.hid (drop_ok W.heap.size f x N k s r y1 y2 wr HBO.out.X HI1.out HBO.out.ok.y60 HBO.out.hb.size he)
          have HM := Lib.hid (fun w1 f1 r1 (hh : WHalf W w1 f1 x m N (k + 1) s (s.dropped y1 y2) r1 r2) => mdrop_ok W.heap.size f1 m N s r2 y1 y2 w1 hh.M (by omega) HBO.out.ok.y60 hh.hb.size he)
          have HOK := Lib.hid (wok_dropped HBO.out.ok he)
          go_wp2_with fail
          refine HX.out.mono ?_
          rintro e w1 ⟨rfl, hx1⟩
          obtain ⟨f1, r1, hh⟩ := HBO.out.step hx1
          have HH := Lib.hid hh
          clear hx1 hh HX
          go_wp2_with fail
          refine (HM.out w1 f1 r1 HH.out).mono ?_
          rintro e w2 ⟨rfl, hm2⟩
          obtain ⟨f9, r9, r29, hbn⟩ := HH.out.step HOK.out hm2
          obtain ⟨s9, hs9⟩ : ∃ s9, s9 = s.dropped y1 y2 := ⟨_, rfl⟩
          rw [← hs9] at hbn
          have HBN := Lib.hid hbn
          clear hm2 hbn HM HH HOK he hs9

          have hok9 := HBN.out.ok
          have HWT := Lib.hid (weightTells_any W.heap.size f9 x m N (k + 1) s9 r9 r29 _ HBN.out.X HBN.out.M hN8 hok9.t20 hok9.y60)
          clear hok9
          go_wp2_with fail
          refine HWT.out.mono ?_
          rintro e w9 ⟨rfl, hb9⟩
          have HB9 := Lib.hid (HBN.out.below hb9)
          clear hb9 HWT
          go_wp2_with fail
          go_roundg (xss.length - (k + 1))
          case measure => have := HK.out; omega
          case rel => exact ⟨k + 1, s9, f9, r9, r29, rfl, by omega, by go_num, HB9.out⟩
        · have HX := Lib.hid (drop_bad W.heap.size f x N k s r y1 y2 wr HBO.out.X HI1.out he)
          have HM := Lib.hid (mdrop_bad W.heap.size f m N s r2 y1 y2 wr HBO.out.M (by omega) he)
          generalize dropE N s y1 y2 = E at *
          go_wp2_with fail
          refine HX.out.mono ?_
          rintro e w1 ⟨rfl, rfl⟩
          go_wp2_with fail
          refine HM.out.mono ?_
          rintro e w1 ⟨rfl, rfl⟩
          clear HX HM he

          obtain ⟨s9, f9, r9, r29, HBN⟩ : ∃ s9 f9 r9 r29, Hid (WBoth W wr f9 x m N (k + 1) s9 r9 r29) := ⟨s, f, r, r2, HBO.out.mono (Nat.le_succ k)⟩

          have hok9 := HBN.out.ok
          have HWT := Lib.hid (weightTells_any W.heap.size f9 x m N (k + 1) s9 r9 r29 _ HBN.out.X HBN.out.M hN8 hok9.t20 hok9.y60)
          clear hok9
          go_wp2_with fail
          refine HWT.out.mono ?_
          rintro e w9 ⟨rfl, hb9⟩
          have HB9 := Lib.hid (HBN.out.below hb9)
          clear hb9 HWT
          go_wp2_with fail
          go_roundg (xss.length - (k + 1))
          case measure => have := HK.out; omega
          case rel => exact ⟨k + 1, s9, f9, r9, r29, rfl, by omega, by go_num, HB9.out⟩
      have b3 : (z == 3) = false := by simp [z3]
      by_cases z4 : z = 4
      case pos =>
        have b4 : (z == 4) = true := by simp [z4]
        clear z1 z2 z3 z4
        by_cases he : comeE s y1 = 0
        · obtain ⟨i, rfl, hi⟩ : ∃ i : Nat, y1 = i ∧ i < s.Y.length := by
            unfold comeE at he
            by_cases h1 : y1 < 0 ∨ (s.Y.length : Int) ≤ y1
            · rw [if_pos h1] at he; cases he
            · exact ⟨y1.toNat, by omega, by omega⟩
          have HX := Lib.hid (come_ok W.heap.size f x N k s r i wr HBO.out.X HBO.out.ok hkm hi)
          have HM := Lib.hid (fun w1 f1 r1 (hh : WHalf W w1 f1 x m N (k + 1) s (s.came i) r1 r2) => mcome_ok W.heap.size f1 m N s r2 i w1 hh.M HBO.out.ok hh.hb.size hi)
          have HOK := Lib.hid (wok_came HBO.out.ok hi)
          go_wp2_with fail
          refine HX.out.mono ?_
          rintro e w1 ⟨rfl, hx1⟩
          obtain ⟨f1, r1, hh⟩ := HBO.out.step hx1
          have HH := Lib.hid hh
          clear hx1 hh HX
          go_wp2_with fail
          refine (HM.out w1 f1 r1 HH.out).mono ?_
          rintro e w2 ⟨rfl, hm2⟩
          obtain ⟨f9, r9, r29, hbn⟩ := HH.out.step HOK.out hm2
          obtain ⟨s9, hs9⟩ : ∃ s9, s9 = s.came i := ⟨_, rfl⟩
          rw [← hs9] at hbn
          have HBN := Lib.hid hbn
          clear hm2 hbn HM HH HOK he hs9

          have hok9 := HBN.out.ok
          have HWT := Lib.hid (weightTells_any W.heap.size f9 x m N (k + 1) s9 r9 r29 _ HBN.out.X HBN.out.M hN8 hok9.t20 hok9.y60)
          clear hok9
          go_wp2_with fail
          refine HWT.out.mono ?_
          rintro e w9 ⟨rfl, hb9⟩
          have HB9 := Lib.hid (HBN.out.below hb9)
          clear hb9 HWT
          go_wp2_with fail
          go_roundg (xss.length - (k + 1))
          case measure => have := HK.out; omega
          case rel => exact ⟨k + 1, s9, f9, r9, r29, rfl, by omega, by go_num, HB9.out⟩
        · have HX := Lib.hid (come_bad W.heap.size f x N k s r y1 wr HBO.out.X he)
          have HM := Lib.hid (mcome_bad W.heap.size f m N s r2 y1 wr HBO.out.M he)
          generalize comeE s y1 = E at *
          go_wp2_with fail
          refine HX.out.mono ?_
          rintro e w1 ⟨rfl, rfl⟩
          go_wp2_with fail
          refine HM.out.mono ?_
          rintro e w1 ⟨rfl, rfl⟩
          clear HX HM he

          obtain ⟨s9, f9, r9, r29, HBN⟩ : ∃ s9 f9 r9 r29, Hid (WBoth W wr f9 x m N (k + 1) s9 r9 r29) := ⟨s, f, r, r2, HBO.out.mono (Nat.le_succ k)⟩

          have hok9 := HBN.out.ok
          have HWT := Lib.hid (weightTells_any W.heap.size f9 x m N (k + 1) s9 r9 r29 _ HBN.out.X HBN.out.M hN8 hok9.t20 hok9.y60)
          clear hok9
          go_wp2_with fail
          refine HWT.out.mono ?_
          rintro e w9 ⟨rfl, hb9⟩
          have HB9 := Lib.hid (HBN.out.below hb9)
          clear hb9 HWT
          go_wp2_with fail
          go_roundg (xss.length - (k + 1))
          case measure => have := HK.out; omega
          case rel => exact ⟨k + 1, s9, f9, r9, r29, rfl, by omega, by go_num, HB9.out⟩
      have b4 : (z == 4) = false := by simp [z4]
      clear z1 z2 z3 z4
      obtain ⟨s9, f9, r9, r29, HBN⟩ : ∃ s9 f9 r9 r29, Hid (WBoth W wr f9 x m N (k + 1) s9 r9 r29) := ⟨s, f, r, r2, HBO.out.mono (Nat.le_succ k)⟩

      have hok9 := HBN.out.ok
      have HWT := Lib.hid (weightTells_any W.heap.size f9 x m N (k + 1) s9 r9 r29 _ HBN.out.X HBN.out.M hN8 hok9.t20 hok9.y60)
      clear hok9
      go_wp2_with fail
      refine HWT.out.mono ?_
      rintro e w9 ⟨rfl, hb9⟩
      have HB9 := Lib.hid (HBN.out.below hb9)
      clear hb9 HWT
      go_wp2_with fail
      go_roundg (xss.length - (k + 1))
      case measure => have := HK.out; omega
      case rel => exact ⟨k + 1, s9, f9, r9, r29, rfl, by omega, by go_num, HB9.out⟩
    · clear HK
      go_wp2_with fail
      go_ret
      exact ⟨rfl, hbo.hb⟩
end Go.Proofs.Ytcmkkfpcdebfkaa
