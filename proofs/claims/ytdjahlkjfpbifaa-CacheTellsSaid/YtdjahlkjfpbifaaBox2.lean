
/-
  Letters compared; what a letter says; a value of one's own.
-/
import Derived.Test.YtdjahlkjfpbifaaBox1
namespace Go.Proofs.Ytdjahlkjfpbifaa
open Go.RowKit

theorem Let.eq_iff (a b : Let) : a = b ↔ a.kind = b.kind ∧ a.frm = b.frm ∧ a.to = b.to ∧ a.num = b.num ∧ a.text = b.text ∧ a.v = b.v := by
  cases a; cases b; simp

set_option maxRecDepth 100000 in
set_option maxHeartbeats 1000000 in
theorem same_letter (n : Nat) (x y : LC) (a b : Let) (w : World) (S S' : Nat → Prop) (hx : LIn w S n x a) (hy : LIn w S' n y b) :
    Calls Try.prog 24 #[letterV x, letterV y] w fun e w' => SameQ a b w e w' := by
  have hx := hx.lt
  have hy := hy.lt
  obtain ⟨kd1, fr1, to1, nm1, tx1, v1⟩ := x
  obtain ⟨kd2, fr2, to2, nm2, tx2, v2⟩ := y
  have HV1 := Lib.hid hx.2
  have HV2 := Lib.hid hy.2
  obtain ⟨e1, e2, e3, e4, e5, _⟩ := hx.1
  obtain ⟨d1, d2, d3, d4, d5, _⟩ := hy.1
  simp only at e1 e2 e3 e4 e5 d1 d2 d3 d4 d5
  have HE := Lib.hid (show a = b ↔ kd1 = kd2 ∧ fr1 = fr2 ∧ to1 = to2 ∧ nm1 = nm2 ∧ tx1 = tx2 ∧ a.v = b.v by rw [Let.eq_iff, ← e1, ← e2, ← e3, ← e4, ← e5, ← d1, ← d2, ← d3, ← d4, ← d5])
  clear hx hy e1 e2 e3 e4 e5 d1 d2 d3 d4 d5
  unfold letterV
  simp only
  have HB := Lib.hid (show ∀ o1 o2, Below w.heap.size w ((w.alloc o1).alloc o2) from fun _ _ => ((Below.refl _ _).alloc (Nat.le_refl _) _).alloc (by simp) _)
  by_cases h1 : kd1 = kd2
  case neg =>
    have b1 : (kd1 == kd2) = false := by simp [h1]
    have HN := Lib.hid (show false = true ↔ a = b by rw [HE.out]; simp [h1])
    clear h1
    go_enter Try.func24, Try.ntmps24
    go_wp2_with fail
    go_ret
    exact ⟨false, rfl, HN.out, HB.out _ _⟩
  have b1 : (kd1 == kd2) = true := by simp [h1]
  have H1 := Lib.hid h1
  clear h1
  by_cases h1 : fr1 = fr2
  case neg =>
    have b2 : (fr1 == fr2) = false := by simp [h1]
    have HN := Lib.hid (show false = true ↔ a = b by rw [HE.out]; simp [h1])
    clear h1
    go_enter Try.func24, Try.ntmps24
    go_wp2_with fail
    go_ret
    exact ⟨false, rfl, HN.out, HB.out _ _⟩
  have b2 : (fr1 == fr2) = true := by simp [h1]
  have H2 := Lib.hid h1
  clear h1
  by_cases h1 : to1 = to2
  case neg =>
    have b3 : (to1 == to2) = false := by simp [h1]
    have HN := Lib.hid (show false = true ↔ a = b by rw [HE.out]; simp [h1])
    clear h1
    go_enter Try.func24, Try.ntmps24
    go_wp2_with fail
    go_ret
    exact ⟨false, rfl, HN.out, HB.out _ _⟩
  have b3 : (to1 == to2) = true := by simp [h1]
  have H3 := Lib.hid h1
  clear h1
  by_cases h1 : nm1 = nm2
  case neg =>
    have b4 : (nm1 == nm2) = false := by simp [h1]
    have HN := Lib.hid (show false = true ↔ a = b by rw [HE.out]; simp [h1])
    clear h1
    go_enter Try.func24, Try.ntmps24
    go_wp2_with fail
    go_ret
    exact ⟨false, rfl, HN.out, HB.out _ _⟩
  have b4 : (nm1 == nm2) = true := by simp [h1]
  have H4 := Lib.hid h1
  clear h1
  by_cases h1 : tx1 = tx2
  case neg =>
    have b5 : (tx1.toList == tx2.toList) = false := by simp [bytes_inj, h1]
    have HN := Lib.hid (show false = true ↔ a = b by rw [HE.out]; simp [h1])
    clear h1
    go_enter Try.func24, Try.ntmps24
    go_wp2_with fail
    go_ret
    exact ⟨false, rfl, HN.out, HB.out _ _⟩
  have b5 : (tx1.toList == tx2.toList) = true := by simp [h1]
  have H5 := Lib.hid h1
  clear h1
  go_enter Try.func24, Try.ntmps24
  go_wp2_with fail
  refine (same_val n v1 v2 a.v b.v _ _ _ (HV1.out.below (HB.out _ _) fun _ h => h.2) (HV2.out.below (HB.out _ _) fun _ h => h.2)).mono ?_
  rintro e w1 ⟨q, rfl, hq, hb⟩
  have HQ := Lib.hid hq
  have HW := Lib.hid ((HB.out _ _).trans (hb.mono (HB.out _ _).size))
  clear hq hb
  go_wp2_with fail
  go_ret
  refine ⟨q, rfl, ?_, HW.out⟩
  rw [HQ.out, HE.out]
  simp [H1.out, H2.out, H3.out, H4.out, H5.out]

theorem same_step_let (xs ys : List Let) (k : Nat) (h : sameTo let0 xs ys k) : (xs.getD k let0 = ys.getD k let0 → sameTo let0 xs ys (k + 1)) ∧ (xs.getD k let0 ≠ ys.getD k let0 → xs ≠ ys) :=
  ⟨fun e => sameTo_succ h e, fun h e => h (by rw [e])⟩
theorem LIn.drew {w : World} {S : Nat → Prop} {n : Nat} {x : LC} {v : Let} (h : LIn w S n x v) : LIn w.drew S n x v := ⟨h.1, h.2.drew⟩

set_option maxRecDepth 100000 in
set_option maxHeartbeats 1000000 in
theorem same_letters (n : Nat) (A1 A2 : Option Addr) (c1 c2 n1 n2 : Nat) (l1 l2 : List LC) (a b : List Let) (w : World) (S S' : Nat → Prop) (hn1 : l1.length = n1) (hn2 : l2.length = n2) (hx : letterRow w S n A1 c1 l1 a) (hy : letterRow w S' n A2 c2 l2 b) :
    Calls Try.prog 82 #[.slice A1 n1 c1, .slice A2 n2 c2] w fun e w' => SameQ a b w e w' := by
  subst hn1 hn2
  have hx := hx.lt
  have hy := hy.lt
  have HR1 := Lib.hid hx
  have HR2 := Lib.hid hy
  have hcm1 := hx.2.2.2.2.1
  have hlc1 := hx.2.2.2.1
  have HL1 := Lib.hid hx.1
  have HL2 := Lib.hid hy.1
  unfold maxLen at hcm1
  clear hx hy
  by_cases hl : l1.length = l2.length
  · have HL := Lib.hid hl
    have bl1 : ((l1.length : Int) != (l2.length : Int)) = false := by simp; omega
    have bl2 : (l1.length != l2.length) = false := by simp; omega
    have hle1 : l1.length ≤ l2.length := by omega
    have hle2 : l2.length ≤ l1.length := by omega
    clear hl
    go_enter Try.func82, Try.ntmps82
    go_wp2_with fail
    go_loopg [13] l1.length (fun gk i wr => ∃ k : Nat, gk = l1.length - k ∧ k ≤ l1.length ∧ i = .int .i64 k ∧ sameTo let0 a b k ∧ Below w.heap.size w wr)
    case atStart => exact ⟨0, by omega, by omega, rfl, fun i hi => by omega, Below.refl _ _⟩
    case round =>
      obtain ⟨k, hgk, hk, rfl, hsame, hb⟩ := hrel
      have HG := Lib.hid hgk
      have HS := Lib.hid hsame
      clear hgk hsame
      by_cases hlt : k < l1.length
      · have hrw1 := HR1.out.below hb (fun b h => h.2)
        have hrw2 := HR2.out.below hb (fun b h => h.2)
        have HV1 := Lib.hid (hrw1.2.2.1 k hlt)
        have HV2 := Lib.hid (hrw2.2.2.1 k (by omega))
        have HST := Lib.hid (same_step_let a b k HS.out)
        obtain ⟨p1, o1, rfl, _, hc0, hc1, hc2, hc3, hc4, hc5, hc6, hc7, hc8⟩ := hrw1.2.1.all.letter hlt lc0
        obtain ⟨p2, o2, rfl, _, hd0, hd1, hd2, hd3, hd4, hd5, hd6, hd7, hd8⟩ := hrw2.2.1.all.letter (show k < l2.length by omega) lc0
        clear hrw1 hrw2
        generalize l1.getD k lc0 = x at *
        generalize l2.getD k lc0 = y at *
        generalize a.getD k let0 = u at *
        generalize b.getD k let0 = v at *
        have hlt2 : (k : Int) < (l2.length : Int) := by omega
        have hlt3 : k < l2.length := by omega
        have HT := Lib.hid (same_letter n x y u v wr.drew _ _ HV1.out.drew HV2.out.drew)
        unfold SameQ letterV at HT
        clear HV1 HV2
        go_wp2_with fail
        go_region_law ((go_simp; go_at_call 24; refine HT.out.mono ?_; rintro e w2 ⟨q, rfl, hq, hb2⟩))
        all_goals (
          have hb2' : Below wr.heap.size wr w2 := (below_drewN (Below.refl _ _) 1).trans hb2
          have HW2 := Lib.hid (hb.trans (hb2'.mono hb.size))
          simp only [List.getElem_toArray, List.getElem_cons_succ, List.getElem_cons_zero]
          go_frame
          have HQ := Lib.hid hq
          clear HT hb2 hb2' hq
          cases q
          · go_wp2_with fail
            go_ret
            exact ⟨false, rfl, ⟨fun e => by simp at e, fun e => absurd e (HST.out.2 fun e => by simpa using HQ.out.2 e)⟩, HW2.out⟩
          · go_wp2_with fail
            go_roundg (l1.length - (k + 1))
            case measure => have := HG.out; omega
            case rel => exact ⟨k + 1, rfl, by omega, by go_num, HST.out.1 (HQ.out.1 (by simp)), HW2.out⟩)
      · obtain rfl : k = l1.length := by omega
        go_wp2_with fail
        go_ret
        exact ⟨true, rfl, by simpa using eq_of_sameTo (by rw [← HL1.out, ← HL2.out, HL.out]) (by rw [← HL1.out]; exact HS.out), hb⟩
  · have bl1 : ((l1.length : Int) != (l2.length : Int)) = true := by simp; omega
    have bl2 : (l1.length != l2.length) = true := by simp; omega
    have HN := Lib.hid (show a ≠ b from fun h => hl (by rw [HL1.out, HL2.out, h]))
    clear hl
    go_enter Try.func82, Try.ntmps82
    go_wp2_with fail
    go_ret
    exact ⟨false, rfl, by simpa using HN.out, Below.refl _ _⟩

theorem same_box (n : Nat) (A1 A2 : Option Addr) (c1 c2 n1 n2 : Nat) (p1 p2 : Int) (l1 l2 : List LC) (a b : List Let) (w : World) (S S' : Nat → Prop) (hn1 : l1.length = n1) (hn2 : l2.length = n2) (hx : letterRow w S n A1 c1 l1 a) (hy : letterRow w S' n A2 c2 l2 b) :
    Calls Try.prog 23 #[boxV A1 n1 c1 p1, boxV A2 n2 c2 p2] w fun e w' => SameQ (p1, a) (p2, b) w e w' := by
  unfold boxV
  have HB := Lib.hid (show ∀ o1 o2, Below w.heap.size w ((w.alloc o1).alloc o2) from fun _ _ => ((Below.refl _ _).alloc (Nat.le_refl _) _).alloc (by simp) _)
  have HR1 := Lib.hid hx.lt
  have HR2 := Lib.hid hy.lt
  have HE := Lib.hid (show (p1, a) = (p2, b) ↔ p1 = p2 ∧ a = b by simp)
  clear hx hy
  by_cases h1 : p1 = p2
  · have b1 : (p1 == p2) = true := by simp [h1]
    have H1 := Lib.hid h1
    clear h1
    go_enter Try.func23, Try.ntmps23
    go_wp2_with fail
    refine (same_letters n A1 A2 c1 c2 n1 n2 l1 l2 a b _ _ _ hn1 hn2 (HR1.out.below (HB.out _ _) fun _ h => h.2) (HR2.out.below (HB.out _ _) fun _ h => h.2)).mono ?_
    rintro e w1 ⟨q, rfl, hq, hb⟩
    have HQ := Lib.hid hq
    have HW := Lib.hid ((HB.out _ _).trans (hb.mono (HB.out _ _).size))
    clear hq hb
    go_wp2_with fail
    go_ret
    refine ⟨q, rfl, ?_, HW.out⟩
    rw [HQ.out, HE.out]
    simp [H1.out]
  · have b1 : (p1 == p2) = false := by simp [h1]
    have HN := Lib.hid (show false = true ↔ (p1, a) = (p2, b) by rw [HE.out]; simp [h1])
    clear h1
    go_enter Try.func23, Try.ntmps23
    go_wp2_with fail
    go_ret
    exact ⟨false, rfl, HN.out, HB.out _ _⟩
end Go.Proofs.Ytdjahlkjfpbifaa
