
/-
  roadref3.FirstOf.
-/
import Derived.Test.YtdjahlkjfpbifaaPk4
namespace Go.Proofs.Ytdjahlkjfpbifaa
open Go.RowKit

set_option maxRecDepth 100000 in
set_option maxHeartbeats 1000000 in
theorem firstOf_any (n : Nat) (A : Option Addr) (c : Nat) (l : List VC) (ps : List Val) (y : VC) (v : Val) (w : World) (Sp Sv : Nat → Prop) (hx : valRow w Sp n A c l ps) (hy : VIn w Sv n y v) (hM : ∀ p ∈ ps, p.size ≤ 2097152) :
    Calls Try.prog 20 #[.slice A l.length c, valV y] w fun e w' => e = .returned (.int .i64 (firstF n ps v)) ∧ Below w.heap.size w w' := by
  have HR := Lib.hid hx.lt
  have HY := Lib.hid hy.lt
  have HL := Lib.hid hx.1
  have HMM := Lib.hid hM
  have hcm := hx.2.2.2.2.1
  have hlc := hx.2.2.2.1
  unfold maxLen at hcm
  obtain ⟨R, hR⟩ : ∃ R, firstF n ps v = R := ⟨_, rfl⟩
  rw [hR]
  have HI := Lib.hid hR
  unfold firstF at HI
  have HB := Lib.hid (show ∀ o1, Below w.heap.size w (w.alloc o1) from fun _ => (Below.refl _ _).alloc (Nat.le_refl _) _)
  clear hx hy hM hR
  unfold valV
  go_enter Try.func20, Try.ntmps20
  go_wp2_with fail
  go_loopg [10] l.length (fun gk i wr => ∃ k : Nat, gk = l.length - k ∧ k ≤ l.length ∧ i = .int .i64 k ∧ idxAt (fun p => (bindN n p v).isSome) ps 0 = idxAt (fun p => (bindN n p v).isSome) (ps.drop k) k ∧ Box wr w.heap.size 28 #[.int .i64 y.kind, .int .i64 y.num, .string y.text, .slice y.A y.len y.cap] ∧ Below w.heap.size w wr ∧ w.heap.size + 1 ≤ wr.heap.size)
  case atStart => exact ⟨0, by omega, by omega, rfl, rfl, Box.new _ _ _, HB.out _, by simp⟩
  case round =>
    obtain ⟨k, hgk, hk, rfl, hi, B1, hb, hsz⟩ := hrel
    have HG := Lib.hid hgk
    have HIK := Lib.hid hi
    clear hgk hi
    by_cases hlt : k < l.length
    · have hrw := HR.out.below hb (fun b h => h.2)
      have HX := Lib.hid (hrw.2.2.1 k hlt)
      have HKP := Lib.hid (show k < ps.length by rw [← HL.out]; exact hlt)
      have HID := Lib.hid (first_drop n ps v k HKP.out k)
      have HSM := Lib.hid (HMM.out _ (getD_mem val0 HKP.out))
      obtain ⟨p1, o1, rfl, _, hc0, hc1, hc2, hc3⟩ := hrw.2.1.all.val hlt vc0
      clear hrw
      generalize l.getD k vc0 = x at *
      generalize ps.getD k val0 = p at *
      have hw2 := fun o1 o2 => (hb.alloc (show w.heap.size ≤ wr.heap.size by omega) o1).alloc (show w.heap.size ≤ (wr.alloc o1).heap.size by simp; omega) o2
      have HW1 := Lib.hid hw2
      have HMA := Lib.hid (fun o1 => by
        have hm := matches_any n x y p v ((wr.alloc o1).alloc (.cells #[.slice none 0 0] 26)) (wr.alloc o1).heap.size (wr.alloc o1).heap.size n 2097152 _ _ none 0 [] []
          (HX.out.below (((Below.refl wr.heap.size wr).alloc (Nat.le_refl _) o1).alloc (by simp) (.cells #[.slice none 0 0] 26)) fun b hb => Nat.lt_of_lt_of_le hb.2 (by omega)) (HY.out.below (HW1.out o1 (.cells #[.slice none 0 0] 26)) fun b hb => hb.2) (fun b hb => by have := hb.2; simp; omega) (fun b hb => by have := hb.2; simp; omega) (by simp) (Nat.le_refl _) (NamesAt.new (Nat.le_refl _)) (by simpa using HSM.out) (Nat.le_refl _)
        rw [show (wr.alloc o1).heap.size = wr.heap.size + 1 by simp] at hm
        exact hm)
      have HBX := Lib.hid (fun o1 o2 => (B1.alloc o1).alloc o2)
      obtain ⟨f0, f1, f2, f3, _⟩ := own_cells4 B1
      unfold MatchPost valV at HMA
      clear HX B1 hw2
      obtain ⟨r, hr⟩ : ∃ r, bindN n p v = r := ⟨_, rfl⟩
      rw [hr] at HMA HID
      clear hr
      have hwr : w.heap.size < wr.heap.size := by omega
      go_wp2_with fail
      refine (HMA.out (.cells #[.int .i64 x.kind, .int .i64 x.num, .string x.text, .slice x.A x.len x.cap] 32)).mono ?_
      rintro e w2 ⟨q, A', c', l', vs', rfl, hq, _, _, ho, _⟩
      have hb2 := ho.to_below (B := wr.heap.size + 1) (Below.refl _ _) (by simp) (fun i hi => by
        rcases hi with e | e
        · exact Nat.le_of_eq e.symm
        · cases e)
      have HW2 := Lib.hid ((HW1.out _ _).trans (hb2.mono (by omega)))
      have HBX2 := Lib.hid ((HBX.out _ _).below hb2 (by omega))
      have hsz2 : w.heap.size + 1 ≤ w2.heap.size := by have := ho.size; simp at this; omega
      clear ho hb2 HMA
      cases r with
      | none =>
        obtain rfl : q = false := hq
        go_wp2_with fail
        go_roundg (l.length - (k + 1))
        case measure => have := HG.out; omega
        case rel => exact ⟨k + 1, rfl, by omega, by go_num, by rw [HIK.out, HID.out]; rfl, HBX2.out, HW2.out, hsz2⟩
      | some xs =>
        obtain rfl : q = true := hq
        have HRE := Lib.hid (show R = (k : Int) by rw [← HI.out, HIK.out, HID.out]; rfl)
        go_wp2_with fail
        go_ret
        rw [HRE.out]
        exact ⟨rfl, HW2.out⟩
    · obtain rfl : k = l.length := by omega
      have HRE := Lib.hid (show R = -1 by rw [← HI.out, HIK.out, HL.out, List.drop_length]; rfl)
      go_wp2_with fail
      go_ret
      rw [HRE.out]
      exact ⟨rfl, hb⟩
end Go.Proofs.Ytdjahlkjfpbifaa
