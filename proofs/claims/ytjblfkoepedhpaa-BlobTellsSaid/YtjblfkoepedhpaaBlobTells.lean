/-
  The law BlobTells: the walk.
-/
import Derived.Test.YtjblfkoepedhpaaBlobHold
namespace Go.Proofs.Ytjblfkoepedhpaa
open Go.ChangeShapes Go.WideShapes Go.ChangeAt Go.RowKit Go.Deep

/-- What Hold hands back for a store that is right. -/
def HoldR (l : List BlobT) (t : ByteArray) (w : World) (e : Ending) (w' : World) : Prop :=
  ∃ (Aa : Option Addr) (na ca : Nat) (kk ee : Int), e = .returned (.tuple #[.slice Aa na ca, .int .i64 kk, .int .i64 ee]) ∧ Below w.heap.size w w' ∧
    ((64 < t.size ∧ na = 0 ∧ kk = 0 ∧ ee = 2) ∨ (t.size ≤ 64 ∧ fullB l (holdAt l t) = true ∧ na = 0 ∧ kk = 0 ∧ ee = 6) ∨
     (t.size ≤ 64 ∧ fullB l (holdAt l t) = false ∧ na = (withB l (holdAt l t) (t, (l.getD (holdAt l t) bnil).2 + 1)).length ∧ kk = (holdAt l t : Int) ∧ ee = 0 ∧ Row w' w'.heap.size Aa (flat blobC (withB l (holdAt l t) (t, (l.getD (holdAt l t) bnil).2 + 1)))))
theorem hold_r (A : Option Addr) (c : Nat) (l : List BlobT) (t : ByteArray) (w : World) (hr : Row w w.heap.size A (flat blobC l)) (hlc : l.length ≤ c) (hm : c ≤ maxLen) (hA : A = none → c = 0) (h : storeChk l = 0) :
    Calls Try.prog 91 #[.slice A l.length c, .string t] w (HoldR l t w) := by
  by_cases ht : 64 < t.size
  · refine (hold_large A c l t w hr hlc hm h ht).mono ?_
    rintro e w' ⟨rfl, hb⟩
    exact ⟨none, 0, 0, 0, 2, rfl, hb, .inl ⟨ht, rfl, rfl, rfl⟩⟩
  · refine (hold_ok A c l t w hr hlc hm hA h (by omega)).mono ?_
    intro e w' hh
    unfold HoldE at hh
    cases hf : fullB l (holdAt l t) with
    | true =>
      rw [hf, if_pos rfl] at hh
      obtain ⟨rfl, hb⟩ := hh
      exact ⟨none, 0, 0, 0, 6, rfl, hb, .inr (.inl ⟨by omega, hf, rfl, rfl, rfl⟩)⟩
    | false =>
      rw [hf, if_neg (by simp)] at hh
      obtain ⟨Aa, ca, rfl, hr', hb⟩ := hh
      exact ⟨Aa, _, ca, _, 0, rfl, hb, .inr (.inr ⟨by omega, hf, rfl, rfl, rfl, hr'⟩)⟩

set_option maxRecDepth 100000 in
set_option maxHeartbeats 1000000 in
theorem blobTells_bad (A : Option Addr) (c : Nat) (l : List BlobT) (t : ByteArray) (i r : Int) (W : World) (hr : Row W W.heap.size A (flat blobC l)) (hlc : l.length ≤ c) (hm : c ≤ maxLen) (h : storeChk l = r) (h0 : r ≠ 0) :
    Calls Try.prog 14 #[.slice A l.length c, .string t, .int .i64 i] W fun e w' => e = .returned (.bool true) ∧ Below W.heap.size W w' := by
  have HR := Lib.hid (fun w (hb : Below W.heap.size W w) => (hr.below hb).more hb.size)
  have hE : heldE l i = r := by rw [heldE_bad i (by rw [h]; exact h0), h]
  have H1 := Lib.hid (hold_bad A c l t r W hr hlc hm h h0)
  have H2 := Lib.hid (fun w hb => get_bad A c l i r w (HR.out w hb) hlc hm hE h0)
  have H3 := Lib.hid (fun w hb => let_bad A c l i r w (HR.out w hb) hlc hm hE h0)
  have H4 := Lib.hid (fun w hb => size_bad A c l r w (HR.out w hb) hlc hm h h0)
  have H5 := fun w hb => storeFault_any A c l w (HR.out w hb) (by omega)
  have H6 := fun w hb => checkB_any A c l w (HR.out w hb) hlc hm
  rw [h] at H5 H6
  have H5' := Lib.hid H5
  have H6' := Lib.hid H6
  have b1 : (r != 0) = true := by simp; exact h0
  clear H5 H6 h h0 hE
  go_enter Try.func14, Try.ntmps14
  go_wp2_with fail
  refine H1.out.mono ?_
  rintro e w1 ⟨rfl, hb1⟩
  go_wp2_with fail
  refine (H2.out w1 hb1).mono ?_
  rintro e w2 ⟨rfl, hb2⟩
  have hb02 := hb1.trans (hb2.mono hb1.size)
  go_wp2_with fail
  refine (H3.out w2 hb02).mono ?_
  rintro e w3 ⟨rfl, hb3⟩
  have hb03 := hb02.trans (hb3.mono hb02.size)
  go_wp2_with fail
  refine (H4.out w3 hb03).mono ?_
  rintro e w4 ⟨rfl, hb4⟩
  have hb04 := hb03.trans (hb4.mono hb03.size)
  go_wp2_with fail
  refine (H5'.out w4 hb04).mono ?_
  rintro e w5 ⟨rfl, hb5⟩
  have hb05 := hb04.trans (hb5.mono hb04.size)
  go_wp2_with fail
  refine (H6'.out w5 hb05).mono ?_
  rintro e w6 ⟨rfl, hb6⟩
  have hb06 := hb05.trans (hb6.mono hb05.size)
  go_wp2_with fail
  go_ret
  exact ⟨rfl, hb06⟩

/-- The first free entry from the m-th on, or the number of all. -/
def freeFrom (l : List BlobT) (m : Nat) : Int := if 0 ≤ idxAt isFree (l.drop m) m then idxAt isFree (l.drop m) m else l.length
theorem freeFrom_step (l : List BlobT) {j : Nat} (h : j < l.length) : freeFrom l j = if isFree (l.getD j bnil) = true then (j : Int) else freeFrom l (j + 1) := by
  unfold freeFrom
  rw [idxAt_drop isFree l bnil j h j]
  by_cases hf : isFree (l.getD j bnil) = true
  · rw [if_pos hf, if_pos hf, if_pos (by omega)]
  · rw [if_neg hf, if_neg hf]
    rfl
theorem holdAt_int (l : List BlobT) (t : ByteArray) : (holdAt l t : Int) = if 0 ≤ findT l t then findT l t else freeFrom l 0 := by
  unfold holdAt freeFrom
  by_cases h : 0 ≤ findT l t
  · rw [if_pos h, if_pos h]; omega
  · rw [if_neg h, if_neg h]
    simp only [List.drop_zero, Int.natCast_zero]
    by_cases h2 : 0 ≤ idxAt isFree l 0
    · rw [if_pos h2, if_pos h2]; omega
    · rw [if_neg h2, if_neg h2]

end Go.Proofs.Ytjblfkoepedhpaa
