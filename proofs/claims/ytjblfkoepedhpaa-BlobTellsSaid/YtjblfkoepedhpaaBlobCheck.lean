/-
  Package blob: find, Check; the reference's StoreFault.
-/
import Derived.Test.YtjblfkoepedhpaaBlob
import Derived.Test.YtjblfkoepedhpaaBlobLaw
import Derived.Test.YtjblfkoepedhpaaSetB
import Derived.Test.YtjblfkoepedhpaaTurn
import Derived.Deep.RegionLaw
import Derived.Deep.LoopGhost
namespace Go.Proofs.Ytjblfkoepedhpaa
open Go.RowKit

theorem enters_find1 : Enters 133 := fun _ _ => by kernel_rfl
theorem enters_hold1 : Enters 126 := fun _ _ => by kernel_rfl

set_option maxHeartbeats 400000 in
theorem find1_any (x : BlobT) (g : Nat) (t : ByteArray) (w : World) (h : w.cell? ⟨g, 0, none⟩ = some (.string t)) :
    Calls Try.prog 133 #[blobV x, .pointer (some ⟨g, 0, none⟩)] w fun e w' => e = .returned (.bool (isT t x)) ∧ Below w.heap.size w w' := by
  have hg : ∀ o, (w.alloc o).cell? ⟨g, 0, none⟩ = some (.string t) := fun o => (World.cell?_alloc_lt w o ⟨g, 0, none⟩ (lt_of_cell h)).trans h
  unfold blobV
  by_cases h1 : 0 < x.2
  · have d1 : decide (0 < x.2) = true := by simp; omega
    have HI := Lib.hid (show isT t x = (x.1.toList == t.toList) by simp [isT, d1])
    generalize isT t x = r at *
    go_enter Try.func133, Try.ntmps133
    go_wp2_with fail
    go_ret
    exact ⟨by rw [HI.out]; rfl, (Below.refl _ _).alloc (Nat.le_refl _) _⟩
  · have d1 : decide (0 < x.2) = false := by simp; omega
    have HI := Lib.hid (show isT t x = false by simp only [isT, d1, Bool.false_and])
    generalize isT t x = r at *
    go_enter Try.func133, Try.ntmps133
    go_wp2_with fail
    go_ret
    exact ⟨by rw [HI.out]; rfl, (Below.refl _ _).alloc (Nat.le_refl _) _⟩

set_option maxHeartbeats 400000 in
theorem hold1_any (x : BlobT) (w : World) :
    Calls Try.prog 126 #[blobV x] w fun e w' => e = .returned (.bool (isFree x)) ∧ Below w.heap.size w w' := by
  unfold blobV isFree
  go_enter Try.func126, Try.ntmps126
  go_wp2_with fail
  go_ret
  exact ⟨rfl, (Below.refl _ _).alloc (Nat.le_refl _) _⟩

set_option maxHeartbeats 400000 in
theorem find_any (A : Option Addr) (c n : Nat) (l : List BlobT) (t : ByteArray) (W : World) (hn : l.length = n) (hr : Row W W.heap.size A (flat blobC l)) (hm : l.length ≤ maxLen) :
    Calls Try.prog 124 #[.slice A n c, .string t] W fun e w' => e = .returned (.int .i64 (findT l t)) ∧ Below W.heap.size W w' := by
  subst hn
  have hal : Below W.heap.size W (W.alloc (.cells #[.string t] 9)) := (Below.refl _ _).alloc (Nat.le_refl _) _
  have hc : (W.alloc (.cells #[.string t] 9)).cell? ⟨W.heap.size, 0, none⟩ = some (.string t) := (Box.new _ _ _).cell 0
  have HX := Lib.hid (indexFunc_blob A c l 133 #[.pointer (some ⟨W.heap.size, 0, none⟩)] (isT t) W.heap.size (fun w => Below (W.heap.size + 1) (W.alloc (.cells #[.string t] 9)) w) (W.alloc (.cells #[.string t] 9)) enters_find1 hm
    (fun w hw => (hr.below hal).below (hw.mono (by omega)))
    (fun x _ w hw => (find1_any x W.heap.size t w ((hw.cell (p := ⟨W.heap.size, 0, none⟩) (by simp)).trans hc)).mono fun e w' ⟨h1, h2⟩ => ⟨h1, hw.trans (h2.mono (by have := hw.size; simp at this; omega))⟩) (Below.refl _ _))
  have HB := Lib.hid (fun w (hw : Below (W.heap.size + 1) (W.alloc (.cells #[.string t] 9)) w) => hal.trans (hw.mono (by simp)))
  go_enter Try.func124, Try.ntmps124
  go_wp2_with fail
  refine HX.out.mono ?_
  rintro e w1 ⟨rfl, hw1⟩
  go_wp2_with fail
  go_ret
  exact ⟨rfl, HB.out w1 hw1⟩

/-- Whether the first k entries have a text in use. -/
theorem seen_find (l : List BlobT) (k : Nat) (t : ByteArray) : decide (0 ≤ findT (l.take k) t) = (l.take k).any (isT t) := idxAt_any (isT t) (l.take k) 0 (by omega)

set_option maxRecDepth 100000 in
set_option maxHeartbeats 2000000 in
theorem checkB_any (A : Option Addr) (c : Nat) (l : List BlobT) (w : World) (hr : Row w w.heap.size A (flat blobC l)) (hlc : l.length ≤ c) (hm : c ≤ maxLen) :
    Calls Try.prog 96 #[.slice A l.length c] w fun e w' => e = .returned (.int .i64 (storeChk l)) ∧ Below w.heap.size w w' := by
  unfold storeChk
  by_cases hl : 60 < l.length
  · rw [if_pos hl]
    go_enter Try.func96, Try.ntmps96
    go_wp2_with fail
    go_ret
    exact ⟨rfl, Below.refl _ _⟩
  rw [if_neg hl]
  unfold maxLen at hm
  generalize hres : storeF [] l = res
  have HRES := Lib.hid hres
  clear hres
  go_enter Try.func96, Try.ntmps96
  go_wp2_with fail
  go_loopg [10] l.length (fun m v wr => ∃ k : Nat, k ≤ l.length ∧ m = l.length - k ∧ v = .int .i64 k ∧ res = storeF (l.take k) (l.drop k) ∧ Below w.heap.size w wr)
  case atStart => exact ⟨0, by omega, rfl, rfl, HRES.out.symm, Below.refl _ _⟩
  case round =>
    obtain ⟨k, hk, hmm, rfl, hK, hb⟩ := hrel
    have HM := Lib.hid hmm
    have HK := Lib.hid hK
    clear hmm hK
    by_cases hlt : k < l.length
    · have hr1 := hr.below hb
      obtain ⟨b, o, rfl, hbl, hc0, hc1⟩ := hr1.blob hlt (⟨#[]⟩, 0)
      have HS := Lib.hid (storeF_step l k hlt)
      generalize l.getD k (⟨#[]⟩, 0) = x at *
      have hkc : (k : Int) ≤ (c : Int) := by omega
      have hk0 : (0 : Int) ≤ (k : Int) := by omega
      have hw1 : Below w.heap.size w (wr.alloc (.cells #[.string x.1, .int .i64 x.2] 134)) := hb.alloc hb.size _
      cases hbad : badB x with
      | true =>
        have HBAD := Lib.hid hbad
        have HEND := Lib.hid (show res = 1 by rw [HK.out, HS.out, hbad, if_pos rfl])
        unfold badB at hbad
        by_cases c1 : 64 < x.1.size
        · have e1 : decide (64 < x.1.size) = true := by simp; omega
          have e1' : decide ((64 : Int) < (x.1.size : Int)) = true := by simp; omega
          clear hbad
          go_wp2_with fail
          go_ret
          exact ⟨by rw [HEND.out]; rfl, hw1⟩
        have e1 : decide (64 < x.1.size) = false := by simp; omega
        have e1' : decide ((64 : Int) < (x.1.size : Int)) = false := by simp; omega
        by_cases c2 : x.2 < 0
        · have e2 : decide (x.2 < 0) = true := by simp; omega
          clear hbad
          go_wp2_with fail
          go_ret
          exact ⟨by rw [HEND.out]; rfl, hw1⟩
        have e2 : decide (x.2 < 0) = false := by simp; omega
        by_cases c3 : 1000 < x.2
        · have e3 : decide (1000 < x.2) = true := by simp; omega
          clear hbad
          go_wp2_with fail
          go_ret
          exact ⟨by rw [HEND.out]; rfl, hw1⟩
        have e3 : decide (1000 < x.2) = false := by simp; omega
        rw [e1, e2, e3] at hbad
        simp only [Bool.false_or, Bool.and_eq_true] at hbad
        obtain ⟨c4, c5⟩ := hbad
        have c5' : x.1.toList.isEmpty = false := by simpa using c5
        go_wp2_with fail
        go_ret
        exact ⟨by rw [HEND.out]; rfl, hw1⟩
      | false =>
        have HBAD := Lib.hid hbad
        unfold badB at hbad
        simp only [Bool.or_eq_false_iff] at hbad
        obtain ⟨⟨⟨e1, e2⟩, e3⟩, e4⟩ := hbad
        have e1' : decide ((64 : Int) < (x.1.size : Int)) = false := by simp at e1 ⊢; omega
        have hx0 : 0 ≤ x.2 := by simpa using e2
        by_cases hp : 0 < x.2
        · have d1 : decide (0 < x.2) = true := by simp; omega
          have b4 : (x.2 == 0) = false := beq_eq_false_iff_ne.2 (by omega)
          have HT := Lib.hid (find_any (some ⟨b, o, none⟩) c k (l.take k) x.1 (wr.alloc (.cells #[.string x.1, .int .i64 x.2] 134)).drew (by simp; omega) (((hr.below hw1).more hw1.size).takeF blobC_len k) (by unfold maxLen; simp; omega))
          have HSF := Lib.hid (seen_find l k x.1)
          rw [d1, Bool.true_and] at HS
          clear e4
          go_wp2_with fail
          go_region_law ((go_simp; go_at_call 124; refine HT.out.mono ?_; rintro e w2 ⟨rfl, hb2⟩))
          have hw2 : Below w.heap.size w w2 := (below_drewN hw1 1).trans (hb2.mono hw1.size)
          simp only [List.getElem_toArray, List.getElem_cons_succ, List.getElem_cons_zero]
          go_frame
          generalize findT (l.take k) x.1 = j at *
          clear HT hb2
          by_cases hj : 0 ≤ j
          · have dj : decide (0 ≤ j) = true := by simp; omega
            rw [dj] at HSF
            have HEND := Lib.hid (show res = 5 by rw [HK.out, HS.out, HBAD.out, ← HSF.out]; rfl)
            clear HSF
            go_wp2_with fail
            go_ret
            exact ⟨by rw [HEND.out]; rfl, hw2⟩
          · have dj : decide (0 ≤ j) = false := by simp; omega
            rw [dj] at HSF
            have HEND := Lib.hid (show res = storeF (l.take (k + 1)) (l.drop (k + 1)) by rw [HK.out, HS.out, HBAD.out, ← HSF.out]; rfl)
            clear HSF
            go_wp2_with fail
            go_roundg (l.length - (k + 1))
            case measure => have := HM.out; omega
            case rel => exact ⟨k + 1, by omega, rfl, by go_num, HEND.out, hw2⟩
        · have d1 : decide (0 < x.2) = false := by simp; omega
          have b4 : (x.2 == 0) = true := by simp; omega
          rw [b4, Bool.true_and] at e4
          have e5 : x.1.toList.isEmpty = true := by simpa using e4
          rw [d1, Bool.false_and] at HS
          go_wp2_with fail
          go_quiet (fail)
          go_wp2_with fail
          go_roundg (l.length - (k + 1))
          case measure => have := HM.out; omega
          case rel => exact ⟨k + 1, by omega, rfl, by go_num, by rw [HK.out, HS.out, HBAD.out]; simp, below_drewN hw1 _⟩
    · go_wp2_with fail
      go_ret
      refine ⟨?_, hb⟩
      rw [HK.out, List.drop_eq_nil_of_le (by omega)]
      rfl
end Go.Proofs.Ytjblfkoepedhpaa
