/-
  The reference's StoreFault.
-/
import Derived.Test.YtjblfkoepedhpaaBlobCheck
namespace Go.Proofs.Ytjblfkoepedhpaa
open Go.RowKit Go.Maps

def strL (s : List UInt8) : Lit := .string s
theorem strL_inj (x y : List UInt8) (h : strL x = strL y) : x = y := by injection h
theorem strL_key (x : List UInt8) : WideAt.IsKeyLit (strL x) := by simp [strL, WideAt.IsKeyLit]
abbrev StrSet := SetB strL Try.prog 9 4
theorem str_keyed : Keyed Try.prog 9 := string_keyed Try.underlying9
theorem zero_bool (w : World) : (zeroValue 4).run Try.prog w = .ok (.bool false) w := by kernel_rfl

set_option maxRecDepth 100000 in
set_option maxHeartbeats 2000000 in
theorem storeFault_any (A : Option Addr) (c : Nat) (l : List BlobT) (w : World) (hr : Row w w.heap.size A (flat blobC l)) (hm : l.length ≤ maxLen) :
    Calls Try.prog 95 #[.slice A l.length c] w fun e w' => e = .returned (.int .i64 (storeChk l)) ∧ Below w.heap.size w w' := by
  unfold storeChk
  have hmk := @run_makeMap Try.prog
  by_cases hl : 60 < l.length
  · rw [if_pos hl]
    go_enter Try.func95, Try.ntmps95
    go_wp2_with fail
    go_ret
    exact ⟨rfl, Below.refl _ _⟩
  rw [if_neg hl]
  unfold maxLen at hm
  generalize hres : storeF [] l = res
  have HRES := Lib.hid hres
  clear hres
  have HS0 := Lib.hid (SetB.made (f := strL) (P := Try.prog) (k := 9) (e := 4) w)
  have HB0 := Lib.hid (show Below w.heap.size w (w.alloc (.map #[] 0)) from (Below.refl _ _).alloc (Nat.le_refl _) _)
  go_enter Try.func95, Try.ntmps95
  go_wp2_with fail
  clear hmk
  go_loopg [12] l.length (fun m v wr => ∃ (k : Nat) (keys : List (List UInt8)), k ≤ l.length ∧ m = l.length - k ∧ v = .int .i64 k ∧ res = storeF (l.take k) (l.drop k) ∧ StrSet wr w.heap.size k keys ∧ (∀ t : ByteArray, keys.contains t.data.toList = (l.take k).any (isT t)) ∧ Below w.heap.size w wr)
  case atStart => exact ⟨0, [], by omega, rfl, rfl, HRES.out.symm, HS0.out, (fun t => rfl), HB0.out⟩
  case round =>
    obtain ⟨k, keys, hk, hmm, rfl, hK, hset, hkeys, hb⟩ := hrel
    have HM := Lib.hid hmm
    have HK := Lib.hid hK
    have HKEYS := Lib.hid hkeys
    clear hmm hK hkeys HS0 HB0
    by_cases hlt : k < l.length
    · have hr1 := hr.below hb
      obtain ⟨b, o, rfl, hbl, hc0, hc1⟩ := hr1.blob hlt (⟨#[]⟩, 0)
      have HS := Lib.hid (storeF_step l k hlt)
      have HTK := Lib.hid (take_getD l (⟨#[]⟩, 0) hlt)
      generalize l.getD k (⟨#[]⟩, 0) = x at *
      have hw1 : Below w.heap.size w (wr.alloc (.cells #[.string x.1, .int .i64 x.2] 134)) := hb.alloc hb.size _
      have hset1 := hset.alloc (.cells #[.string x.1, .int .i64 x.2] 134)
      cases hbad : badB x with
      | true =>
        have HEND := Lib.hid (show res = 1 by rw [HK.out, HS.out, hbad, if_pos rfl])
        unfold badB at hbad
        by_cases c1 : 64 < x.1.size
        · have e1 : decide (64 < x.1.size) = true := by simp; omega
          have e1' : decide ((64 : Int) < (x.1.size : Int)) = true := by simp; omega
          clear hbad
          go_wp2_with fail
          go_ret
          exact ⟨by rw [HEND.out]; rfl, hw1⟩
        have e1 : decide (64 < x.1.size) = false := by simp; omega
        have e1' : decide ((64 : Int) < (x.1.size : Int)) = false := by simp; omega
        by_cases c2 : x.2 < 0 ∨ 1000 < x.2
        · have ein : decide (0 ≤ x.2 ∧ x.2 ≤ 1000) = false := by simp; omega
          clear hbad
          go_wp2_with fail
          refine (in_any _ _ _ _).mono ?_
          rintro e w2 ⟨rfl, rfl⟩
          rw [ein]
          go_wp2_with fail
          go_ret
          exact ⟨by rw [HEND.out]; rfl, hw1⟩
        have ein : decide (0 ≤ x.2 ∧ x.2 ≤ 1000) = true := by simp; omega
        have e2 : decide (x.2 < 0) = false := by simp; omega
        have e3 : decide (1000 < x.2) = false := by simp; omega
        rw [e1, e2, e3] at hbad
        simp only [Bool.false_or, Bool.and_eq_true] at hbad
        obtain ⟨c4, c5⟩ := hbad
        have c5' : x.1.toList.isEmpty = false := by simpa using c5
        go_wp2_with fail
        refine (in_any _ _ _ _).mono ?_
        rintro e w2 ⟨rfl, rfl⟩
        rw [ein]
        go_wp2_with fail
        go_ret
        exact ⟨by rw [HEND.out]; rfl, hw1⟩
      | false =>
        have HBAD := Lib.hid hbad
        unfold badB at hbad
        simp only [Bool.or_eq_false_iff] at hbad
        obtain ⟨⟨⟨e1, e2⟩, e3⟩, e4⟩ := hbad
        have e1' : decide ((64 : Int) < (x.1.size : Int)) = false := by simp at e1 ⊢; omega
        have hx0 : 0 ≤ x.2 := by simpa using e2
        have hx1 : x.2 ≤ 1000 := by simpa using e3
        have ein : decide (0 ≤ x.2 ∧ x.2 ≤ 1000) = true := by simp; omega
        have hsz : x.1.size ≤ 64 := by simpa using e1
        by_cases hp : 0 < x.2
        · have d1 : decide (0 < x.2) = true := by simp; omega
          have b4 : (x.2 == 0) = false := beq_eq_false_iff_ne.2 (by omega)
          have hkey : keyOf Try.prog 9 (.string x.1) = some (strL x.1.data.toList) := Go.WideMaps.keyOf_string_mk Try.underlying9 (by unfold maxLen; omega)
          have hlk := hset1.look str_keyed Try.underlying168 Try.underlying4 (zero_bool _) hkey
          rw [HKEYS.out x.1] at hlk
          rw [d1, Bool.true_and] at HS
          obtain ⟨w2, hup, hset2, hg2⟩ := hset1.put str_keyed Try.underlying168 Try.underlying4 (by unfold maxLen; omega) strL_inj strL_key hkey
          have hw2 : Below w.heap.size w w2 := hw1.grown hg2 hw1.size (fun q hq => by simp at hq; omega)
          have HKY := Lib.hid (show ∀ t : ByteArray, (keys ++ [x.1.data.toList]).contains t.data.toList = (l.take (k + 1)).any (isT t) from fun t => by
            rw [HTK.out, List.any_append]
            simp only [List.contains_eq_any_beq, List.any_append, List.any_cons, List.any_nil, Bool.or_false]
            rw [← HKEYS.out t, List.contains_eq_any_beq]
            congr 1
            simp only [isT, d1, Bool.true_and, ByteArray.toList_eq]
            exact Bool.beq_comm)
          cases hseen : (l.take k).any (isT x.1) with
          | true =>
            have HEND := Lib.hid (show res = 5 by rw [HK.out, HS.out, HBAD.out, hseen]; rfl)
            rw [hseen] at hlk
            clear hseen e4 hup hg2
            go_wp2_with fail
            refine (in_any _ _ _ _).mono ?_
            rintro e w3 ⟨rfl, rfl⟩
            rw [ein]
            go_wp2_with fail
            go_ret
            exact ⟨by rw [HEND.out]; rfl, hw1⟩
          | false =>
            have HEND := Lib.hid (show res = storeF (l.take (k + 1)) (l.drop (k + 1)) by rw [HK.out, HS.out, HBAD.out, hseen]; rfl)
            rw [hseen] at hlk
            clear hseen e4 hg2
            go_wp2_with fail
            refine (in_any _ _ _ _).mono ?_
            rintro e w3 ⟨rfl, rfl⟩
            rw [ein]
            go_wp2_with fail
            go_roundg (l.length - (k + 1))
            case measure => have := HM.out; omega
            case rel => exact ⟨k + 1, _, by omega, rfl, by go_num, HEND.out, hset2, HKY.out, hw2⟩
        · have d1 : decide (0 < x.2) = false := by simp; omega
          have b4 : (x.2 == 0) = true := by simp; omega
          rw [b4, Bool.true_and] at e4
          have e5 : x.1.toList.isEmpty = true := by simpa using e4
          have HEND := Lib.hid (show res = storeF (l.take (k + 1)) (l.drop (k + 1)) by rw [HK.out, HS.out, HBAD.out, d1]; rfl)
          have HKY := Lib.hid (show ∀ t : ByteArray, keys.contains t.data.toList = (l.take (k + 1)).any (isT t) from fun t => by
            rw [HTK.out, List.any_append, HKEYS.out t]
            simp [isT, d1])
          clear e4
          go_wp2_with fail
          refine (in_any _ _ _ _).mono ?_
          rintro e w3 ⟨rfl, rfl⟩
          rw [ein]
          go_wp2_with fail
          go_roundg (l.length - (k + 1))
          case measure => have := HM.out; omega
          case rel => exact ⟨k + 1, keys, by omega, rfl, by go_num, HEND.out, (by obtain ⟨D, q1, q2⟩ := hset1; exact ⟨D, q1.mono (by omega), q2⟩), HKY.out, hw1⟩
    · go_wp2_with fail
      go_ret
      refine ⟨?_, hb⟩
      rw [HK.out, List.drop_eq_nil_of_le (by omega)]
      rfl
end Go.Proofs.Ytjblfkoepedhpaa
