
/-
  Histories: whether they are right (clock.Check).
-/
import Derived.Test.YtgkckldflfalgaaEvRow
import Derived.Test.YtgkckldflfalgaaIntSet
import Derived.Test.YtgkckldflfalgaaHistDef
import Derived.Deep.LoopGhost
namespace Go.Proofs.Ytgkckldflfalgaa
open Go.RowKit Go.Maps

theorem cont_snoc (l : List Int) (a m : Int) : (l ++ [a]).contains m = (l.contains m || a == m) := by
  rw [Bool.eq_iff_iff]
  simp only [List.contains_iff_mem, List.mem_append, List.mem_singleton, Bool.or_eq_true, beq_iff_eq]
  exact or_congr Iff.rfl eq_comm
/-- What was taken was sent. -/
def Sent (l : List Ev) : Prop := ∀ m, evHas l 3 m = true → evHas l 2 m = true
theorem Sent.snoc {l : List Ev} (h : Sent l) (x : Ev) (hx : x.2.1 = 3 → evHas l 2 x.2.2 = true) : Sent (l ++ [x]) := fun m hm => by
  rw [evHas_snoc] at hm ⊢
  rw [Bool.or_eq_true] at hm ⊢
  rcases hm with hm | hm
  · exact .inl (h m hm)
  · rw [Bool.and_eq_true, beq_iff_eq, beq_iff_eq] at hm
    exact .inl (by rw [← hm.2]; exact hx hm.1)

set_option maxRecDepth 100000 in
set_option maxHeartbeats 4000000 in
theorem checkE_any (A : Option Addr) (c : Nat) (l : List Ev) (w : World) (hr : Row w w.heap.size A (flat evC l)) (hlm : l.length ≤ maxLen) (hI : ∀ x ∈ l, I64 x.2.2) :
    Calls Try.prog 14 #[.slice A l.length c] w fun e w' => e = .returned (.int .i64 (history l)) ∧ Below w.heap.size w w' := by
  have hmk := @run_makeMap Try.prog
  unfold maxLen at hlm
  unfold history
  by_cases h200 : 200 < l.length
  · rw [if_pos h200]
    have d1 : decide ((200 : Int) < (l.length : Int)) = true := decide_eq_true (by omega)
    have d1' : decide (200 < l.length) = true := decide_eq_true h200
    go_enter Try.func14, Try.ntmps14
    go_wp2_with fail
    go_ret
    exact ⟨rfl, Below.refl _ _⟩
  rw [if_neg h200]
  have d1 : decide ((200 : Int) < (l.length : Int)) = false := decide_eq_false (by omega)
  have d1' : decide (200 < l.length) = false := decide_eq_false h200
  generalize hres : histF [] l = res
  have HRES := Lib.hid hres
  have HR := Lib.hid hr
  have HI := Lib.hid hI
  have HS0 := Lib.hid ((SetB.made (f := intL) (P := Try.prog) (k := 3) (e := 4) w).alloc (.map #[] 0))
  have HT0 := Lib.hid (show IntSet ((w.alloc (.map #[] 0)).alloc (.map #[] 0)) (w.heap.size + 1) 0 [] by
    have := SetB.made (f := intL) (P := Try.prog) (k := 3) (e := 4) (w.alloc (.map #[] 0))
    rw [show (w.alloc (.map #[] 0)).heap.size = w.heap.size + 1 by simp] at this
    exact this)
  have HB0 := Lib.hid (show Below w.heap.size w ((w.alloc (.map #[] 0)).alloc (.map #[] 0)) from ((Below.refl _ _).alloc (Nat.le_refl _) _).alloc (by simp) _)
  clear hres hr hI
  go_enter Try.func14, Try.ntmps14
  go_wp2_with fail
  clear hmk
  go_loopg [14] l.length (fun gk i wr => ∃ (k n1 n2 : Nat) (sent taken : List Int), gk = l.length - k ∧ k ≤ l.length ∧ i = .int .i64 k ∧ res = histF (l.take k) (l.drop k) ∧ (n1 ≤ k ∧ n2 ≤ k) ∧ IntSet wr w.heap.size n1 sent ∧ IntSet wr (w.heap.size + 1) n2 taken ∧ (∀ m, sent.contains m = evHas (l.take k) 2 m) ∧ (∀ m, taken.contains m = evHas (l.take k) 3 m) ∧ Sent (l.take k) ∧ Below w.heap.size w wr ∧ w.heap.size + 2 ≤ wr.heap.size)
  case atStart => exact ⟨0, 0, 0, [], [], by omega, by omega, rfl, HRES.out.symm, ⟨by omega, by omega⟩, HS0.out, HT0.out, (fun m => rfl), (fun m => rfl), (fun m hm => by cases hm), HB0.out, by simp⟩
  case round =>
    obtain ⟨k, n1, n2, sent, taken, hgk, hk, rfl, hR, ⟨hn1, hn2⟩, hs, ht, hsm, htm, hsn, hb, hsz⟩ := hrel
    have HK := Lib.hid hgk
    have HRR := Lib.hid hR
    have HS := Lib.hid hs
    have HT := Lib.hid ht
    have HSM := Lib.hid hsm
    have HTM := Lib.hid htm
    have HSN := Lib.hid hsn
    have HB := Lib.hid hb
    clear hgk hR hs ht hsm htm hsn hb HS0 HT0 HB0
    by_cases hlt : k < l.length
    · obtain ⟨b, o, hA, _, hc0, hc1, hc2⟩ := (HR.out.below HB.out).ev hlt (0, 0, 0)
      subst hA
      have HTK := Lib.hid (take_getD l (0, 0, 0) hlt)
      have HD := Lib.hid (show res = histF (l.take k) (l.getD k (0, 0, 0) :: l.drop (k + 1)) by rw [HRR.out, drop_getD l (0, 0, 0) hlt])
      have hx64 : I64 (l.getD k (0, 0, 0)).2.2 := HI.out _ (getD_mem (0, 0, 0) hlt)
      generalize l.getD k (0, 0, 0) = x at *
      obtain ⟨pl, kd, mg⟩ := x
      dsimp only at hc0 hc1 hc2 hx64
      have hbs := HB.out.size
      have HW1 := Lib.hid (fun ob => HB.out.alloc hbs ob)
      have hS1 := HS.out.alloc (.cells #[.int .i64 pl, .int .i64 kd, .int .i64 mg] 41)
      have hT1 := HT.out.alloc (.cells #[.int .i64 pl, .int .i64 kd, .int .i64 mg] 41)
      by_cases hform : evForm (pl, kd, mg)
      · have HE := Lib.hid (show res = 3 by rw [HD.out, histF, if_pos hform])
        unfold evForm at hform
        dsimp only at hform
        by_cases e1 : kd < 1
        · have q1 : decide (kd < 1) = true := decide_eq_true e1
          clear hform
          go_wp2_with fail
          go_ret
          exact ⟨by rw [HE.out]; rfl, HW1.out _⟩
        · have q1 : decide (kd < 1) = false := decide_eq_false e1
          have q2 : decide (3 < kd) = true := decide_eq_true (by omega)
          clear hform
          go_wp2_with fail
          go_ret
          exact ⟨by rw [HE.out]; rfl, HW1.out _⟩
      have hk1 : 1 ≤ kd ∧ kd ≤ 3 := by unfold evForm at hform; dsimp only at hform; omega
      have q1 : decide (kd < 1) = false := decide_eq_false (by omega)
      have q2 : decide (3 < kd) = false := decide_eq_false (by omega)
      have HD2 := Lib.hid (show res = if evArg (pl, kd, mg) then 1 else if kd = 2 ∧ evHas (l.take k) 2 mg = true then 5 else if kd = 3 ∧ evHas (l.take k) 2 mg = false then 4 else if kd = 3 ∧ evHas (l.take k) 3 mg = true then 5 else histF (l.take k ++ [(pl, kd, mg)]) (l.drop (k + 1)) by rw [HD.out, histF, if_neg hform])
      clear hform
      by_cases harg : evArg (pl, kd, mg)
      · have HE := Lib.hid (show res = 1 by rw [HD2.out, if_pos harg])
        unfold evArg at harg
        dsimp only at harg
        by_cases e1 : pl < 0
        · have q3 : decide (pl < 0) = true := decide_eq_true e1
          clear harg
          go_wp2_with fail
          go_ret
          exact ⟨by rw [HE.out]; rfl, HW1.out _⟩
        have q3 : decide (pl < 0) = false := decide_eq_false e1
        by_cases e2 : 8 ≤ pl
        · have q4 : decide (8 ≤ pl) = true := decide_eq_true e2
          clear harg
          go_wp2_with fail
          go_ret
          exact ⟨by rw [HE.out]; rfl, HW1.out _⟩
        have q4 : decide (8 ≤ pl) = false := decide_eq_false e2
        have q5 : (kd != 1) = true := by rw [bne_iff_ne]; omega
        by_cases e3 : mg < 0
        · have q6 : decide (mg < 0) = true := decide_eq_true e3
          clear harg
          go_wp2_with fail
          go_ret
          exact ⟨by rw [HE.out]; rfl, HW1.out _⟩
        · have q6 : decide (mg < 0) = false := decide_eq_false e3
          have q7 : decide (999 < mg) = true := decide_eq_true (by omega)
          clear harg
          go_wp2_with fail
          go_ret
          exact ⟨by rw [HE.out]; rfl, HW1.out _⟩
      have HD3 := Lib.hid (show res = if kd = 2 ∧ evHas (l.take k) 2 mg = true then 5 else if kd = 3 ∧ evHas (l.take k) 2 mg = false then 4 else if kd = 3 ∧ evHas (l.take k) 3 mg = true then 5 else histF (l.take k ++ [(pl, kd, mg)]) (l.drop (k + 1)) by rw [HD2.out, if_neg harg])
      have ha : (0 ≤ pl ∧ pl < 8) ∧ (kd ≠ 1 → 0 ≤ mg ∧ mg ≤ 999) := by unfold evArg at harg; dsimp only at harg; omega
      have q3 : decide (pl < 0) = false := decide_eq_false (by omega)
      have q4 : decide (8 ≤ pl) = false := decide_eq_false (by omega)
      clear harg HD2 HD
      have hkey := int_key hx64
      have hlS := hS1.look ints_keyed Try.underlying56 Try.underlying4 (zero_boolS _) hkey
      have hlT := hT1.look ints_keyed Try.underlying56 Try.underlying4 (zero_boolS _) hkey
      rw [HSM.out mg] at hlS
      rw [HTM.out mg] at hlT
      by_cases k1 : kd = 1
      · subst k1
        have HE := Lib.hid (show res = histF (l.take (k + 1)) (l.drop (k + 1)) by rw [HD3.out, if_neg (fun h => by cases h.1), if_neg (fun h => by cases h.1), if_neg (fun h => by cases h.1), HTK.out])
        have HS2 := Lib.hid hS1
        have HT2 := Lib.hid hT1
        clear ha hkey hlS hlT
        go_wp2_with fail
        go_roundg (l.length - (k + 1))
        case measure => have := HK.out; omega
        case rel => exact ⟨k + 1, n1, n2, sent, taken, rfl, by omega, by go_num, HE.out, ⟨by omega, by omega⟩, HS2.out, HT2.out, (fun m => by rw [HTK.out, evHas_snoc, HSM.out m]; simp), (fun m => by rw [HTK.out, evHas_snoc, HTM.out m]; simp), (by rw [HTK.out]; exact HSN.out.snoc _ (fun h => by cases h)), HW1.out _, by simp; omega⟩
      have q5 : (kd != 1) = true := by rw [bne_iff_ne]; exact k1
      have hmg := ha.2 k1
      have q6 : decide (mg < 0) = false := decide_eq_false (by omega)
      have q7 : decide (999 < mg) = false := decide_eq_false (by omega)
      clear ha
      by_cases k2 : kd = 2
      · subst k2
        cases hseen : evHas (l.take k) 2 mg with
        | true =>
          have HE := Lib.hid (show res = 5 by rw [HD3.out, if_pos ⟨rfl, hseen⟩])
          rw [hseen] at hlS
          clear hseen hkey hlT k1 q5
          go_wp2_with fail
          go_ret
          exact ⟨by rw [HE.out]; rfl, HW1.out _⟩
        | false =>
          have HE := Lib.hid (show res = histF (l.take (k + 1)) (l.drop (k + 1)) by rw [HD3.out, if_neg (fun h => by rw [hseen] at h; cases h.2), if_neg (fun h => by cases h.1), if_neg (fun h => by cases h.1), HTK.out])
          obtain ⟨w2, hup, hset2, hg2⟩ := hS1.put ints_keyed Try.underlying56 Try.underlying4 (by unfold maxLen; omega) intL_inj intL_key hkey
          have HS2 := Lib.hid hset2
          have HT2 := Lib.hid (hT1.kept hg2 (by simp))
          have HW2 := Lib.hid ((HW1.out _).grown hg2 (by simp; omega) (fun q hq => by simp at hq; omega))
          have hg2s := hg2.size
          rw [hseen] at hlS
          clear hseen hkey hlT k1 q5 hset2 hg2
          go_wp2_with fail
          go_roundg (l.length - (k + 1))
          case measure => have := HK.out; omega
          case rel => exact ⟨k + 1, n1 + 1, n2, _, taken, rfl, by omega, by go_num, HE.out, ⟨by omega, by omega⟩, HS2.out, HT2.out, (fun m => by rw [HTK.out, evHas_snoc, ← HSM.out m, cont_snoc]; simp), (fun m => by rw [HTK.out, evHas_snoc, HTM.out m]; simp), (by rw [HTK.out]; exact HSN.out.snoc _ (fun h => by cases h)), HW2.out, by simp at hg2s; omega⟩
      · obtain rfl : kd = 3 := by omega
        cases htk : evHas (l.take k) 3 mg with
        | true =>
          have hsent := HSN.out mg htk
          have HE := Lib.hid (show res = 5 by rw [HD3.out, if_neg (fun h => by cases h.1), if_neg (fun h => by rw [hsent] at h; cases h.2), if_pos ⟨rfl, htk⟩])
          rw [htk] at hlT
          clear htk hsent hkey hlS k1 k2 q5
          go_wp2_with fail
          go_ret
          exact ⟨by rw [HE.out]; rfl, HW1.out _⟩
        | false =>
          cases hst : evHas (l.take k) 2 mg with
          | false =>
            have HE := Lib.hid (show res = 4 by rw [HD3.out, if_neg (fun h => by cases h.1), if_pos ⟨rfl, hst⟩])
            rw [htk] at hlT
            rw [hst] at hlS
            clear htk hst hkey k1 k2 q5
            go_wp2_with fail
            go_ret
            exact ⟨by rw [HE.out]; rfl, HW1.out _⟩
          | true =>
            have HE := Lib.hid (show res = histF (l.take (k + 1)) (l.drop (k + 1)) by rw [HD3.out, if_neg (fun h => by cases h.1), if_neg (fun h => by rw [hst] at h; cases h.2), if_neg (fun h => by rw [htk] at h; cases h.2), HTK.out])
            have HST := Lib.hid hst
            obtain ⟨w2, hup, hset2, hg2⟩ := hT1.put ints_keyed Try.underlying56 Try.underlying4 (by unfold maxLen; omega) intL_inj intL_key hkey
            have HT2 := Lib.hid hset2
            have HS2 := Lib.hid (hS1.kept hg2 (by simp))
            have HW2 := Lib.hid ((HW1.out _).grown hg2 (by simp; omega) (fun q hq => by simp at hq; omega))
            have hg2s := hg2.size
            rw [htk] at hlT
            rw [hst] at hlS
            clear htk hst hkey k1 k2 q5 hset2 hg2
            go_wp2_with fail
            go_roundg (l.length - (k + 1))
            case measure => have := HK.out; omega
            case rel => exact ⟨k + 1, n1, n2 + 1, sent, _, rfl, by omega, by go_num, HE.out, ⟨by omega, by omega⟩, HS2.out, HT2.out, (fun m => by rw [HTK.out, evHas_snoc, HSM.out m]; simp), (fun m => by rw [HTK.out, evHas_snoc, ← HTM.out m, cont_snoc]; simp), (by rw [HTK.out]; exact HSN.out.snoc _ (fun _ => HST.out)), HW2.out, by simp at hg2s; omega⟩
    · have HEND := Lib.hid (show res = 0 by rw [HRR.out, List.drop_of_length_le (by omega)]; rfl)
      go_wp2_with fail
      go_ret
      exact ⟨by rw [HEND.out]; rfl, HB.out⟩
end Go.Proofs.Ytgkckldflfalgaa
