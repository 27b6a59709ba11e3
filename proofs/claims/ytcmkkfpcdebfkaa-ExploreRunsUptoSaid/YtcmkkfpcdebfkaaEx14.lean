/-
  ExploreRuns: the law's walk.
-/
import Derived.Test.YtcmkkfpcdebfkaaEx13
import Derived.Test.YtcmkkfpcdebfkaaEx10b
namespace Go.Proofs.Ytcmkkfpcdebfkaa
open Go.RowKit

theorem run_first (W : World) : Calls Try.prog 19 #[.slice (some ⟨W.heap.size + 1, 0, none⟩) 1 1, .slice (some ⟨W.heap.size + 2, 0, none⟩) 2 2] (((W.alloc (.cells #[.int .i64 3, .int .i64 0, .int .i64 3] 40)).alloc (.cells #[.slice (some ⟨W.heap.size, 0, none⟩) 1 1] 41)).alloc (.cells #[.int .i64 0, .int .i64 0] 3))
    fun e w' => e = .returned (.tuple #[.agg #[.int .i64 3, .int .i64 0, .int .i64 0, .int .i64 0, .int .i64 0, .int .i64 0, .int .i64 0, .int .i64 0, .int .i64 1, .int .i64 0, .int .i64 0, .int .i64 0], .int .i64 1, .int .i64 0]) ∧ Below W.heap.size W w' := by
  have h1 := ((Box.new W 40 #[.int .i64 3, .int .i64 0, .int .i64 3]).alloc (.cells #[.slice (some ⟨W.heap.size, 0, none⟩) 1 1] 41)).alloc (.cells #[.int .i64 0, .int .i64 0] 3)
  have h2 := (Box.new (W.alloc (.cells #[.int .i64 3, .int .i64 0, .int .i64 3] 40)) 41 #[.slice (some ⟨W.heap.size, 0, none⟩) 1 1]).alloc (.cells #[.int .i64 0, .int .i64 0] 3)
  have h3 := Box.new ((W.alloc (.cells #[.int .i64 3, .int .i64 0, .int .i64 3] 40)).alloc (.cells #[.slice (some ⟨W.heap.size, 0, none⟩) 1 1] 41)) 3 #[.int .i64 0, .int .i64 0]
  rw [show (W.alloc (.cells #[.int .i64 3, .int .i64 0, .int .i64 3] 40)).heap.size = W.heap.size + 1 by simp] at h2
  rw [show ((W.alloc (.cells #[.int .i64 3, .int .i64 0, .int .i64 3] 40)).alloc (.cells #[.slice (some ⟨W.heap.size, 0, none⟩) 1 1] 41)).heap.size = W.heap.size + 2 by simp] at h3
  have hb := (((Below.refl W.heap.size W).alloc (Nat.le_refl _) (.cells #[.int .i64 3, .int .i64 0, .int .i64 3] 40)).alloc (by simp) (.cells #[.slice (some ⟨W.heap.size, 0, none⟩) 1 1] 41)).alloc (by simp; omega) (.cells #[.int .i64 0, .int .i64 0] 3)
  generalize ((W.alloc (.cells #[.int .i64 3, .int .i64 0, .int .i64 3] 40)).alloc (.cells #[.slice (some ⟨W.heap.size, 0, none⟩) 1 1] 41)).alloc (.cells #[.int .i64 0, .int .i64 0] 3) = w0 at *
  refine (runE (some ⟨W.heap.size + 1, 0, none⟩) (some ⟨W.heap.size + 2, 0, none⟩) 1 2 l0 [0, 0] w0 (pin_l0 h1 h2) (fun _ => ⟨W.heap.size + 2, 0, rfl, h3.lt, fun i v hv => ?_⟩) (by decide)).mono ?_
  · rw [Nat.zero_add, h3.cell]
    rw [← hv]
    simp [ints]
  · rintro e w' ⟨he, hb'⟩
    rw [run_l0] at he
    exact ⟨he, hb.trans (hb'.mono hb.size)⟩
theorem cells12 {w : World} {g : Nat} {t : TypeId} {z0 z1 z2 z3 z4 z5 z6 z7 z8 z9 z10 z11 : Value} (h : Box w g t #[z0, z1, z2, z3, z4, z5, z6, z7, z8, z9, z10, z11]) :
    w.cell? ⟨g, 0, none⟩ = some z0 ∧ w.cell? ⟨g, 1, none⟩ = some z1 ∧ w.cell? ⟨g, 2, none⟩ = some z2 ∧ w.cell? ⟨g, 3, none⟩ = some z3 ∧ w.cell? ⟨g, 4, none⟩ = some z4 ∧ w.cell? ⟨g, 5, none⟩ = some z5 ∧ w.cell? ⟨g, 6, none⟩ = some z6 ∧ w.cell? ⟨g, 7, none⟩ = some z7 ∧ w.cell? ⟨g, 8, none⟩ = some z8 ∧ w.cell? ⟨g, 9, none⟩ = some z9 ∧ w.cell? ⟨g, 10, none⟩ = some z10 ∧ w.cell? ⟨g, 11, none⟩ = some z11 :=
  ⟨h.cell 0, h.cell 1, h.cell 2, h.cell 3, h.cell 4, h.cell 5, h.cell 6, h.cell 7, h.cell 8, h.cell 9, h.cell 10, h.cell 11⟩
/-- What came in. -/
structure ExIn (W : World) (A B : Option Addr) (c d : Nat) (l : List (List Do)) (o : List Int) : Prop where
  pin : PIn W A c l
  row : Row W W.heap.size B (ints o)
  len : o.length ≤ 1048576
theorem ExIn.below {w w' : World} {A B : Option Addr} {c d : Nat} {l : List (List Do)} {o : List Int} (h : ExIn w A B c d l o) (hb : Below w.heap.size w w') : ExIn w' A B c d l o :=
  ⟨h.pin.below hb, (h.row.below hb).more hb.size, h.len⟩
theorem ExIn.run {w : World} {A B A' : Option Addr} {c d c' : Nat} {l : List (List Do)} {o q1 : List Int} {q2 q3 : Int} (h : ExIn w A B c d l o) (hp : PIn w A' c' l) (hq : runT l o = (q1, q2, q3)) :
    Calls Try.prog 19 #[.slice A' l.length c', .slice B o.length d] w fun e w' => e = .returned (.tuple #[.agg (ints q1).toArray, .int .i64 q2, .int .i64 q3]) ∧ Below w.heap.size w w' := by
  refine (runE A' B c' d l o w hp h.row (by have := h.len; unfold maxLen; omega)).mono ?_
  rintro e w' ⟨he, hb⟩
  rw [hq] at he
  exact ⟨he, hb⟩
theorem ExIn.steps {w : World} {A B A' : Option Addr} {c d c' : Nat} {l : List (List Do)} {o : List Int} {xs : List (Int × Int × Int)} {n : Int} (h : ExIn w A B c d l o) (hp : PIn w A' c' l) (hq : stepsT l o = (xs, n)) :
    Calls Try.prog 21 #[.slice A' l.length c', .slice B o.length d] w fun e w' => ∃ A2 c2, e = .returned (.tuple #[.slice A2 xs.length c2, .int .i64 n]) ∧ Row w' w'.heap.size A2 (flat ptC xs) ∧ xs.length ≤ c2 ∧ c2 ≤ maxLen ∧ Below w.heap.size w w' := by
  refine (stepsE A' B c' d l o w hp h.row h.len).mono ?_
  rintro e w' ⟨v, he, ho, hb⟩
  rw [hq] at he ho
  obtain ⟨A2, c2, rfl, h1, h2, h3, _⟩ := row_of_own_any ho
  exact ⟨A2, c2, he, h1, h2, h3, hb⟩

set_option maxRecDepth 100000 in
set_option maxHeartbeats 4000000 in
theorem exploreRuns_bad (A B : Option Addr) (c d : Nat) (l : List (List Do)) (o : List Int) (W : World) (h : ExIn W A B c d l o) (hp : progBad l ≠ 0) :
    Calls Try.prog 4 #[.slice A l.length c, .slice B o.length d] W fun e w' => e = .returned (.bool true) ∧ Below W.heap.size W w' := by
  have H := Lib.hid h
  have HRF := Lib.hid (run_first W)
  have HRT := Lib.hid (runT_bad o hp)
  have HST := Lib.hid (show stepsT l o = ([], progBad l) by rw [stepsT, if_neg hp])
  obtain ⟨pb, hpb⟩ : ∃ pb, progBad l = pb := ⟨_, rfl⟩
  rw [hpb] at hp HRT HST
  have HPB := Lib.hid hpb
  have q1 : (pb != 0) = true := by simpa using hp
  have HEQ := Lib.hid (fun w => eq_st w zeroS rfl)
  clear h hp hpb
  go_enter Try.func4, Try.ntmps4
  go_wp2_with fail
  refine HRF.out.mono ?_
  rintro e w1 ⟨rfl, hb1⟩
  have HB1 := Lib.hid (hb1.alloc hb1.size (.cells #[.int .i64 3, .int .i64 0, .int .i64 0, .int .i64 0, .int .i64 0, .int .i64 0, .int .i64 0, .int .i64 0, .int .i64 1, .int .i64 0, .int .i64 0, .int .i64 0] 36))
  have hws1 := hb1.size
  clear hb1 HRF
  go_wp2_with fail
  refine (progsC A c l _ (H.out.pin.below HB1.out)).mono ?_
  rintro e w2 ⟨A', c', rfl, hp2, hb2⟩
  have HB2 := Lib.hid (HB1.out.trans (hb2.mono HB1.out.size))
  have HP2 := Lib.hid hp2
  clear hb2 hp2
  go_wp2_with fail
  refine ((H.out.below HB2.out).run HP2.out HRT.out).mono ?_
  rintro e w3 ⟨rfl, hb3⟩
  have HB3 := Lib.hid (HB2.out.trans (hb3.mono HB2.out.size))
  have HBX3 := Lib.hid (Box.new w3 36 #[.int .i64 0, .int .i64 0, .int .i64 0, .int .i64 0, .int .i64 0, .int .i64 0, .int .i64 0, .int .i64 0, .int .i64 0, .int .i64 0, .int .i64 0, .int .i64 0])
  have HB4 := Lib.hid (HB3.out.alloc HB3.out.size (.cells #[.int .i64 0, .int .i64 0, .int .i64 0, .int .i64 0, .int .i64 0, .int .i64 0, .int .i64 0, .int .i64 0, .int .i64 0, .int .i64 0, .int .i64 0, .int .i64 0] 36))
  have HP4 := Lib.hid ((HP2.out.below hb3).below ((Below.refl _ _).alloc (Nat.le_refl _) (.cells #[.int .i64 0, .int .i64 0, .int .i64 0, .int .i64 0, .int .i64 0, .int .i64 0, .int .i64 0, .int .i64 0, .int .i64 0, .int .i64 0, .int .i64 0, .int .i64 0] 36)))
  clear hb3
  simp only [ints, zeroS, List.map_cons, List.map_nil]
  go_wp2_with fail
  refine ((H.out.below HB4.out).steps HP4.out HST.out).mono ?_
  rintro e w5 ⟨A5, c5, rfl, _, _, _, hb5⟩
  have HB5 := Lib.hid (HB4.out.trans (hb5.mono HB4.out.size))
  have HBX5 := Lib.hid (HBX3.out.below hb5 (by simp))
  have HP5 := Lib.hid (HP4.out.below hb5)
  clear hb5
  go_wp2_with fail
  refine (progsR A c l _ (H.out.pin.below HB5.out)).mono ?_
  rintro e w6 ⟨rfl, hb6⟩
  have HB6 := Lib.hid (HB5.out.trans (hb6.mono HB5.out.size))
  have HBX6 := Lib.hid (HBX5.out.below hb6 HBX5.out.lt)
  have HP6 := Lib.hid (HP5.out.below hb6)
  clear hb6
  rw [HPB.out]
  go_wp2_with fail
  refine (checkE A' c' l _ HP6.out).mono ?_
  rintro e w7 ⟨rfl, hb7⟩
  have HB7 := Lib.hid (HB6.out.trans (hb7.mono HB6.out.size))
  obtain ⟨k0, k1, k2, k3, k4, k5, k6, k7, k8, k9, k10, k11⟩ := cells12 (HBX6.out.below hb7 HBX6.out.lt)
  clear hb7
  rw [HPB.out]
  go_upto_region 11 with fail
  have heq : ∀ w, (binOp .eql 36 (.agg #[.int .i64 0, .int .i64 0, .int .i64 0, .int .i64 0, .int .i64 0, .int .i64 0, .int .i64 0, .int .i64 0, .int .i64 0, .int .i64 0, .int .i64 0, .int .i64 0]) (.agg #[.int .i64 0, .int .i64 0, .int .i64 0, .int .i64 0, .int .i64 0, .int .i64 0, .int .i64 0, .int .i64 0, .int .i64 0, .int .i64 0, .int .i64 0, .int .i64 0])).run Try.prog w = .ok (.bool true) w := HEQ.out
  go_wp2_with fail
  go_ret
  exact ⟨rfl, HB7.out⟩
end Go.Proofs.Ytcmkkfpcdebfkaa
