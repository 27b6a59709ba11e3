/-
  Package turn's jobs: checkJobs.
-/
import Derived.Test.YtjblfkoepedhpaaJob
import Derived.Test.YtjblfkoepedhpaaPlanLaw
import Derived.Test.YtjblfkoepedhpaaQueue
import Derived.IntWalk
namespace Go.Proofs.Ytjblfkoepedhpaa
open Go.RowKit

theorem enters_cj1 : Enters 129 := fun _ _ => by kernel_rfl
theorem enters_tp1 : Enters 58 := fun _ _ => by kernel_rfl
theorem enters_tp2 : Enters 60 := fun _ _ => by kernel_rfl

set_option maxHeartbeats 400000 in
theorem cj1_any (x : Int × Int) (g : Nat) (id : Int) (w : World) (h : w.cell? ⟨g, 0, none⟩ = some (.int .i64 id)) :
    Calls Try.prog 129 #[jobV x, .pointer (some ⟨g, 0, none⟩)] w fun e w' => e = .returned (.bool (x.1 == id)) ∧ Below w.heap.size w w' := by
  have hg : ∀ o, (w.alloc o).cell? ⟨g, 0, none⟩ = some (.int .i64 id) := fun o => (World.cell?_alloc_lt w o ⟨g, 0, none⟩ (lt_of_cell h)).trans h
  unfold jobV
  go_enter Try.func129, Try.ntmps129
  go_wp2_with fail
  go_ret
  exact ⟨rfl, (Below.refl _ _).alloc (Nat.le_refl _) _⟩
set_option maxHeartbeats 400000 in
theorem tp2_any (x : Int × Int) (g : Nat) (id : Int) (w : World) (h : w.cell? ⟨g, 0, none⟩ = some (.int .i64 id)) :
    Calls Try.prog 60 #[jobV x, .pointer (some ⟨g, 0, none⟩)] w fun e w' => e = .returned (.bool (x.1 == id)) ∧ Below w.heap.size w w' := by
  have hg : ∀ o, (w.alloc o).cell? ⟨g, 0, none⟩ = some (.int .i64 id) := fun o => (World.cell?_alloc_lt w o ⟨g, 0, none⟩ (lt_of_cell h)).trans h
  unfold jobV
  go_enter Try.func60, Try.ntmps60
  go_wp2_with fail
  go_ret
  exact ⟨rfl, (Below.refl _ _).alloc (Nat.le_refl _) _⟩
set_option maxHeartbeats 400000 in
theorem tp1_any (x : Int × Int) (w : World) :
    Calls Try.prog 58 #[jobV x] w fun e w' => e = .returned (.bool (decide (200 < x.2 ∧ x.2 ≤ 10000))) ∧ Below w.heap.size w w' := by
  unfold jobV
  by_cases h1 : 200 < x.2
  · have d1 : decide (200 < x.2) = true := by simp; omega
    by_cases h2 : x.2 ≤ 10000
    · have d2 : decide (x.2 ≤ 10000) = true := by simp; omega
      rw [show decide (200 < x.2 ∧ x.2 ≤ 10000) = true by simp; omega]
      go_enter Try.func58, Try.ntmps58
      go_wp2_with fail
      go_ret
      exact ⟨rfl, (Below.refl _ _).alloc (Nat.le_refl _) _⟩
    · have d2 : decide (x.2 ≤ 10000) = false := by simp; omega
      rw [show decide (200 < x.2 ∧ x.2 ≤ 10000) = false by simp; omega]
      go_enter Try.func58, Try.ntmps58
      go_wp2_with fail
      go_ret
      exact ⟨rfl, (Below.refl _ _).alloc (Nat.le_refl _) _⟩
  · have d1 : decide (200 < x.2) = false := by simp; omega
    rw [show decide (200 < x.2 ∧ x.2 ≤ 10000) = false by simp; omega]
    go_enter Try.func58, Try.ntmps58
    go_wp2_with fail
    go_ret
    exact ⟨rfl, (Below.refl _ _).alloc (Nat.le_refl _) _⟩

/-- The tests over the first k jobs, whether there is one of that id: made of either closure. -/
theorem seen_any (fid : FuncId) (he : Enters fid) (hf : ∀ (x : Int × Int) (g : Nat) (id : Int) (w : World), w.cell? ⟨g, 0, none⟩ = some (.int .i64 id) → Calls Try.prog fid #[jobV x, .pointer (some ⟨g, 0, none⟩)] w fun e w' => e = .returned (.bool (x.1 == id)) ∧ Below w.heap.size w w')
    (A : Option Addr) (c k : Nat) (l : List (Int × Int)) (g : Nat) (id : Int) (W : World) (hr : Row W W.heap.size A (flat jobC l)) (hk : k ≤ l.length) (hm : l.length ≤ maxLen) (hg : W.cell? ⟨g, 0, none⟩ = some (.int .i64 id)) :
    Calls Try.prog 57 #[.slice A k c, .func (.func fid) #[] #[.pointer (some ⟨g, 0, none⟩)]] W fun e w' => e = .returned (.bool ((l.take k).any fun x => x.1 == id)) ∧ Below W.heap.size W w' := by
  have e : (l.take k).length = k := by simp; omega
  have hgl := lt_of_cell hg
  have HC := containsFunc_job A c (l.take k) fid #[.pointer (some ⟨g, 0, none⟩)] (fun x => x.1 == id) W.heap.size (fun w => Below W.heap.size W w) W he (by omega) (fun w hw => (hr.below hw).takeF jobC_len k)
    (fun x _ w hw => (hf x g id w ((hw.cell (p := ⟨g, 0, none⟩) hgl).trans hg)).mono fun e w' ⟨h1, h2⟩ => ⟨h1, hw.trans (h2.mono hw.size)⟩) (Below.refl _ _)
  rw [e] at HC
  exact HC

theorem jobsF_step (l : List (Int × Int)) (k : Nat) (h : k < l.length) :
    jobsF (l.take k) (l.drop k) = if (l.getD k (0, 0)).2 < 1 ∨ 10000 < (l.getD k (0, 0)).2 then 1 else if (l.take k).any (fun x => x.1 == (l.getD k (0, 0)).1) then 5 else jobsF (l.take (k + 1)) (l.drop (k + 1)) := by
  rw [drop_getD l (0, 0) h, take_getD l (0, 0) h]
  rfl

set_option maxRecDepth 100000 in
set_option maxHeartbeats 1000000 in
theorem checkJobs_any (A : Option Addr) (c : Nat) (l : List (Int × Int)) (f : Int) (w : World) (hr : Row w w.heap.size A (flat jobC l)) (hlc : l.length ≤ c) (hm : c ≤ maxLen) :
    Calls Try.prog 110 #[.slice A l.length c, .int .i64 f] w fun e w' => e = .returned (.int .i64 (planF l f)) ∧ Below w.heap.size w w' := by
  have HM := Lib.hid hm
  unfold maxLen at hm
  unfold planF
  by_cases hl : 100 < l.length
  · rw [if_pos hl]
    go_enter Try.func110, Try.ntmps110
    go_wp2_with fail
    go_ret
    exact ⟨rfl, Below.refl _ _⟩
  rw [if_neg hl]
  by_cases hf : f < 1 ∨ 10000 < f
  · rw [if_pos hf]
    by_cases hf1 : f < 1
    · have d1 : decide (f < 1) = true := by simp; omega
      go_enter Try.func110, Try.ntmps110
      go_wp2_with fail
      go_ret
      exact ⟨rfl, Below.refl _ _⟩
    · have d1 : decide (f < 1) = false := by simp; omega
      have d2 : decide (10000 < f) = true := by simp; omega
      clear hf
      go_enter Try.func110, Try.ntmps110
      go_wp2_with fail
      go_ret
      exact ⟨rfl, Below.refl _ _⟩
  rw [if_neg hf]
  have d1 : decide (f < 1) = false := by simp; omega
  have d2 : decide (10000 < f) = false := by simp; omega
  clear hf
  go_enter Try.func110, Try.ntmps110
  go_wp2_with fail
  go_loopw [20] (fun i wr => ∃ k : Nat, k ≤ l.length ∧ i = .int .i64 k ∧ Hid (jobsF [] l = jobsF (l.take k) (l.drop k)) ∧ Below w.heap.size w wr) (fun i _ => l.length - (intOf i).toNat)
  case atStart => exact ⟨0, by omega, rfl, rfl, Below.refl _ _⟩
  case round =>
    obtain ⟨k, hk, rfl, HK, hb⟩ := hrel
    by_cases hlt : k < l.length
    · have hr1 := hr.below hb
      obtain ⟨b, o, rfl, hbl, hc0, hc1⟩ := hr1.job hlt (0, 0)
      have HS := Lib.hid (jobsF_step l k hlt)
      generalize l.getD k (0, 0) = x at *
      have hkc : (k : Int) ≤ (c : Int) := by omega
      have hw1 : Below w.heap.size w (wr.alloc (.cells #[.int .i64 x.1, .int .i64 x.2] 83)) := hb.alloc hb.size _
      by_cases h1 : x.2 < 1
      · have e1 : decide (x.2 < 1) = true := by simp; omega
        go_wp2_with fail
        go_ret
        refine ⟨?_, hw1⟩
        rw [HK.out, HS.out, if_pos (.inl h1)]
        rfl
      have e1 : decide (x.2 < 1) = false := by simp; omega
      by_cases h2 : 10000 < x.2
      · have e2 : decide (10000 < x.2) = true := by simp; omega
        go_wp2_with fail
        go_ret
        refine ⟨?_, hw1⟩
        rw [HK.out, HS.out, if_pos (.inr h2)]
        rfl
      have e2 : decide (10000 < x.2) = false := by simp; omega
      have HT := Lib.hid (seen_any 129 enters_cj1 cj1_any (some ⟨b, o, none⟩) c k l wr.heap.size x.1 (wr.alloc (.cells #[.int .i64 x.1, .int .i64 x.2] 83)) ((hr.below hw1).more hw1.size) hk (by have := HM.out; omega) ((Box.new _ _ _).cell 0))
      have HX := Lib.hid (show ¬ (x.2 < 1 ∨ 10000 < x.2) by omega)
      go_wp2_with fail
      refine HT.out.mono ?_
      rintro e w2 ⟨rfl, hb2⟩
      have hw2 := hw1.trans (hb2.mono hw1.size)
      have HA := Lib.hid (Eq.refl ((l.take k).any fun y => y.1 == x.1))
      generalize hbq : ((l.take k).any fun y => y.1 == x.1) = bq at *
      have HQ := Lib.hid hbq
      clear hbq HT HA
      cases bq
      · go_wp2_with fail
        go_roundw
        case rel =>
          refine ⟨k + 1, by omega, by go_num, ?_, hw2⟩
          unfold Hid
          rw [HK.out, HS.out, if_neg HX.out]
          simp
        case measure => simp [intOf]; omega
      · go_wp2_with fail
        go_ret
        refine ⟨?_, hw2⟩
        rw [HK.out, HS.out, if_neg HX.out]
        simp
    · obtain rfl : k = l.length := by omega
      go_wp2_with fail
      go_ret
      refine ⟨?_, hb⟩
      rw [HK.out, List.drop_eq_nil_of_le (by omega)]
      rfl
end Go.Proofs.Ytjblfkoepedhpaa
