
/-
  Which objects are valid (heap.valid, roadref3.ObjectIs).
-/
import Derived.Test.YtdjahlkjfpbifaaOcRow
import Derived.IntWalk
import Derived.Outline
import Derived.Deep.LoopGhost
namespace Go.Proofs.Ytdjahlkjfpbifaa
open Go.RowKit

set_option maxRecDepth 100000 in
theorem hasNum_any (k : Int) (w : World) : Calls Try.prog 167 #[.int .i64 k] w fun e w' => e = .returned (.bool (isNum k)) ∧ w = w' := by
  by_cases h1 : k = 1
  · subst h1
    go_enter Try.func167, Try.ntmps167
    go_wp2_with fail
    go_ret
    exact ⟨rfl, rfl⟩
  have q1 : (k == 1) = false := by simp [h1]
  have HK := Lib.hid (show isNum k = (k == 4) by simp [isNum, h1])
  generalize isNum k = b at *
  clear h1
  go_enter Try.func167, Try.ntmps167
  go_wp2_with fail
  go_ret
  exact ⟨by rw [HK.out]; rfl, rfl⟩

theorem str_nil (l : List UInt8) : ((⟨l.toArray⟩ : ByteArray) == ⟨#[]⟩) = decide (l.length = 0) := by
  cases l <;> rfl

set_option maxRecDepth 100000 in
set_option maxHeartbeats 4000000 in
theorem hvalid_any (x : OC) (w : World) : Calls Try.prog 168 #[ocV x] w fun e w' => e = .returned (.bool (decide (OkO x.o))) ∧ Below w.heap.size w w' := by
  obtain ⟨⟨o1, k, o3, tx, ps⟩, A, c⟩ := x
  unfold ocV
  dsimp only
  by_cases h1 : k = 1
  · subst h1
    have HB := Lib.hid ((Below.refl w.heap.size w).alloc (Nat.le_refl _) (.cells #[.int .i64 o1, .int .i64 1, .int .i64 o3, .string ⟨tx.toArray⟩, .slice A ps.length c] 113))
    go_enter Try.func168, Try.ntmps168
    go_wp2_with (go_at_call 167; refine (hasNum_any _ _).mono ?_; rintro e wk ⟨rfl, rfl⟩)
    all_goals go_ret
    all_goals refine ⟨congrArg (fun b => Ending.returned (Value.bool b)) (?_ : _ = decide (OkO _)), ?_⟩
    all_goals subst_vars
    all_goals first | exact HB.out | exact below_drewN HB.out _ | skip
    all_goals simp [OkO, isNum, *]
    all_goals omega
  by_cases h2 : k = 2
  · subst h2
    have HB := Lib.hid ((Below.refl w.heap.size w).alloc (Nat.le_refl _) (.cells #[.int .i64 o1, .int .i64 2, .int .i64 o3, .string ⟨tx.toArray⟩, .slice A ps.length c] 113))
    go_enter Try.func168, Try.ntmps168
    go_wp2_with (go_at_call 167; refine (hasNum_any _ _).mono ?_; rintro e wk ⟨rfl, rfl⟩)
    all_goals go_ret
    all_goals refine ⟨congrArg (fun b => Ending.returned (Value.bool b)) (?_ : _ = decide (OkO _)), ?_⟩
    all_goals subst_vars
    all_goals first | exact HB.out | exact below_drewN HB.out _ | skip
    all_goals simp [OkO, isNum, *]
    all_goals omega
  by_cases h3 : k = 3
  · subst h3
    have HB := Lib.hid ((Below.refl w.heap.size w).alloc (Nat.le_refl _) (.cells #[.int .i64 o1, .int .i64 3, .int .i64 o3, .string ⟨tx.toArray⟩, .slice A ps.length c] 113))
    go_enter Try.func168, Try.ntmps168
    go_wp2_with (go_at_call 167; refine (hasNum_any _ _).mono ?_; rintro e wk ⟨rfl, rfl⟩)
    all_goals go_ret
    all_goals refine ⟨congrArg (fun b => Ending.returned (Value.bool b)) (?_ : _ = decide (OkO _)), ?_⟩
    all_goals subst_vars
    all_goals first | exact HB.out | exact below_drewN HB.out _ | skip
    all_goals simp [OkO, isNum, *]
    all_goals omega
  by_cases h4 : k = 4
  · subst h4
    have HB := Lib.hid ((Below.refl w.heap.size w).alloc (Nat.le_refl _) (.cells #[.int .i64 o1, .int .i64 4, .int .i64 o3, .string ⟨tx.toArray⟩, .slice A ps.length c] 113))
    go_enter Try.func168, Try.ntmps168
    go_wp2_with (go_at_call 167; refine (hasNum_any _ _).mono ?_; rintro e wk ⟨rfl, rfl⟩)
    all_goals go_ret
    all_goals refine ⟨congrArg (fun b => Ending.returned (Value.bool b)) (?_ : _ = decide (OkO _)), ?_⟩
    all_goals subst_vars
    all_goals first | exact HB.out | exact below_drewN HB.out _ | skip
    all_goals simp [OkO, isNum, *]
    all_goals omega
  by_cases h5 : k = 5
  · subst h5
    have HB := Lib.hid ((Below.refl w.heap.size w).alloc (Nat.le_refl _) (.cells #[.int .i64 o1, .int .i64 5, .int .i64 o3, .string ⟨tx.toArray⟩, .slice A ps.length c] 113))
    go_enter Try.func168, Try.ntmps168
    go_wp2_with (go_at_call 167; refine (hasNum_any _ _).mono ?_; rintro e wk ⟨rfl, rfl⟩)
    all_goals go_ret
    all_goals refine ⟨congrArg (fun b => Ending.returned (Value.bool b)) (?_ : _ = decide (OkO _)), ?_⟩
    all_goals subst_vars
    all_goals first | exact HB.out | exact below_drewN HB.out _ | skip
    all_goals simp [OkO, isNum, *]
    all_goals omega
  have q1 : (k == 1) = false := by simp [h1]
  have q2 : (k == 2) = false := by simp [h2]
  have q3 : (k == 3) = false := by simp [h3]
  have q4 : (k == 4) = false := by simp [h4]
  have q5 : (k == 5) = false := by simp [h5]
  · have HB := Lib.hid ((Below.refl w.heap.size w).alloc (Nat.le_refl _) (.cells #[.int .i64 o1, .int .i64 k, .int .i64 o3, .string ⟨tx.toArray⟩, .slice A ps.length c] 113))
    go_enter Try.func168, Try.ntmps168
    go_wp2_with (go_at_call 167; refine (hasNum_any _ _).mono ?_; rintro e wk ⟨rfl, rfl⟩)
    all_goals go_ret
    all_goals refine ⟨congrArg (fun b => Ending.returned (Value.bool b)) (?_ : _ = decide (OkO _)), ?_⟩
    all_goals subst_vars
    all_goals first | exact HB.out | exact below_drewN HB.out _ | skip
    all_goals simp [OkO, *]
    all_goals omega

set_option maxRecDepth 100000 in
theorem hin_any (n a b : Int) (w : World) : Calls Try.prog 63 #[.int .i64 n, .int .i64 a, .int .i64 b] w fun e w' => e = .returned (.bool (decide (a ≤ n ∧ n ≤ b))) ∧ w = w' := by
  by_cases h1 : a ≤ n
  · have q1 : decide (a ≤ n) = true := decide_eq_true h1
    have HK := Lib.hid (show decide (a ≤ n ∧ n ≤ b) = decide (n ≤ b) by simp [h1])
    clear h1
    go_enter Try.func63, Try.ntmps63
    go_wp2_with fail
    all_goals go_ret
    exact ⟨by rw [HK.out]; rfl, rfl⟩
  · have q1 : decide (a ≤ n) = false := decide_eq_false h1
    have HK := Lib.hid (show decide (a ≤ n ∧ n ≤ b) = false by simp [h1])
    clear h1
    go_enter Try.func63, Try.ntmps63
    go_wp2_with fail
    all_goals go_ret
    exact ⟨by rw [HK.out]; rfl, rfl⟩

set_option maxRecDepth 100000 in
set_option maxHeartbeats 4000000 in
theorem objectIs_any (x : OC) (w : World) : Calls Try.prog 98 #[ocV x] w fun e w' => e = .returned (.bool (decide (OkO x.o))) ∧ Below w.heap.size w w' := by
  obtain ⟨⟨o1, k, o3, tx, ps⟩, A, c⟩ := x
  unfold ocV
  dsimp only
  by_cases h1 : k = 1
  · subst h1
    have HB := Lib.hid ((Below.refl w.heap.size w).alloc (Nat.le_refl _) (.cells #[.int .i64 o1, .int .i64 1, .int .i64 o3, .string ⟨tx.toArray⟩, .slice A ps.length c] 113))
    have HI := Lib.hid (hin_any 1 1 5)
    rw [show decide ((1 : Int) ≤ 1 ∧ 1 ≤ (5 : Int)) = true by decide] at HI
    go_enter Try.func98, Try.ntmps98
    go_wp2_with fail
    go_quiet (fail)
    go_wp2_with (go_at_call 63; refine (HI.out _).mono ?_; rintro e wk ⟨rfl, rfl⟩)
    all_goals go_ret
    all_goals refine ⟨congrArg (fun b => Ending.returned (Value.bool b)) (?_ : _ = decide (OkO _)), ?_⟩
    all_goals subst_vars
    all_goals first | exact HB.out | exact below_drewN HB.out _ | skip
    all_goals simp [OkO, *]
    all_goals first | omega | (intro _ _ h; subst h; simp at *; done) | (cases ps <;> simp_all <;> omega)
  by_cases h2 : k = 2
  · subst h2
    have HB := Lib.hid ((Below.refl w.heap.size w).alloc (Nat.le_refl _) (.cells #[.int .i64 o1, .int .i64 2, .int .i64 o3, .string ⟨tx.toArray⟩, .slice A ps.length c] 113))
    have HI := Lib.hid (hin_any 2 1 5)
    rw [show decide ((1 : Int) ≤ 2 ∧ 2 ≤ (5 : Int)) = true by decide] at HI
    go_enter Try.func98, Try.ntmps98
    go_wp2_with fail
    go_quiet (fail)
    go_wp2_with (go_at_call 63; refine (HI.out _).mono ?_; rintro e wk ⟨rfl, rfl⟩)
    all_goals go_ret
    all_goals refine ⟨congrArg (fun b => Ending.returned (Value.bool b)) (?_ : _ = decide (OkO _)), ?_⟩
    all_goals subst_vars
    all_goals first | exact HB.out | exact below_drewN HB.out _ | skip
    all_goals simp [OkO, *]
    all_goals first | omega | (intro _ _ h; subst h; simp at *; done) | (cases ps <;> simp_all <;> omega)
  by_cases h3 : k = 3
  · subst h3
    have HB := Lib.hid ((Below.refl w.heap.size w).alloc (Nat.le_refl _) (.cells #[.int .i64 o1, .int .i64 3, .int .i64 o3, .string ⟨tx.toArray⟩, .slice A ps.length c] 113))
    have HI := Lib.hid (hin_any 3 1 5)
    rw [show decide ((1 : Int) ≤ 3 ∧ 3 ≤ (5 : Int)) = true by decide] at HI
    go_enter Try.func98, Try.ntmps98
    go_wp2_with fail
    go_quiet (fail)
    go_wp2_with (go_at_call 63; refine (HI.out _).mono ?_; rintro e wk ⟨rfl, rfl⟩)
    all_goals go_ret
    all_goals refine ⟨congrArg (fun b => Ending.returned (Value.bool b)) (?_ : _ = decide (OkO _)), ?_⟩
    all_goals subst_vars
    all_goals first | exact HB.out | exact below_drewN HB.out _ | skip
    all_goals simp [OkO, *]
    all_goals first | omega | (intro _ _ h; subst h; simp at *; done) | (cases ps <;> simp_all <;> omega)
  by_cases h4 : k = 4
  · subst h4
    have HB := Lib.hid ((Below.refl w.heap.size w).alloc (Nat.le_refl _) (.cells #[.int .i64 o1, .int .i64 4, .int .i64 o3, .string ⟨tx.toArray⟩, .slice A ps.length c] 113))
    have HI := Lib.hid (hin_any 4 1 5)
    rw [show decide ((1 : Int) ≤ 4 ∧ 4 ≤ (5 : Int)) = true by decide] at HI
    go_enter Try.func98, Try.ntmps98
    go_wp2_with fail
    go_quiet (fail)
    go_wp2_with (go_at_call 63; refine (HI.out _).mono ?_; rintro e wk ⟨rfl, rfl⟩)
    all_goals go_ret
    all_goals refine ⟨congrArg (fun b => Ending.returned (Value.bool b)) (?_ : _ = decide (OkO _)), ?_⟩
    all_goals subst_vars
    all_goals first | exact HB.out | exact below_drewN HB.out _ | skip
    all_goals simp [OkO, *]
    all_goals first | omega | (intro _ _ h; subst h; simp at *; done) | (cases ps <;> simp_all <;> omega)
  by_cases h5 : k = 5
  · subst h5
    have HB := Lib.hid ((Below.refl w.heap.size w).alloc (Nat.le_refl _) (.cells #[.int .i64 o1, .int .i64 5, .int .i64 o3, .string ⟨tx.toArray⟩, .slice A ps.length c] 113))
    have HI := Lib.hid (hin_any 5 1 5)
    rw [show decide ((1 : Int) ≤ 5 ∧ 5 ≤ (5 : Int)) = true by decide] at HI
    go_enter Try.func98, Try.ntmps98
    go_wp2_with fail
    go_quiet (fail)
    go_wp2_with (go_at_call 63; refine (HI.out _).mono ?_; rintro e wk ⟨rfl, rfl⟩)
    all_goals go_ret
    all_goals refine ⟨congrArg (fun b => Ending.returned (Value.bool b)) (?_ : _ = decide (OkO _)), ?_⟩
    all_goals subst_vars
    all_goals first | exact HB.out | exact below_drewN HB.out _ | skip
    all_goals simp [OkO, *]
    all_goals first | omega | (intro _ _ h; subst h; simp at *; done) | (cases ps <;> simp_all <;> omega)
  have q1 : (k == 1) = false := by simp [h1]
  have q2 : (k == 2) = false := by simp [h2]
  have q3 : (k == 3) = false := by simp [h3]
  have q4 : (k == 4) = false := by simp [h4]
  have q5 : (k == 5) = false := by simp [h5]
  · have HB := Lib.hid ((Below.refl w.heap.size w).alloc (Nat.le_refl _) (.cells #[.int .i64 o1, .int .i64 k, .int .i64 o3, .string ⟨tx.toArray⟩, .slice A ps.length c] 113))
    have HI := Lib.hid (hin_any k 1 5)
    rw [show decide ((1 : Int) ≤ k ∧ k ≤ (5 : Int)) = false by simp; omega] at HI
    go_enter Try.func98, Try.ntmps98
    go_wp2_with fail
    go_quiet (fail)
    go_wp2_with (go_at_call 63; refine (HI.out _).mono ?_; rintro e wk ⟨rfl, rfl⟩)
    all_goals go_ret
    all_goals refine ⟨congrArg (fun b => Ending.returned (Value.bool b)) (?_ : _ = decide (OkO _)), ?_⟩
    all_goals subst_vars
    all_goals first | exact HB.out | exact below_drewN HB.out _ | skip
    all_goals simp [OkO, *]
    all_goals first | omega | (intro _ _ h; subst h; simp at *; done) | (cases ps <;> simp_all <;> omega)
end Go.Proofs.Ytdjahlkjfpbifaa
