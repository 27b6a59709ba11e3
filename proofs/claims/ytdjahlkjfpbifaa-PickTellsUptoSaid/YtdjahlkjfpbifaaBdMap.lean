
/-
  A map of five ints to ints, written as a literal: what it answers.
-/
import Derived.Test.YtdjahlkjfpbifaaIntSet
import Derived.WideMake
namespace Go.Proofs.Ytdjahlkjfpbifaa
open Go.RowKit Go.Maps

/-- The literal's five entries laid one after the other, and what is found then. -/
theorem map5 (w : World) (k1 v1 k2 v2 k3 v3 k4 v4 k5 v5 : Int) (h1 : I64 k1) (h2 : I64 k2) (h3 : I64 k3) (h4 : I64 k4) (h5 : I64 k5) : ∃ m1 m2 m3 m4 m5 : World,
    (Instr.mapUpdate 110 (.map (some w.heap.size)) (.int .i64 k1) (.int .i64 v1)).run Try.prog (w.alloc (.map #[] 0)) = .ok () m1 ∧
    (Instr.mapUpdate 110 (.map (some w.heap.size)) (.int .i64 k2) (.int .i64 v2)).run Try.prog m1 = .ok () m2 ∧
    (Instr.mapUpdate 110 (.map (some w.heap.size)) (.int .i64 k3) (.int .i64 v3)).run Try.prog m2 = .ok () m3 ∧
    (Instr.mapUpdate 110 (.map (some w.heap.size)) (.int .i64 k4) (.int .i64 v4)).run Try.prog m3 = .ok () m4 ∧
    (Instr.mapUpdate 110 (.map (some w.heap.size)) (.int .i64 k5) (.int .i64 v5)).run Try.prog m4 = .ok () m5 ∧ Below w.heap.size w m5 ∧
    ∀ k, I64 k → (Instr.lookup 110 (.map (some w.heap.size)) (.int .i64 k) false).run Try.prog m5 = .ok (.int .i64 (if k = k5 then v5 else if k = k4 then v4 else if k = k3 then v3 else if k = k2 then v2 else if k = k1 then v1 else 0)) m5 := by
  have s0 : MapV intL Try.prog 3 (w.alloc (.map #[] 0)) w.heap.size 0 (fun _ => none) := MapV.made w
  obtain ⟨m1, r1, s1, g1⟩ := s0.put ints_keyed Try.underlying110 (by unfold maxLen; omega) intL_inj intL_key (int_key h1) (.int .i64 v1)
  obtain ⟨m2, r2, s2, g2⟩ := s1.put ints_keyed Try.underlying110 (by unfold maxLen; omega) intL_inj intL_key (int_key h2) (.int .i64 v2)
  obtain ⟨m3, r3, s3, g3⟩ := s2.put ints_keyed Try.underlying110 (by unfold maxLen; omega) intL_inj intL_key (int_key h3) (.int .i64 v3)
  obtain ⟨m4, r4, s4, g4⟩ := s3.put ints_keyed Try.underlying110 (by unfold maxLen; omega) intL_inj intL_key (int_key h4) (.int .i64 v4)
  obtain ⟨m5, r5, s5, g5⟩ := s4.put ints_keyed Try.underlying110 (by unfold maxLen; omega) intL_inj intL_key (int_key h5) (.int .i64 v5)
  have hq : ∀ q, some w.heap.size = some q → w.heap.size ≤ q := fun q e => by injection e with e; omega
  have b0 : Below w.heap.size w (w.alloc (.map #[] 0)) := (Below.refl _ _).alloc (Nat.le_refl _) _
  have z0 : w.heap.size ≤ (w.alloc (.map #[] 0)).heap.size := by simp
  have b1 := b0.grown g1 z0 hq
  have b2 := b1.grown g2 b1.size hq
  have b3 := b2.grown g3 b2.size hq
  have b4 := b3.grown g4 b3.size hq
  have b5 := b4.grown g5 b4.size hq
  refine ⟨m1, m2, m3, m4, m5, r1, r2, r3, r4, r5, b5, fun k hk => ?_⟩
  rw [s5.look ints_keyed Try.underlying110 (zero_intS m5) (int_key hk)]
  refine congrArg (fun v => Result.ok v m5) ?_
  by_cases e5 : k = k5
  · rw [if_pos e5, if_pos e5]
    rfl
  by_cases e4 : k = k4
  · rw [if_neg e5, if_pos e4, if_neg e5, if_pos e4]
    rfl
  by_cases e3 : k = k3
  · rw [if_neg e5, if_neg e4, if_pos e3, if_neg e5, if_neg e4, if_pos e3]
    rfl
  by_cases e2 : k = k2
  · rw [if_neg e5, if_neg e4, if_neg e3, if_pos e2, if_neg e5, if_neg e4, if_neg e3, if_pos e2]
    rfl
  by_cases e1 : k = k1
  · rw [if_neg e5, if_neg e4, if_neg e3, if_neg e2, if_pos e1, if_neg e5, if_neg e4, if_neg e3, if_neg e2, if_pos e1]
    rfl
  · rw [if_neg e5, if_neg e4, if_neg e3, if_neg e2, if_neg e1, if_neg e5, if_neg e4, if_neg e3, if_neg e2, if_neg e1]
    rfl
end Go.Proofs.Ytdjahlkjfpbifaa
