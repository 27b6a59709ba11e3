/-
  Lines: what stays right; pairs compared.
-/
import Derived.Test.YtaecgapoaagjfaaPrRow
namespace Go.Proofs.Ytaecgapoaagjfaa
open Go.RowKit

theorem lineF_iff : ∀ (ts seen : List Int), seen.Nodup → (∀ s, lineF seen ts = some s → s = seen ++ ts ∧ (seen ++ ts).Nodup) ∧ (lineF seen ts = none → ¬ (seen ++ ts).Nodup)
  | [], seen, hs => ⟨fun s h => by rw [lineF] at h; injection h with h; rw [← h, List.append_nil]; exact ⟨rfl, hs⟩, fun h => by rw [lineF] at h; cases h⟩
  | t :: ts, seen, hs => by
    by_cases e : seen.contains t = true
    · rw [lineF, if_pos e]
      refine ⟨(fun s h => by cases h), fun _ hn => ?_⟩
      rw [List.contains_iff_mem] at e
      exact (List.nodup_append.1 hn).2.2 t e t (by simp) rfl
    · have e' : t ∉ seen := by rw [List.contains_iff_mem] at e; exact e
      have hs' : (seen ++ [t]).Nodup := by
        rw [List.nodup_append]
        exact ⟨hs, by simp, fun a ha b hb => by rw [List.mem_singleton.1 hb]; exact fun e2 => e' (e2 ▸ ha)⟩
      have := lineF_iff ts (seen ++ [t]) hs'
      rw [List.append_assoc, List.singleton_append] at this
      rw [lineF, if_neg e]
      exact this
theorem linesF_iff : ∀ (xs : List (List Int)) (seen : List Int), seen.Nodup → seen.length ≤ 100 → (linesF seen xs = 0 ↔ (seen ++ xs.flatten).length ≤ 100 ∧ (seen ++ xs.flatten).Nodup)
  | [], seen, hs, hl => by rw [linesF]; simp [hs, hl]
  | x :: xs, seen, hs, hl => by
    have hi := lineF_iff x seen hs
    rw [linesF_cons, List.flatten_cons]
    by_cases e : 100 < seen.length + x.length
    · rw [if_pos e]
      simp only [List.length_append]
      constructor
      · intro h; cases h
      · intro h; omega
    · rw [if_neg e]
      unfold contF
      cases hl2 : lineF seen x with
      | none =>
        have := hi.2 hl2
        constructor
        · intro h; cases h
        · intro h
          exact absurd (List.Nodup.sublist (by rw [← List.append_assoc]; exact List.sublist_append_left _ _) h.2) this
      | some s =>
        obtain ⟨rfl, h2⟩ := hi.1 s hl2
        have := linesF_iff xs (seen ++ x) h2 (by rw [List.length_append]; omega)
        rw [List.append_assoc] at this
        exact this
/-- Lines that are right. -/
def Good (vs : List (List Int)) : Prop := (1 ≤ vs.length ∧ vs.length ≤ 8) ∧ vs.flatten.length ≤ 100 ∧ vs.flatten.Nodup
theorem good_iff (vs : List (List Int)) : linesFault vs = 0 ↔ Good vs := by
  unfold linesFault Good
  by_cases e : vs.length < 1 ∨ 8 < vs.length
  · rw [if_pos e]
    constructor
    · intro h; cases h
    · intro h; omega
  · rw [if_neg e, linesF_iff vs [] (by simp) (by simp), List.nil_append]
    constructor
    · intro h; exact ⟨by omega, h⟩
    · intro h; exact h.2
theorem flat_split : ∀ (vs : List (List Int)) (p : Nat) (x : List Int), p < vs.length → (vs.set p x).flatten.Perm (x ++ (vs.set p []).flatten)
  | v :: vs, 0, x, _ => by simp
  | v :: vs, p + 1, x, h => by
    have ih := flat_split vs p x (by simpa using h)
    simp only [List.set_cons_succ, List.flatten_cons]
    refine (List.Perm.append_left v ih).trans ?_
    rw [← List.append_assoc, ← List.append_assoc]
    exact List.Perm.append_right _ List.perm_append_comm
theorem flat_self (vs : List (List Int)) (p : Nat) (h : p < vs.length) : vs.flatten.Perm (vs.getD p [] ++ (vs.set p []).flatten) := by
  have := flat_split vs p (vs.getD p []) h
  rwa [set_same h rfl] at this
theorem Good.stolen {vs : List (List Int)} {p v : Nat} (h : Good vs) (hp : p < vs.length) (hv : v < vs.length) (hpv : p ≠ v) (h0 : vs.getD p [] = []) : Good (stolen vs p v) := by
  have hpm : (Go.Proofs.Ytaecgapoaagjfaa.stolen vs p v).flatten.Perm vs.flatten := by
    unfold Go.Proofs.Ytaecgapoaagjfaa.stolen
    generalize hn : ((vs.getD v []).length + 1) / 2 = n
    refine (flat_split _ v _ (by rw [List.length_set]; exact hv)).trans ?_
    rw [List.set_comm _ _ hpv]
    refine (List.Perm.append_left _ (flat_split (vs.set v []) p _ (by rw [List.length_set]; exact hp))).trans ?_
    have h1 : (vs.set v []).set p [] = vs.set v [] := set_same (by rw [List.length_set]; exact hp) (by rw [getD_setS vs [] v p [] hv, if_neg hpv]; exact h0)
    rw [h1, ← List.append_assoc]
    refine List.Perm.trans ?_ (flat_self vs v hv).symm
    refine List.Perm.append_right _ ?_
    refine List.perm_append_comm.trans ?_
    rw [List.take_append_drop]
  exact ⟨by rw [stolen_len]; exact h.1, by rw [hpm.length_eq]; exact h.2.1, hpm.nodup_iff.2 h.2.2⟩
theorem Good.cut {us : List (List Int)} {p : Nat} (h : Good us) (hp : p < us.length) : Good (cutOf us p) := by
  have h1 := flat_self us p hp
  have h2 := flat_split us p ((us.getD p []).take ((us.getD p []).length - 1)) hp
  have hsub : ((us.getD p []).take ((us.getD p []).length - 1) ++ (us.set p []).flatten).Sublist (us.getD p [] ++ (us.set p []).flatten) := (List.take_sublist _ _).append_right _
  refine ⟨by unfold cutOf; rw [List.length_set]; exact h.1, ?_, ?_⟩
  · have := hsub.length_le
    unfold cutOf
    rw [h2.length_eq]
    rw [← h1.length_eq] at this
    exact Nat.le_trans this h.2.1
  · unfold cutOf
    exact h2.nodup_iff.2 ((h1.nodup_iff.1 h.2.2).sublist hsub)
theorem Good.ready {vs us : List (List Int)} {p : Nat} (h : Good vs) (hp : p < vs.length) (hr : ready vs p = some us) : Good us := by
  unfold Go.Proofs.Ytaecgapoaagjfaa.ready at hr
  by_cases h0 : (vs.getD p []).length = 0
  · rw [if_pos h0] at hr
    by_cases h1 : vicTo vs p (vs.length - 1) < 0
    · rw [if_pos h1] at hr; cases hr
    · rw [if_neg h1] at hr
      injection hr with hr
      subst hr
      rcases vic_spec vs p (vs.length - 1) with ⟨e, _⟩ | ⟨k0, k1, k2, e, _⟩
      · omega
      · rw [e, Int.toNat_natCast]
        exact h.stolen hp (rot_lt hp (by omega)) (fun e2 => rot_ne hp k1 k2 e2.symm) (List.eq_nil_of_length_eq_zero h0)
  · rw [if_neg h0] at hr
    injection hr with hr
    subst hr
    exact h
theorem cutOf_len (us : List (List Int)) (p : Nat) : (cutOf us p).length = us.length := by unfold cutOf; rw [List.length_set]

/-- What a run leaves, behind k turns. -/
def runTo (vs : List (List Int)) (turns : List Int) : Nat → List (List Int) × List (Int × Int)
  | 0 => (vs, [])
  | k + 1 => if 0 ≤ turns.getD k 0 ∧ turns.getD k 0 < (vs.length : Int) then
      (match ready (runTo vs turns k).1 (turns.getD k 0).toNat with
        | none => runTo vs turns k
        | some us => (cutOf us (turns.getD k 0).toNat, (runTo vs turns k).2 ++ [(turns.getD k 0, lastOf us (turns.getD k 0).toNat)]))
    else runTo vs turns k
theorem runTo_good {vs : List (List Int)} (h : Good vs) (turns : List Int) : ∀ k, (runTo vs turns k).1.length = vs.length ∧ Good (runTo vs turns k).1 ∧ (runTo vs turns k).2.length ≤ k
  | 0 => ⟨rfl, h, Nat.le_refl _⟩
  | k + 1 => by
    obtain ⟨h1, h2, h3⟩ := runTo_good h turns k
    rw [runTo]
    by_cases e : 0 ≤ turns.getD k 0 ∧ turns.getD k 0 < (vs.length : Int)
    · rw [if_pos e]
      cases hr : ready (runTo vs turns k).1 (turns.getD k 0).toNat with
      | none => exact ⟨h1, h2, Nat.le_succ_of_le h3⟩
      | some us =>
        have hp : (turns.getD k 0).toNat < (runTo vs turns k).1.length := by rw [h1]; omega
        have hl := ready_some hp hr
        refine ⟨?_, (h2.ready hp hr).cut (by rw [hl.1]; exact hp), ?_⟩
        · show (cutOf us _).length = _
          rw [cutOf_len, hl.1, h1]
        · show ((runTo vs turns k).2 ++ [_]).length ≤ k + 1
          rw [List.length_append]; simp; omega
    · rw [if_neg e]
      exact ⟨h1, h2, by omega⟩
theorem good_cpu {us : List (List Int)} (h : Good us) (cpu : Int) : cpuFault us cpu = if 0 ≤ cpu ∧ cpu < (us.length : Int) then 0 else 4 := by
  unfold cpuFault
  rw [(good_iff us).2 h, if_pos rfl]
  by_cases e : 0 ≤ cpu ∧ cpu < (us.length : Int)
  · rw [if_neg (by omega), if_pos e]
  · rw [if_pos (by omega), if_neg e]

set_option maxRecDepth 100000 in
theorem arr2_neq (w : World) (a b : Int) : (binOp .neq 247 (.agg #[.int .i64 a, .int .i64 b]) (.agg #[.int .i64 a, .int .i64 b])).run Try.prog w = .ok (.bool false) w := by
  rw [run_neq_struct]
  have h97 := Try.underlying247
  have hs : (sizeOf 3).run Try.prog w = .ok 1 w := by kernel_rfl
  have p0 : (part 3 #[.int .i64 a, .int .i64 b] 0).run Try.prog w = .ok (.int .i64 a) w := by kernel_rfl
  have p1 : (part 3 #[.int .i64 a, .int .i64 b] 1).run Try.prog w = .ok (.int .i64 b) w := by kernel_rfl
  have e := fun x => run_equalIn_int (P := Try.prog) w 9998 3 .i64 .i64 x x Try.underlying3
  simp only [beq_self_eq_true] at e
  rw [show (10000 : Nat) = 9999 + 1 from rfl]
  unfold Op.equalIn
  simp only [Sem.run_bind, run_underlying h97, Result.andThen_ok, hs, Std.Legacy.Range.forIn_eq_forIn_range', Std.Legacy.Range.size, Nat.sub_zero, Nat.add_sub_cancel, Nat.div_one]
  rw [show List.range' 0 2 1 = [0, 1] from rfl]
  simp only [List.forIn_cons, List.forIn_nil, Sem.run_bind, Nat.mul_one, p0, p1, e, Result.andThen_ok, Bool.not_true, Bool.false_eq_true, if_false, Sem.run_pure]
set_option maxRecDepth 100000 in
theorem equalPr_true (A A' : Option Addr) (c c' : Nat) (xs : List (Int × Int)) (B B' : Nat) (w : World) (ra : Row w B A (flat prC xs)) (rb : Row w B' A' (flat prC xs)) (hm : xs.length ≤ 1000000) :
    Calls Try.prog 141 #[.slice A xs.length c, .slice A' xs.length c'] w fun e w' => e = .returned (.bool true) ∧ ∃ n, w' = w.drewN n := by
  have HA := Lib.hid ra
  have HB := Lib.hid rb
  clear ra rb
  go_enter Try.func141, Try.ntmps141
  go_wp2_with fail
  go_loopg [13] xs.length (fun gk i wr => ∃ k n : Nat, gk = xs.length - k ∧ k ≤ xs.length ∧ i = .int .i64 k ∧ wr = w.drewN n)
  case atStart => exact ⟨0, 0, by omega, by omega, rfl, rfl⟩
  case round =>
    obtain ⟨k, n, hgk, hk, rfl, rfl⟩ := hrel
    have HK := Lib.hid hgk
    clear hgk
    by_cases hlt : k < xs.length
    · obtain ⟨b, o, rfl, _, hc0, hc1⟩ := HA.out.pr hlt (0, 0)
      obtain ⟨b', o', rfl, _, hd0, hd1⟩ := HB.out.pr hlt (0, 0)
      generalize xs.getD k (0, 0) = x at *
      have hq := fun w => arr2_neq w x.1 x.2
      go_wp2_with fail
      go_quiet (fail)
      go_wp2_with fail
      go_roundg (xs.length - (k + 1))
      case measure => have := HK.out; omega
      case rel => exact ⟨k + 1, n + nq, rfl, by omega, by go_num, rfl⟩
    · go_wp2_with fail
      go_ret
      exact ⟨rfl, n, rfl⟩
end Go.Proofs.Ytaecgapoaagjfaa
