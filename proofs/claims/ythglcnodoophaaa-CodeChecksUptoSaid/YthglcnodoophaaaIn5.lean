
/-
  Arms on both sides; that they are alike.
-/
import Derived.Test.YthglcnodoophaaaIn4
namespace Go.Proofs.Ythglcnodoophaaa
open Go.RowKit

set_option maxRecDepth 100000 in
set_option maxHeartbeats 1000000 in
theorem arms_any (x : InC) (B : Nat) (w : World) (hok : InOk w B x) : Calls Try.prog 23 #[inV x] w fun e w' => ∃ v, e = .returned v ∧ IsArms w (armsT x) v w' := by
  have hb := (Below.refl w.heap.size w).alloc (Nat.le_refl _) (.cells #[.int .i64 x.op, .int .i64 x.a, .int .i64 x.b, .int .i64 x.c, .slice x.A x.args.length x.cap] 33)
  have HG := Lib.hid (gathered_any x B _ (hok.below hb))
  have HB := Lib.hid hb
  clear hok hb
  unfold inV at HG ⊢
  go_enter Try.func23, Try.ntmps23
  go_wp2_with fail
  refine HG.out.mono ?_
  rintro e w1 ⟨v, rfl, hi⟩
  have HI := Lib.hid (hi.trans HB.out)
  clear hi
  go_wp2_with fail
  go_ret
  exact ⟨v, rfl, HI.out⟩

set_option maxRecDepth 100000 in
set_option maxHeartbeats 1000000 in
theorem rarms_any (x : InC) (B : Nat) (w : World) (hok : InOk w B x) : Calls Try.prog 16 #[inV x] w fun e w' => ∃ v, e = .returned v ∧ IsArms w (armsT x) v w' := by
  obtain ⟨op, a, b, c, A, cap, args⟩ := x
  unfold inV armsT
  simp only
  have hb := (Below.refl w.heap.size w).alloc (Nat.le_refl _) (.cells #[.int .i64 op, .int .i64 a, .int .i64 b, .int .i64 c, .slice A args.length cap] 33)
  have hk := hok.below hb
  have HB := Lib.hid hb
  have hl := hok.len
  have hc := hok.cap
  simp only at hl hc
  by_cases h11 : op = 11
  · subst h11
    rw [if_pos rfl]
    have HG := Lib.hid (split_any A cap args B _ hk.row hk.hB hl)
    clear hok hk hb
    go_enter Try.func16, Try.ntmps16
    go_wp2_with fail
    refine HG.out.mono ?_
    intro e w1 hg
    obtain ⟨v, rfl, hi⟩ := gat_is hg
    have HI := Lib.hid (hi.trans HB.out)
    clear hg hi
    go_wp2_with fail
    go_ret
    exact ⟨v, rfl, HI.out⟩
  rw [if_neg h11]
  have e11 : (op != 11) = true := by simp [h11]
  by_cases h16 : op = 16
  case neg =>
    rw [if_neg (fun h => h16 h.1)]
    have e16 : (op == 16) = false := by simp [h16]
    clear hok hk hb h11 h16
    go_enter Try.func16, Try.ntmps16
    go_wp2_with fail
    go_ret
    exact ⟨_, rfl, IsArms.nil HB.out⟩
  subst h16
  clear h11 e11
  rcases args with _ | ⟨y, ys⟩
  · rw [if_neg (fun h => h.2 rfl)]
    clear hok hk hb
    go_enter Try.func16, Try.ntmps16
    go_wp2_with fail
    go_ret
    exact ⟨_, rfl, IsArms.nil HB.out⟩
  · rw [if_pos ⟨rfl, by simp⟩]
    obtain ⟨b1, o1, b2, o2, rfl, ht, hr⟩ := tail_lo hk.row hc
    have hl' : ys.length ≤ 1048575 := by simp at hl; omega
    have HG := Lib.hid (split_any (some ⟨b2, o2, none⟩) (cap - 1) ys B _ hr hk.hB (by omega))
    have hL : (y :: ys).length = ys.length + 1 := rfl
    have i1 : (1 : Int) ≤ (ys.length : Int) + 1 := by omega
    have i2 : 1 ≤ ys.length + 1 := by omega
    have i3 : (0 : Int) < (ys.length : Int) + 1 := by omega
    rw [hL] at *
    clear hok hk hb hr
    go_enter Try.func16, Try.ntmps16
    go_wp2_with fail
    refine HG.out.mono ?_
    intro e w1 hg
    obtain ⟨v, rfl, hi⟩ := gat_is hg
    have HI := Lib.hid (hi.trans HB.out)
    clear hg hi
    go_wp2_with fail
    go_ret
    exact ⟨v, rfl, HI.out⟩

/-- What is gathered is not much. -/
theorem gat_small : ∀ (n : Nat) (l : List Int) (vs : List ArV), gat n l = some vs → vs.length ≤ l.length ∧ ∀ v ∈ vs, v.2.length ≤ l.length
  | _, [], vs, h => by simp [gat] at h; subst h; simp
  | 0, _ :: _, _, h => by simp [gat] at h
  | _ + 1, [_], _, h => by simp [gat] at h
  | n + 1, x :: m :: r, vs, h => by
    simp only [gat] at h
    split at h
    · cases h
    · rename_i hm
      cases hg : gat n (r.drop m.toNat) with
      | none => rw [hg] at h; cases h
      | some t =>
        rw [hg] at h
        simp only [Option.map_some, Option.some.injEq] at h
        subst h
        obtain ⟨h1, h2⟩ := gat_small n _ t hg
        simp only [List.length_drop] at h1 h2
        refine ⟨by simp only [List.length_cons]; omega, fun v hv => ?_⟩
        rcases List.mem_cons.1 hv with rfl | hv
        · simp only [List.length_take, List.length_cons]; omega
        · have := h2 v hv
          simp only [List.length_cons]; omega
theorem gatL_small (l : List Int) : (gatL l).length ≤ l.length ∧ ∀ v ∈ gatL l, v.2.length ≤ l.length := by
  unfold gatL gatF
  cases h : gat l.length l with
  | none => simp
  | some vs => exact gat_small _ _ _ h
theorem armsT_small (x : InC) (h : x.args.length ≤ 1048576) : (armsT x).length ≤ 1048576 ∧ ∀ i, i < (armsT x).length → ((armsT x).getD i arv0).2.length ≤ 1048576 := by
  have key : (armsT x).length ≤ 1048576 ∧ ∀ v ∈ armsT x, v.2.length ≤ 1048576 := by
    unfold armsT
    split
    · have := gatL_small x.args
      exact ⟨by omega, fun v hv => by have := this.2 v hv; omega⟩
    · split
      · have := gatL_small x.args.tail
        have ht : x.args.tail.length ≤ 1048576 := by rw [List.length_tail]; omega
        exact ⟨by omega, fun v hv => by have := this.2 v hv; omega⟩
      · simp
  refine ⟨by omega, fun i hi => ?_⟩
  have := key.2 _ (getD_mem arv0 hi)
  omega
end Go.Proofs.Ythglcnodoophaaa
