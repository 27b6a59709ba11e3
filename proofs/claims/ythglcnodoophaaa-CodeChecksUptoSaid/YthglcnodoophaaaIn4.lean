
/-
  The arms of an instruction, on both sides.
-/
import Derived.Test.YthglcnodoophaaaIn1
import Derived.Test.YthglcnodoophaaaAr3
namespace Go.Proofs.Ythglcnodoophaaa
open Go.RowKit

def gatL (l : List Int) : List ArV := (gatF l).getD []
def armsT (x : InC) : List ArV := if x.op = 11 then gatL x.args else if x.op = 16 ∧ x.args ≠ [] then gatL x.args.tail else []
/-- The error of the arms' encoding. -/
def errL (l : List Int) : Int := if (gatF l).isSome then 0 else 3
def errT (x : InC) : Int := if x.op = 11 then errL x.args else if x.op = 16 ∧ x.args ≠ [] then errL x.args.tail else 0
theorem errL_val (l : List Int) : (if (gatF l).isSome = true then Value.int .i64 0 else .int .i64 3) = .int .i64 (errL l) := by
  unfold errL
  split <;> rfl
def IsArms (w : World) (vs : List ArV) (v : Value) (w' : World) : Prop := ∃ (A : Option Addr) (c : Nat) (l : List ArC), v = .slice A l.length c ∧ Arms w' A l vs ∧ Below w.heap.size w w' ∧ (∀ b, A.map (·.block) = some b → w.heap.size ≤ b) ∧ ∀ y ∈ l, ∀ b, y.A.map (·.block) = some b → w.heap.size ≤ b
theorem gat_is {w w' : World} {l : List Int} {ok bad : Value} {e : Ending} (h : GatPost w (gatF l) ok bad e w') : ∃ v, e = .returned (.tuple #[v, if (gatF l).isSome then ok else bad]) ∧ IsArms w (gatL l) v w' := by
  obtain ⟨hb, h⟩ := h
  unfold gatL
  cases hg : gatF l with
  | none =>
    rw [hg] at h
    exact ⟨_, h, none, 0, [], rfl, Arms.nil, hb, (fun b hb => by cases hb), fun y hy => by cases hy⟩
  | some vs =>
    rw [hg] at h
    obtain ⟨A, c, l', he, ha, _, _, _, hn⟩ := h
    exact ⟨_, he, A, c, l', rfl, ha, hb, hn⟩
theorem IsArms.trans {w w1 w2 : World} {vs : List ArV} {v : Value} (hb : Below w.heap.size w w1) (h : IsArms w1 vs v w2) : IsArms w vs v w2 := by
  obtain ⟨A, c, l, h1, h2, h3, h4, h5⟩ := h
  exact ⟨A, c, l, h1, h2, hb.trans (h3.mono hb.size), fun b hb' => Nat.le_trans hb.size (h4 b hb'), fun y hy b hb' => Nat.le_trans hb.size (h5 y hy b hb')⟩
theorem IsArms.nil {w w' : World} (hb : Below w.heap.size w w') : IsArms w [] (.slice none 0 0) w' := ⟨none, 0, [], rfl, Arms.nil, hb, (fun b hb => by cases hb), fun y hy => by cases hy⟩

theorem tail_lo {w : World} {B : Nat} {A : Option Addr} {c : Nat} {y : Int} {ys : List Int} (hr : Row w B A (ints (y :: ys))) (hc : (y :: ys).length ≤ c) :
    ∃ b o b' o', A = some ⟨b, o, none⟩ ∧ (if c = 1 then (some ⟨b, o, none⟩ : Option Addr) else some ⟨b, o + 1, none⟩) = some ⟨b', o', none⟩ ∧ Row w B (some ⟨b', o', none⟩) (ints ys) := by
  obtain ⟨b, o, rfl, _⟩ := hr (by simp [ints])
  obtain ⟨b', o', h1, h2⟩ := row_lo hr hc (k := 1) (by simp)
  exact ⟨b, o, b', o', rfl, h1, h2⟩

set_option maxRecDepth 100000 in
set_option maxHeartbeats 1000000 in
theorem gathered_any (x : InC) (B : Nat) (w : World) (hok : InOk w B x) : Calls Try.prog 26 #[inV x] w fun e w' => ∃ v, e = .returned (.tuple #[v, .int .i64 (errT x)]) ∧ IsArms w (armsT x) v w' := by
  obtain ⟨op, a, b, c, A, cap, args⟩ := x
  unfold inV armsT errT
  simp only
  have hb := (Below.refl w.heap.size w).alloc (Nat.le_refl _) (.cells #[.int .i64 op, .int .i64 a, .int .i64 b, .int .i64 c, .slice A args.length cap] 33)
  have hk := hok.below hb
  have HB := Lib.hid hb
  have hl := hok.len
  have hc := hok.cap
  have hcm := hok.capm
  simp only at hl hc hcm
  by_cases h11 : op = 11
  · subst h11
    rw [if_pos rfl, if_pos rfl]
    have HG := Lib.hid (gather_any A cap args B _ hk.row hk.hB hl hc hcm hok.none)
    clear hok hk hb
    go_enter Try.func26, Try.ntmps26
    go_wp2_with fail
    refine HG.out.mono ?_
    intro e w1 hg
    obtain ⟨v, rfl, hi⟩ := gat_is hg
    rw [errL_val]
    have HI := Lib.hid (hi.trans HB.out)
    clear hg hi
    go_wp2_with fail
    go_ret2
    exact ⟨v, rfl, HI.out⟩
  rw [if_neg h11, if_neg h11]
  have e11 : (op == 11) = false := by simp [h11]
  by_cases h16 : op = 16
  case neg =>
    rw [if_neg (fun h => h16 h.1), if_neg (fun h => h16 h.1)]
    have e16 : (op == 16) = false := by simp [h16]
    clear hok hk hb h11 h16
    go_enter Try.func26, Try.ntmps26
    go_wp2_with fail
    go_ret2
    exact ⟨_, rfl, IsArms.nil HB.out⟩
  subst h16
  clear h11 e11
  rcases args with _ | ⟨y, ys⟩
  · rw [if_neg (fun h => h.2 rfl), if_neg (fun h => h.2 rfl)]
    clear hok hk hb
    go_enter Try.func26, Try.ntmps26
    go_wp2_with fail
    go_ret2
    exact ⟨_, rfl, IsArms.nil HB.out⟩
  · rw [if_pos ⟨rfl, by simp⟩, if_pos ⟨rfl, by simp⟩, List.tail_cons]
    obtain ⟨b1, o1, b2, o2, rfl, ht, hr⟩ := tail_lo hk.row hc
    have hl' : ys.length ≤ 1048575 := by simp at hl; omega
    have HG := Lib.hid (gather_any (some ⟨b2, o2, none⟩) (cap - 1) ys B _ hr hk.hB (by omega) (by simp at hc; omega) (by omega) (fun e => by cases e))
    have hL : (y :: ys).length = ys.length + 1 := rfl
    have i1 : (1 : Int) ≤ (ys.length : Int) + 1 := by omega
    have i2 : 1 ≤ ys.length + 1 := by omega
    have i3 : (0 : Int) < (ys.length : Int) + 1 := by omega
    rw [hL] at *
    clear hok hk hb hr hcm
    go_enter Try.func26, Try.ntmps26
    go_wp2_with fail
    refine HG.out.mono ?_
    intro e w1 hg
    obtain ⟨v, rfl, hi⟩ := gat_is hg
    rw [errL_val]
    have HI := Lib.hid (hi.trans HB.out)
    clear hg hi
    go_wp2_with fail
    go_ret2
    exact ⟨v, rfl, HI.out⟩
end Go.Proofs.Ythglcnodoophaaa
