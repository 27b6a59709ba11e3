
/-
  What reading gives, in one form; may a value be gone through (roadlaw3.flat).
-/
import Derived.Test.YtgjimjpbogadjaaBd7
namespace Go.Proofs.Ytgjimjpbogadjaa
open Go.RowKit

def errOf (r : Int × Except Int Val) : Int := match r.2 with
  | .error e => e
  | .ok _ => 0
def valOf (r : Int × Except Int Val) : Val := match r.2 with
  | .error _ => val0
  | .ok v => v
theorem vc0_in (w : World) (S : Nat → Prop) : VIn w S 40 vc0 val0 := leaf_in (d := 39) (k := 0) (m := 0) ⟨by decide, by decide⟩ ⟨by decide, by decide⟩
/-- What reading gives, in one form. -/
def RdW (r : Int × Except Int Val) (w : World) (e : Ending) (w' : World) : Prop := ∃ y : VC, e = .returned (.tuple #[valV y, .int .i64 (errOf r)]) ∧ VIn w' (w.heap.size ≤ ·) 40 y (valOf r)
theorem RdV.one {r : Int × Except Int Val} {w w' : World} {e : Ending} (h : RdV r w e w') : Below w.heap.size w w' ∧ RdW r w e w' := by
  obtain ⟨hb, y, er, he, hm⟩ := h
  refine ⟨hb, ?_⟩
  obtain ⟨l, r⟩ := r
  cases r with
  | error e' =>
    obtain ⟨h1, h2⟩ := hm
    subst h1 h2
    exact ⟨vc0, he, vc0_in _ _⟩
  | ok v =>
    obtain ⟨h1, h2⟩ := hm
    subst h1
    exact ⟨y, he, h2⟩
theorem VRes.one {r : Int × Except Int Val} {w w' : World} {e : Ending} (h : VRes 40 r w e w') : RdW r w e w' := by
  obtain ⟨l, r⟩ := r
  cases r with
  | error e' => exact ⟨vc0, h, vc0_in _ _⟩
  | ok v => exact h

/-- Some truth value. -/
def BoolP (e : Ending) : Prop := ∃ q : Bool, e = .returned (.bool q)
set_option maxRecDepth 100000 in
theorem flat_any (n : Nat) (x : VC) (v : Val) (w : World) (S : Nat → Prop) (hx : VIn w S n x v) : Calls Try.prog 9 #[valV x] w fun e w' => BoolP e ∧ Below w.heap.size w w' := by
  obtain ⟨xk, xm, xt, xA, xl, xc⟩ := x
  have hb1 := (Below.refl w.heap.size w).alloc (Nat.le_refl _) (.cells #[.int .i64 xk, .int .i64 xm, .string xt, .slice xA xl xc] 26)
  have hbx := Box.new w 26 #[.int .i64 xk, .int .i64 xm, .string xt, .slice xA xl xc]
  have hd := deep_any n ⟨xk, xm, xt, xA, xl, xc⟩ v (w.alloc (.cells #[.int .i64 xk, .int .i64 xm, .string xt, .slice xA xl xc] 26)) _ (hx.lt.below hb1 fun _ h => h.2)
  unfold valV at hd ⊢
  dsimp only at hd ⊢
  have HD := Lib.hid hd
  have HB1 := Lib.hid hb1
  clear hd hx hb1
  go_enter Try.func9, Try.ntmps9
  go_upto_region 1 with fail
  generalize w.alloc (.cells #[.int .i64 xk, .int .i64 xm, .string xt, .slice xA xl xc] 26) = w1 at *
  obtain ⟨c0, c1, c2, c3, _⟩ := own_cells4 hbx
  go_upto_region 2 with (go_at_call 31; refine HD.out.mono ?_; rintro e w2 ⟨⟨dd, mm, rfl⟩, hb2⟩)
  by_cases h1 : dd ≤ 60
  · go_wp2_with fail
    all_goals (
      go_ret
      exact ⟨⟨_, rfl⟩, HB1.out.trans (hb2.mono HB1.out.size)⟩)
  · go_wp2_with fail
    all_goals (
      go_ret
      exact ⟨⟨_, rfl⟩, HB1.out.trans (hb2.mono HB1.out.size)⟩)
end Go.Proofs.Ytgjimjpbogadjaa
