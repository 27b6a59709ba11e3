
/-
  May a value be gone through (roadlaw3.flat): some answer.
-/
import Derived.Test.YtdjahlkjfpbifaaVMany
import Derived.Deep.CutBlock
namespace Go.Proofs.Ytdjahlkjfpbifaa
open Go.RowKit

/-- Some truth value. -/
def SomeB (e : Ending) : Prop := ∃ q : Bool, e = .returned (.bool q)
set_option maxRecDepth 100000 in
theorem flatV_any (n : Nat) (x : VC) (v : Val) (w : World) (S : Nat → Prop) (hx : VIn w S n x v) : Calls Try.prog 10 #[valV x] w fun e w' => SomeB e ∧ Below w.heap.size w w' := by
  obtain ⟨xk, xm, xt, xA, xl, xc⟩ := x
  have hb1 := (Below.refl w.heap.size w).alloc (Nat.le_refl _) (.cells #[.int .i64 xk, .int .i64 xm, .string xt, .slice xA xl xc] 28)
  have hbx := Box.new w 28 #[.int .i64 xk, .int .i64 xm, .string xt, .slice xA xl xc]
  have hd := deep_many n ⟨xk, xm, xt, xA, xl, xc⟩ v (w.alloc (.cells #[.int .i64 xk, .int .i64 xm, .string xt, .slice xA xl xc] 28)) _ (hx.lt.below hb1 fun _ h => h.2)
  unfold valV at hd ⊢
  dsimp only at hd ⊢
  have HD := Lib.hid hd
  have HB1 := Lib.hid hb1
  clear hd hx hb1
  generalize manyN n v = mm at *
  go_enter Try.func10, Try.ntmps10
  go_upto_region 1 with fail
  generalize w.alloc (.cells #[.int .i64 xk, .int .i64 xm, .string xt, .slice xA xl xc] 28) = w1 at *
  obtain ⟨c0, c1, c2, c3, _⟩ := own_cells4 hbx
  go_upto_region 2 with (go_at_call 73; refine HD.out.mono ?_; rintro e w2 ⟨⟨dd, rfl⟩, hb2⟩)
  by_cases h1 : dd ≤ 60
  · go_wp2_with fail
    all_goals (
      go_ret
      exact ⟨⟨_, rfl⟩, HB1.out.trans (hb2.mono HB1.out.size)⟩)
  · go_wp2_with fail
    all_goals (
      go_ret
      exact ⟨⟨_, rfl⟩, HB1.out.trans (hb2.mono HB1.out.size)⟩)
end Go.Proofs.Ytdjahlkjfpbifaa
