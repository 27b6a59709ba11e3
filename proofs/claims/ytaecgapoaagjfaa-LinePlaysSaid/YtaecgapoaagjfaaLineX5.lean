/-
  Bodies compared, row by row.
-/
import Derived.Test.YtaecgapoaagjfaaLineX4
namespace Go.Proofs.Ytaecgapoaagjfaa
open Go.RowKit

set_option maxRecDepth 100000 in
set_option maxHeartbeats 1000000 in
theorem equalBodies (A1 A2 : Option Addr) (c1 c2 : Nat) (l1 l2 : List BC) (a b : List Body) (w : World) (S S' : Nat → Prop) (hx : bodyRow w S 0 A1 c1 l1 a) (hy : bodyRow w S' 0 A2 c2 l2 b) (hab : a = b) :
    Calls Try.prog 52 #[.slice A1 l1.length c1, .slice A2 l2.length c2, .func (.func 54) #[] #[]] w fun e w' => e = .returned (.bool true) ∧ w = w' := by
  have he := enters_bytesEqual
  unfold Enters at he
  have HX := Lib.hid hx
  have HY := Lib.hid hy
  have hl : l1.length = l2.length := by rw [hx.1, hy.1, hab]
  have hcm := hx.2.2.2.2.1
  have hlc := hx.2.2.2.1
  unfold maxLen at hcm
  have b1 : ((l1.length : Int) != (l2.length : Int)) = false := by simp; omega
  have b2 : (l1.length != l2.length) = false := by simp; omega
  have hl1 : l1.length ≤ l2.length := by omega
  have hl2 : l2.length ≤ l1.length := by omega
  clear hx hy hl
  go_enter Try.func52, Try.ntmps52
  go_wp2_with fail
  go_loopg [17] l1.length (fun gk i wr => ∃ k : Nat, gk = l1.length - k ∧ k ≤ l1.length ∧ i = .int .i64 k ∧ wr = w)
  case atStart => exact ⟨0, by omega, by omega, rfl, rfl⟩
  case round =>
    obtain ⟨k, hgk, hk, rfl, rfl⟩ := hrel
    have HK := Lib.hid hgk
    clear hgk
    by_cases hlt : k < l1.length
    · have h1 := HX.out.2.2.1 k hlt
      have h2 := HY.out.2.2.1 k (by omega)
      rw [← hab] at h2
      obtain ⟨p1, o1, rfl, _, hc0⟩ := HX.out.2.1.all.body hlt bc0
      obtain ⟨p2, o2, rfl, _, hd0⟩ := HY.out.2.1.all.body (show k < l2.length by omega) bc0
      rw [Nat.mul_one] at hc0 hd0
      have HB := Lib.hid (bytesEqual_any _ _ _ _ 0 _ _ wr h1 h2)
      simp only [decide_true] at HB
      generalize l1.getD k bc0 = x at *
      generalize l2.getD k bc0 = y at *
      have hlt2 : (k : Int) < (l2.length : Int) := by omega
      have hlt3 : k < l2.length := by omega
      clear h1 h2
      go_wp2_with fail
      refine HB.out.mono ?_
      rintro e w' ⟨rfl, rfl⟩
      go_wp2_with fail
      go_roundg (l1.length - (k + 1))
      case measure => have := HK.out; omega
      case rel => exact ⟨k + 1, rfl, by omega, by go_num, rfl⟩
    · go_wp2_with fail
      go_ret
      exact ⟨rfl, rfl⟩
end Go.Proofs.Ytaecgapoaagjfaa
