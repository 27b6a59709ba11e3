
/-
  Package box: what a mailbox is, and the reference's own words for it.
-/
import Derived.Test.YtgjimjpbogadjaaValSame
import Derived.IntWalk
namespace Go.Proofs.Ytgjimjpbogadjaa
open Go.RowKit

theorem in_any (n a b : Int) (w : World) : Calls Try.prog 40 #[.int .i64 n, .int .i64 a, .int .i64 b] w fun e w' => e = .returned (.bool (decide (a ≤ n ∧ n ≤ b))) ∧ w = w' := by
  by_cases h1 : a ≤ n
  · have d1 : decide (a ≤ n) = true := by simp; omega
    by_cases h2 : n ≤ b
    · have d2 : decide (n ≤ b) = true := by simp; omega
      rw [show decide (a ≤ n ∧ n ≤ b) = true by simp; omega]
      go_enter Try.func40, Try.ntmps40
      go_wp2_with fail
      go_ret
      exact ⟨rfl, rfl⟩
    · have d2 : decide (n ≤ b) = false := by simp; omega
      rw [show decide (a ≤ n ∧ n ≤ b) = false by simp; omega]
      go_enter Try.func40, Try.ntmps40
      go_wp2_with fail
      go_ret
      exact ⟨rfl, rfl⟩
  · have d1 : decide (a ≤ n) = false := by simp; omega
    rw [show decide (a ≤ n ∧ n ≤ b) = false by simp; omega]
    go_enter Try.func40, Try.ntmps40
    go_wp2_with fail
    go_ret
    exact ⟨rfl, rfl⟩

def okKind (k : Int) : Bool := k == 1 || k == 2
theorem okKind_in (k : Int) : decide (1 ≤ k ∧ k ≤ 2) = okKind k := by
  unfold okKind
  by_cases h1 : k = 1
  · subst h1; rfl
  · by_cases h2 : k = 2
    · subst h2; rfl
    · rw [show decide (1 ≤ k ∧ k ≤ 2) = false by simp; omega]; simp [h1, h2]
def boxF (l : List LC) (p : Int) : Int := if 60 < l.length then 2 else if p < 0 ∨ (l.length : Int) < p then 1 else if l.any (fun x => !okKind x.kind) then 3 else 0
def boxV (A : Option Addr) (n c : Nat) (p : Int) : Value := .agg #[.slice A n c, .int .i64 p]

end Go.Proofs.Ytgjimjpbogadjaa
