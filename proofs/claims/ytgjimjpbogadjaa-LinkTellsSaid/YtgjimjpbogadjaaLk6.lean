
/-
  Links: None; the letters of one who is gone.
-/
import Derived.Test.YtgjimjpbogadjaaLk5
import Derived.Test.YtgjimjpbogadjaaBox2
namespace Go.Proofs.Ytgjimjpbogadjaa
open Go.RowKit

def txtNone : ByteArray := ⟨#[110, 111, 110, 101]⟩
/-- What link.None answers. -/
def noneL (x : LC) : LC × Bool := if x.kind = 3 then (⟨2, x.to, x.frm, 2, ⟨#[]⟩, vc0⟩, true) else if x.kind = 4 then (⟨5, x.to, x.frm, 0, txtNone, vc0⟩, true) else (lc0, false)
set_option maxRecDepth 100000 in
set_option maxHeartbeats 1000000 in
theorem none_any (x : LC) (w : World) :
    Calls Try.prog 50 #[letterV x] w fun e w' => e = .returned (.tuple #[letterV (noneL x).1, .bool (noneL x).2]) ∧ Below w.heap.size w w' := by
  have HF : Hid (noneL x = if x.kind = 3 then (⟨2, x.to, x.frm, 2, ⟨#[]⟩, vc0⟩, true) else if x.kind = 4 then (⟨5, x.to, x.frm, 0, txtNone, vc0⟩, true) else (lc0, false)) := rfl
  generalize noneL x = F at *
  obtain ⟨k, f, t, m, s, ⟨vk, vm, vt, vA, vl, vc⟩⟩ := x
  unfold letterV
  dsimp only at HF ⊢
  have HB := Lib.hid (show ∀ o1 o2, Below w.heap.size w ((w.alloc o1).alloc o2) from fun _ _ => ((Below.refl _ _).alloc (Nat.le_refl _) _).alloc (by simp) _)
  by_cases h3 : k = 3
  · have HE := Lib.hid (show F = (⟨2, t, f, 2, ⟨#[]⟩, vc0⟩, true) by rw [HF.out, if_pos h3])
    subst h3
    go_enter Try.func50, Try.ntmps50
    go_wp2_with fail
    refine bodyPost_ret (v := .tuple #[letterV ⟨2, t, f, 2, ⟨#[]⟩, vc0⟩, .bool true]) (by simp [results, Try.results50, go_sem]; rfl) rfl ?_
    rw [HE.out]
    exact ⟨rfl, HB.out _ _⟩
  have b3 : (k == 3) = false := by simpa using h3
  rw [if_neg h3] at HF
  by_cases h4 : k = 4
  · have HE := Lib.hid (show F = (⟨5, t, f, 0, txtNone, vc0⟩, true) by rw [HF.out, if_pos h4])
    subst h4
    clear h3
    go_enter Try.func50, Try.ntmps50
    go_wp2_with fail
    refine bodyPost_ret (v := .tuple #[letterV ⟨5, t, f, 0, txtNone, vc0⟩, .bool true]) (by simp [results, Try.results50, go_sem]; rfl) rfl ?_
    rw [HE.out]
    exact ⟨rfl, HB.out _ _⟩
  have b4 : (k == 4) = false := by simpa using h4
  have HE := Lib.hid (show F = (lc0, false) by rw [HF.out, if_neg h4])
  clear h3 h4
  go_enter Try.func50, Try.ntmps50
  go_wp2_with fail
  refine bodyPost_ret (v := .tuple #[letterV lc0, .bool false]) (by simp [results, Try.results50, go_sem]; rfl) rfl ?_
  rw [HE.out]
  exact ⟨rfl, HB.out _ _⟩
end Go.Proofs.Ytgjimjpbogadjaa
