/-
  Lines: the small functions about packets and bodies.
-/
import Derived.Test.YtaecgapoaagjfaaLineX8
namespace Go.Proofs.Ytaecgapoaagjfaa
open Go.RowKit

set_option maxRecDepth 100000 in
theorem come_arg (B0 g m : Nat) (s : LS) (r : LR) (f : Nat → Nat) (x : KC) (w : World) (h : LineAt w B0 g m s r f) (hB : B0 ≤ w.heap.size) (hw : x.window < 0 ∨ 16 < x.window) :
    Calls Try.prog 50 #[.pointer (some ⟨g, 0, none⟩), lpkV x] w (PutPost B0 g m s 1 w) := by
  unfold lpkV
  have HL := Lib.hid (fun o => h.below ((Below.refl w.heap.size w).alloc (Nat.le_refl _) o))
  have HBB := Lib.hid (fun o => (Below.refl B0 w).alloc hB o)
  clear h
  by_cases h1 : x.window < 0
  · have d1 : decide (x.window < 0) = true := by simp; omega
    clear hw
    go_enter Try.func50, Try.ntmps50
    go_wp2_with fail
    go_ret
    exact ⟨rfl, HBB.out _, r, f, HL.out _⟩
  · have d1 : decide (x.window < 0) = false := by simp; omega
    have d2 : decide (16 < x.window) = true := by simp; omega
    clear hw
    go_enter Try.func50, Try.ntmps50
    go_wp2_with fail
    go_ret
    exact ⟨rfl, HBB.out _, r, f, HL.out _⟩
set_option maxRecDepth 100000 in
theorem come_large (B0 g m : Nat) (s : LS) (r : LR) (f : Nat → Nat) (x : KC) (w : World) (h : LineAt w B0 g m s r f) (hB : B0 ≤ w.heap.size) (hw1 : 0 ≤ x.window) (hw2 : x.window ≤ 16) (hl : 1048576 < x.b.len) :
    Calls Try.prog 50 #[.pointer (some ⟨g, 0, none⟩), lpkV x] w (PutPost B0 g m s 2 w) := by
  unfold lpkV
  have HL := Lib.hid (fun o => h.below ((Below.refl w.heap.size w).alloc (Nat.le_refl _) o))
  have HBB := Lib.hid (fun o => (Below.refl B0 w).alloc hB o)
  have d1 : decide (x.window < 0) = false := by simp; omega
  have d2 : decide (16 < x.window) = false := by simp; omega
  have d3 : decide (1048576 < x.b.len) = true := by simp; omega
  have d4 : decide ((1048576 : Int) < (x.b.len : Int)) = true := by simp; omega
  clear h hl
  go_enter Try.func50, Try.ntmps50
  go_wp2_with fail
  go_ret
  exact ⟨rfl, HBB.out _, r, f, HL.out _⟩

set_option maxRecDepth 100000 in
theorem packetOf (x : KC) (w : World) :
    Calls Try.prog 51 #[rpkV x] w fun e w' => e = .returned (lpkV x) ∧ Below w.heap.size w w' := by
  unfold rpkV
  go_enter Try.func51, Try.ntmps51
  go_wp2_with fail
  exact bodyPost_ret (v := lpkV x) (by unfold lpkV; simp [results, Try.results51, go_sem]) rfl ⟨rfl, ((Below.refl _ _).alloc (Nat.le_refl _) _).alloc (by simp) _⟩

theorem within_any (d a b : Int) (w : World) :
    Calls Try.prog 168 #[.int .i64 d, .int .i64 a, .int .i64 b] w fun e w' => e = .returned (.bool (decide (a ≤ d ∧ d ≤ b))) ∧ w = w' := by
  by_cases h1 : a ≤ d
  · have e1 : decide (a ≤ d) = true := by simp; omega
    rw [show decide (a ≤ d ∧ d ≤ b) = decide (d ≤ b) by simp [h1]]
    go_enter Try.func168, Try.ntmps168
    go_wp2_with fail
    go_ret
    exact ⟨rfl, rfl⟩
  · have e1 : decide (a ≤ d) = false := by simp; omega
    rw [show decide (a ≤ d ∧ d ≤ b) = false by simp [h1]]
    clear h1
    go_enter Try.func168, Try.ntmps168
    go_wp2_with fail
    go_ret
    exact ⟨rfl, rfl⟩

theorem enters_same : Enters 47 := fun _ _ => by kernel_rfl
set_option maxRecDepth 100000 in
theorem same_true (x y : KC) (p : Pkt) (S S' : Nat → Prop) (w : World) (hx : KIn w S 0 x p) (hy : KIn w S' 0 y p) :
    Calls Try.prog 47 #[lpkV x, rpkV y] w fun e w' => e = .returned (.bool true) ∧ Below w.heap.size w w' := by
  unfold lpkV rpkV
  rw [hx.1.1, hx.1.2.1, hx.1.2.2.1, hx.1.2.2.2, hy.1.1, hy.1.2.1, hy.1.2.2.1, hy.1.2.2.2]
  have HB := Lib.hid (fun (w' : World) (hb : Below w.heap.size w w') => bytesEqual_any x.b y.b p.body p.body 0 _ _ w' (hx.2.all.below hb fun _ h => h) (hy.2.all.below hb fun _ h => h))
  simp only [decide_true] at HB
  have HW := Lib.hid (fun o o' => ((Below.refl w.heap.size w).alloc (Nat.le_refl _) o).alloc (by simp) o')
  clear hx hy
  go_enter Try.func47, Try.ntmps47
  go_wp2_with fail
  refine (HB.out _ (HW.out _ _)).mono ?_
  rintro e w' ⟨rfl, rfl⟩
  go_wp2_with fail
  go_ret
  exact ⟨rfl, HW.out _ _⟩
end Go.Proofs.Ytaecgapoaagjfaa
