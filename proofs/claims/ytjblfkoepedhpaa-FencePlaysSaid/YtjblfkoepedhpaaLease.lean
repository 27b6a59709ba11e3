/-
  Package fence's lease: New, Tick, Take, Keep, Leave, Who.
-/
import Derived.Test.YtjblfkoepedhpaaMem
import Derived.RegionTactic
import Derived.BigRegion
import Derived.WalkLawsBesides
import Derived.Outline
import Derived.IntWalk
namespace Go.Proofs.Ytjblfkoepedhpaa
open Go.RowKit

/-- The lease's block: now, epoch, node, end. -/
def Ls (w : World) (g : Nat) (now epoch node en : Int) : Prop := Box w g 142 #[.int .i64 now, .int .i64 epoch, .int .i64 node, .int .i64 en]

section
variable {w : World} {g : Nat} {now epoch node en : Int}
theorem Ls.c0 (h : Ls w g now epoch node en) : w.cell? ⟨g, 0, none⟩ = some (.int .i64 now) := by simpa using Box.cell h 0
theorem Ls.c1 (h : Ls w g now epoch node en) : w.cell? ⟨g, 1, none⟩ = some (.int .i64 epoch) := by simpa using Box.cell h 1
theorem Ls.c2 (h : Ls w g now epoch node en) : w.cell? ⟨g, 2, none⟩ = some (.int .i64 node) := by simpa using Box.cell h 2
theorem Ls.c3 (h : Ls w g now epoch node en) : w.cell? ⟨g, 3, none⟩ = some (.int .i64 en) := by simpa using Box.cell h 3
end

theorem newLease_any (w : World) :
    Calls Try.prog 26 #[] w fun e w' => e = .returned (.pointer (some ⟨w.heap.size, 0, none⟩)) ∧ w.alloc (.cells #[.int .i64 0, .int .i64 0, .int .i64 0, .int .i64 0] 142) = w' := by
  go_enter Try.func26, Try.ntmps26
  go_wp2
  go_ret
  exact ⟨rfl, rfl⟩

theorem ticksOK_yes (n : Int) (w : World) (h1 : 1 ≤ n) (h2 : n ≤ 1000) : Calls Try.prog 102 #[.int .i64 n] w fun e w' => e = .returned (.bool true) ∧ w = w' := by
  have d1 : decide (1 ≤ n) = true := by simp; omega
  have d2 : decide (n ≤ 1000) = true := by simp; omega
  go_enter Try.func102, Try.ntmps102
  go_wp2
  go_ret
  exact ⟨rfl, rfl⟩
theorem ticksOK_no (n : Int) (w : World) (h : n < 1 ∨ 1000 < n) : Calls Try.prog 102 #[.int .i64 n] w fun e w' => e = .returned (.bool false) ∧ w = w' := by
  by_cases h1 : n < 1
  · have d1 : decide (1 ≤ n) = false := by simp; omega
    clear h
    go_enter Try.func102, Try.ntmps102
    go_wp2
    go_ret
    exact ⟨rfl, rfl⟩
  · have d1 : decide (1 ≤ n) = true := by simp; omega
    have d2 : decide (n ≤ 1000) = false := by simp; omega
    clear h
    go_enter Try.func102, Try.ntmps102
    go_wp2
    go_ret
    exact ⟨rfl, rfl⟩

theorem drewN_ex (w : World) (k n : Nat) : ∃ m, (w.drewN k).drewN n = w.drewN m := ⟨k + n, by simp⟩
def heldB (now node en : Int) : Bool := (node != 0) && decide (now < en)

set_option maxHeartbeats 400000 in
theorem held_any (g : Nat) (now epoch node en : Int) (w : World) (h : Ls w g now epoch node en) :
    Calls Try.prog 103 #[.pointer (some ⟨g, 0, none⟩)] w fun e w' => e = .returned (.bool (heldB now node en)) ∧ ∃ k, w' = w.drewN k := by
  have c0 := h.c0
  have c2 := h.c2
  have c3 := h.c3
  clear h
  by_cases h1 : node = 0
  · have d1 : (node != 0) = false := by simp [h1]
    have e : heldB now node en = false := by simp [heldB, h1]
    rw [e]
    clear e h1
    go_enter Try.func103, Try.ntmps103
    go_wp2
    go_quiet (fail)
    go_wp2
    go_ret
    exact ⟨rfl, _, rfl⟩
  · have d1 : (node != 0) = true := by simp [h1]
    have e : heldB now node en = decide (now < en) := by simp [heldB, h1]
    rw [e]
    clear e h1
    go_enter Try.func103, Try.ntmps103
    go_wp2
    go_quiet (fail)
    go_wp2
    go_ret
    exact ⟨rfl, _, rfl⟩

def ownsB (node epoch nd ep : Int) : Bool := (node != 0) && ((node == nd) && (epoch == ep))

set_option maxHeartbeats 400000 in
theorem owns_any (g : Nat) (now epoch node en nd ep : Int) (w : World) (h : Ls w g now epoch node en) :
    Calls Try.prog 101 #[.pointer (some ⟨g, 0, none⟩), .int .i64 nd, .int .i64 ep] w fun e w' => e = .returned (.bool (ownsB node epoch nd ep)) ∧ w = w' := by
  have c1 := h.c1
  have c2 := h.c2
  clear h
  by_cases h1 : node = 0
  · have d1 : (node != 0) = false := by simp [h1]
    have e : ownsB node epoch nd ep = false := by simp [ownsB, h1]
    rw [e]
    clear e h1
    go_enter Try.func101, Try.ntmps101
    go_wp2
    go_ret
    exact ⟨rfl, rfl⟩
  · have d1 : (node != 0) = true := by simp [h1]
    by_cases h2 : node = nd
    · have d2 : (node == nd) = true := by simp [h2]
      have e : ownsB node epoch nd ep = (epoch == ep) := by rw [ownsB, d1, d2]; rfl
      rw [e]
      clear e h1 h2
      go_enter Try.func101, Try.ntmps101
      go_wp2
      go_ret
      exact ⟨rfl, rfl⟩
    · have d2 : (node == nd) = false := by simp [h2]
      have e : ownsB node epoch nd ep = false := by rw [ownsB, d1, d2]; rfl
      rw [e]
      clear e h1 h2
      go_enter Try.func101, Try.ntmps101
      go_wp2
      go_ret
      exact ⟨rfl, rfl⟩

section
variable (g : Nat) (now epoch node en n : Int) (w : World)
theorem tick_bad (h : n < 0 ∨ 1000 < n) :
    Calls Try.prog 30 #[.pointer (some ⟨g, 0, none⟩), .int .i64 n] w fun e w' => e = .returned (.int .i64 1) ∧ w = w' := by
  by_cases h1 : n < 0
  · have d1 : decide (n < 0) = true := by simp; omega
    clear h
    go_enter Try.func30, Try.ntmps30
    go_wp2
    go_ret
    exact ⟨rfl, rfl⟩
  · have d1 : decide (n < 0) = false := by simp; omega
    have d2 : decide (1000 < n) = true := by simp; omega
    clear h
    go_enter Try.func30, Try.ntmps30
    go_wp2
    go_ret
    exact ⟨rfl, rfl⟩
theorem tick_late (hl : Ls w g now epoch node en) (h0 : 0 ≤ n) (h1 : n ≤ 1000) (h2 : 0 ≤ now) (h3 : now ≤ 1099511627776) (h4 : 1099511627776 < now + n) :
    Calls Try.prog 30 #[.pointer (some ⟨g, 0, none⟩), .int .i64 n] w fun e w' => e = .returned (.int .i64 2) ∧ w = w' := by
  have d1 : decide (n < 0) = false := by simp; omega
  have d2 : decide (1000 < n) = false := by simp; omega
  have c0 := hl.c0
  go_enter Try.func30, Try.ntmps30
  go_wp2
  go_ret
  exact ⟨rfl, rfl⟩
theorem tick_ok (hl : Ls w g now epoch node en) (h0 : 0 ≤ n) (h1 : n ≤ 1000) (h2 : 0 ≤ now) (h4 : now + n ≤ 1099511627776) :
    Calls Try.prog 30 #[.pointer (some ⟨g, 0, none⟩), .int .i64 n] w fun e w' => e = .returned (.int .i64 0) ∧ Ls w' g (now + n) epoch node en ∧ Sole g w w' := by
  have d1 : decide (n < 0) = false := by simp; omega
  have d2 : decide (1000 < n) = false := by simp; omega
  have c0 := hl.c0
  have f0 := Box.frozen hl 0
  go_enter Try.func30, Try.ntmps30
  go_wp2
  go_ret
  exact ⟨rfl, Box.set hl 0 _, (Sole.refl _ _).own _ _⟩
end
section
variable (g : Nat) (now epoch node en nd tk : Int) (w : World)
theorem take_bad (h : nd < 1 ∨ 8 < nd ∨ tk < 1 ∨ 1000 < tk) :
    Calls Try.prog 28 #[.pointer (some ⟨g, 0, none⟩), .int .i64 nd, .int .i64 tk] w fun e w' => e = .returned (.tuple #[.int .i64 0, .int .i64 1]) ∧ w = w' := by
  by_cases h1 : nd < 1
  · have d1 : decide (nd < 1) = true := by simp; omega
    clear h
    go_enter Try.func28, Try.ntmps28
    go_wp2_with fail
    go_ret2
    exact ⟨rfl, rfl⟩
  have d1 : decide (nd < 1) = false := by simp; omega
  by_cases h2 : 8 < nd
  · have d2 : decide (8 < nd) = true := by simp; omega
    clear h
    go_enter Try.func28, Try.ntmps28
    go_wp2_with fail
    go_ret2
    exact ⟨rfl, rfl⟩
  have d2 : decide (8 < nd) = false := by simp; omega
  have h3 : tk < 1 ∨ 1000 < tk := by omega
  clear h
  go_enter Try.func28, Try.ntmps28
  go_wp2_with fail
  refine (ticksOK_no _ _ h3).mono ?_
  rintro e w' ⟨rfl, rfl⟩
  go_wp2_with fail
  go_ret2
  exact ⟨rfl, rfl⟩

set_option maxHeartbeats 400000 in
theorem take_there (hl : Ls w g now epoch node en) (h1 : 1 ≤ nd) (h2 : nd ≤ 8) (h3 : 1 ≤ tk) (h4 : tk ≤ 1000) (hh : heldB now node en = true) :
    Calls Try.prog 28 #[.pointer (some ⟨g, 0, none⟩), .int .i64 nd, .int .i64 tk] w fun e w' => e = .returned (.tuple #[.int .i64 0, .int .i64 5]) ∧ ∃ k, w' = w.drewN k := by
  have d1 : decide (nd < 1) = false := by simp; omega
  have d2 : decide (8 < nd) = false := by simp; omega
  have HH := Lib.hid hh
  clear hh
  go_enter Try.func28, Try.ntmps28
  go_wp2_with fail
  refine (ticksOK_yes _ _ h3 h4).mono ?_
  rintro e w' ⟨rfl, rfl⟩
  go_wp2_with fail
  refine (held_any _ _ _ _ _ _ hl).mono ?_
  rintro e w' ⟨rfl, k, rfl⟩
  rw [HH.out]
  go_wp2_with fail
  go_ret2
  exact ⟨rfl, _, rfl⟩

set_option maxHeartbeats 400000 in
theorem take_ok (hl : Ls w g now epoch node en) (h1 : 1 ≤ nd) (h2 : nd ≤ 8) (h3 : 1 ≤ tk) (h4 : tk ≤ 1000) (hh : heldB now node en = false) (h5 : 0 ≤ now) (h6 : now ≤ 1099511627776) (h7 : 0 ≤ epoch) (h8 : epoch ≤ 4611686018427387904) :
    Calls Try.prog 28 #[.pointer (some ⟨g, 0, none⟩), .int .i64 nd, .int .i64 tk] w fun e w' => e = .returned (.tuple #[.int .i64 (epoch + 1), .int .i64 0]) ∧ Ls w' g now (epoch + 1) nd (now + tk) ∧ Sole g w w' := by
  have d1 : decide (nd < 1) = false := by simp; omega
  have d2 : decide (8 < nd) = false := by simp; omega
  have HH := Lib.hid hh
  clear hh
  go_enter Try.func28, Try.ntmps28
  go_wp2_with fail
  refine (ticksOK_yes _ _ h3 h4).mono ?_
  rintro e w' ⟨rfl, rfl⟩
  go_wp2_with fail
  refine (held_any _ _ _ _ _ _ hl).mono ?_
  rintro e w' ⟨rfl, k, rfl⟩
  rw [HH.out]
  have hl2 : Ls (w.drewN k) g now epoch node en := Box.drewN hl k
  have hs2 : Sole g w (w.drewN k) := (Sole.refl g w).drewN k
  generalize w.drewN k = w2 at *
  have c0 := hl2.c0
  have c1 := hl2.c1
  have f1 := Box.frozen hl2 1
  have f2 := Box.frozen hl2 2
  have f3 := Box.frozen hl2 3
  have c2 := hl2.c2
  have c3 := hl2.c3
  go_wp2_with fail
  go_ret2
  exact ⟨rfl, Box.set (Box.set (Box.set hl2 1 _) 2 _) 3 _, ((hs2.own _ _).own _ _).own _ _⟩

theorem leave_no (hl : Ls w g now epoch node en) (hh : ownsB node epoch nd tk = false) :
    Calls Try.prog 27 #[.pointer (some ⟨g, 0, none⟩), .int .i64 nd, .int .i64 tk] w fun e w' => e = .returned (.int .i64 4) ∧ w = w' := by
  have HH := Lib.hid hh
  clear hh
  go_enter Try.func27, Try.ntmps27
  go_wp2_with fail
  refine (owns_any _ _ _ _ _ _ _ _ hl).mono ?_
  rintro e w' ⟨rfl, rfl⟩
  rw [HH.out]
  go_wp2_with fail
  go_ret
  exact ⟨rfl, rfl⟩
theorem leave_yes (hl : Ls w g now epoch node en) (hh : ownsB node epoch nd tk = true) :
    Calls Try.prog 27 #[.pointer (some ⟨g, 0, none⟩), .int .i64 nd, .int .i64 tk] w fun e w' => e = .returned (.int .i64 0) ∧ Ls w' g now epoch 0 en ∧ Sole g w w' := by
  have HH := Lib.hid hh
  clear hh
  have c2 := hl.c2
  have f2 := Box.frozen hl 2
  go_enter Try.func27, Try.ntmps27
  go_wp2_with fail
  refine (owns_any _ _ _ _ _ _ _ _ hl).mono ?_
  rintro e w' ⟨rfl, rfl⟩
  rw [HH.out]
  go_wp2_with fail
  go_ret
  exact ⟨rfl, Box.set hl 2 _, (Sole.refl _ _).own _ _⟩

set_option maxHeartbeats 400000 in
theorem who_no (hl : Ls w g now epoch node en) (hh : heldB now node en = false) :
    Calls Try.prog 33 #[.pointer (some ⟨g, 0, none⟩)] w fun e w' => e = .returned (.tuple #[.int .i64 0, .int .i64 epoch, .int .i64 0]) ∧ ∃ k, w' = w.drewN k := by
  have HH := Lib.hid hh
  clear hh
  have c1 := hl.c1
  go_enter Try.func33, Try.ntmps33
  go_wp2_with fail
  refine (held_any _ _ _ _ _ _ hl).mono ?_
  rintro e w' ⟨rfl, k, rfl⟩
  rw [HH.out]
  go_wp2_with fail
  go_quiet (fail)
  go_wp2_with fail
  go_ret3
  exact ⟨rfl, drewN_ex _ _ _⟩
set_option maxHeartbeats 400000 in
theorem who_yes (hl : Ls w g now epoch node en) (hh : heldB now node en = true) (h1 : 0 ≤ now) (h2 : now ≤ 4611686018427387904) (h3 : 0 ≤ en) (h4 : en ≤ 4611686018427387904) :
    Calls Try.prog 33 #[.pointer (some ⟨g, 0, none⟩)] w fun e w' => e = .returned (.tuple #[.int .i64 node, .int .i64 epoch, .int .i64 (en - now)]) ∧ ∃ k, w' = w.drewN k := by
  have HH := Lib.hid hh
  clear hh
  have c0 := hl.c0
  have c1 := hl.c1
  have c2 := hl.c2
  have c3 := hl.c3
  go_enter Try.func33, Try.ntmps33
  go_wp2_with fail
  refine (held_any _ _ _ _ _ _ hl).mono ?_
  rintro e w' ⟨rfl, k, rfl⟩
  rw [HH.out]
  have wr : IntKind.i64.wrap (en - now) = en - now := IntWalk.i64_in _ (by omega)
  go_wp2_with fail
  go_quiet (fail)
  go_wp2_with fail
  go_ret3
  exact ⟨rfl, drewN_ex _ _ _⟩

theorem keep_bad (ep : Int) (h : tk < 1 ∨ 1000 < tk) :
    Calls Try.prog 32 #[.pointer (some ⟨g, 0, none⟩), .int .i64 nd, .int .i64 ep, .int .i64 tk] w fun e w' => e = .returned (.int .i64 1) ∧ w = w' := by
  go_enter Try.func32, Try.ntmps32
  go_wp2_with fail
  refine (ticksOK_no _ _ h).mono ?_
  rintro e w' ⟨rfl, rfl⟩
  go_wp2_with fail
  go_ret
  exact ⟨rfl, rfl⟩
theorem keep_none (ep : Int) (hl : Ls w g now epoch node en) (h1 : 1 ≤ tk) (h2 : tk ≤ 1000) (hh : ownsB node epoch nd ep = false) :
    Calls Try.prog 32 #[.pointer (some ⟨g, 0, none⟩), .int .i64 nd, .int .i64 ep, .int .i64 tk] w fun e w' => e = .returned (.int .i64 4) ∧ w = w' := by
  have HH := Lib.hid hh
  clear hh
  go_enter Try.func32, Try.ntmps32
  go_wp2_with fail
  refine (ticksOK_yes _ _ h1 h2).mono ?_
  rintro e w' ⟨rfl, rfl⟩
  go_wp2_with fail
  refine (owns_any _ _ _ _ _ _ _ _ hl).mono ?_
  rintro e w' ⟨rfl, rfl⟩
  rw [HH.out]
  go_wp2_with fail
  go_ret
  exact ⟨rfl, rfl⟩
theorem keep_gone (ep : Int) (hl : Ls w g now epoch node en) (h1 : 1 ≤ tk) (h2 : tk ≤ 1000) (hh : ownsB node epoch nd ep = true) (hd : heldB now node en = false) :
    Calls Try.prog 32 #[.pointer (some ⟨g, 0, none⟩), .int .i64 nd, .int .i64 ep, .int .i64 tk] w fun e w' => e = .returned (.int .i64 23) ∧ ∃ k, w' = w.drewN k := by
  have HH := Lib.hid hh
  have HD := Lib.hid hd
  clear hh hd
  go_enter Try.func32, Try.ntmps32
  go_wp2_with fail
  refine (ticksOK_yes _ _ h1 h2).mono ?_
  rintro e w' ⟨rfl, rfl⟩
  go_wp2_with fail
  refine (owns_any _ _ _ _ _ _ _ _ hl).mono ?_
  rintro e w' ⟨rfl, rfl⟩
  rw [HH.out]
  go_wp2_with fail
  refine (held_any _ _ _ _ _ _ hl).mono ?_
  rintro e w' ⟨rfl, k, rfl⟩
  rw [HD.out]
  go_wp2_with fail
  go_ret
  exact ⟨rfl, _, rfl⟩
set_option maxHeartbeats 800000 in
theorem keep_ok (ep : Int) (hl : Ls w g now epoch node en) (h1 : 1 ≤ tk) (h2 : tk ≤ 1000) (hh : ownsB node epoch nd ep = true) (hd : heldB now node en = true) (h3 : 0 ≤ now) (h4 : now ≤ 1099511627776) :
    Calls Try.prog 32 #[.pointer (some ⟨g, 0, none⟩), .int .i64 nd, .int .i64 ep, .int .i64 tk] w fun e w' => e = .returned (.int .i64 0) ∧ Ls w' g now epoch node (max en (now + tk)) ∧ Sole g w w' := by
  have HH := Lib.hid hh
  have HD := Lib.hid hd
  clear hh hd
  have hcase : (en < now + tk ∧ max en (now + tk) = now + tk) ∨ (¬ en < now + tk ∧ max en (now + tk) = en) := by omega
  rcases hcase with ⟨hlt, hmx⟩ | ⟨hlt, hmx⟩
  all_goals
    rw [hmx]
    clear hmx
    go_enter Try.func32, Try.ntmps32
    go_wp2_with fail
    refine (ticksOK_yes _ _ h1 h2).mono ?_
    rintro e w' ⟨rfl, rfl⟩
    go_wp2_with fail
    refine (owns_any _ _ _ _ _ _ _ _ hl).mono ?_
    rintro e w' ⟨rfl, rfl⟩
    rw [HH.out]
    go_wp2_with fail
    refine (held_any _ _ _ _ _ _ hl).mono ?_
    rintro e w' ⟨rfl, k, rfl⟩
    rw [HD.out]
    have hl2 : Ls (w.drewN k) g now epoch node en := Box.drewN hl k
    have hs2 : Sole g w (w.drewN k) := (Sole.refl g w).drewN k
    generalize w.drewN k = w2 at *
    have c0 := hl2.c0
    have c3 := hl2.c3
    have f3 := Box.frozen hl2 3
    go_wp2_with fail
    go_region
    go_wp2_with fail
    go_ret
    exact ⟨rfl, Box.drew (Box.set hl2 3 _), (hs2.own _ _).drew⟩
end
end Go.Proofs.Ytjblfkoepedhpaa
