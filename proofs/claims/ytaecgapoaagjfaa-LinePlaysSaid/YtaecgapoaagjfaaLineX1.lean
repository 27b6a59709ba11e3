/-
  One end: made, idle, what it got.
-/
import Derived.Test.YtaecgapoaagjfaaLineSt
namespace Go.Proofs.Ytaecgapoaagjfaa
open Go.RowKit

section
variable {w : World} {B0 g m : Nat} {s s' : LS} {r : LR} {f : Nat → Nat}
/-- One cell of the end itself turns. -/
theorem LineAt.xcell (h : LineAt w B0 g m s r f) (i : Nat) (v : Value) (hx : (xCells s r).setIfInBounds i v = xCells s' r) (hy : mCells s' r = mCells s r) (hQ : s'.Q = s.Q) (hI : s'.I = s.I) (hA : s'.All = s.All) (hG : (s'.Got, s'.ref) = (s.Got, s.ref)) : LineAt (w.setCell ⟨g, i, none⟩ v) B0 g m s' r f := by
  have ho : Only (fun b => f b = 1) w (w.setCell ⟨g, i, none⟩ v) := (Only.refl (fun b => f b = 1) w).set (p := ⟨g, i, none⟩) h.fg v
  have hgm : s.ref = true → m ≠ g := fun hr e => by have h1 := h.fg; have h2 := h.fm hr; rw [← e] at h1; omega
  injection hG with hG hF
  refine ⟨by rw [← hx]; exact h.x.set i v, (fun hr => by rw [hF] at hr; rw [hy]; exact (h.y hr).far (p := ⟨g, i, none⟩) (hgm hr) _), ?_, ?_, ?_, ?_, h.fg, (fun hr => h.fm (by rw [← hF]; exact hr)), h.f1, h.f2, h.f3, h.f4, h.hg, h.hm⟩
  · rw [hQ]; exact h.o1.only ho (fun b hb => by rw [h.f1 b hb]; omega) (fun b hb _ => ⟨by rw [hb]; omega, hb⟩)
  · rw [hI]; exact h.o2.only ho (fun b hb => by rw [h.f2 b hb]; omega) (fun b hb _ => ⟨by rw [hb]; omega, hb⟩)
  · rw [hA]; exact h.o3.only ho (fun b hb => by rw [h.f3 b hb]; omega) (fun b hb _ => ⟨by rw [hb]; omega, hb⟩)
  · rw [hG]; exact h.o4.only ho (fun b hb => by rw [h.f4 b hb]; omega) (fun b hb _ => ⟨by rw [hb]; omega, hb⟩)
theorem LineAt.ycell (h : LineAt w B0 g m s r f) (hr : s.ref = true) (i : Nat) (v : Value) (hx : xCells s' r = xCells s r) (hy : (mCells s r).setIfInBounds i v = mCells s' r) (hQ : s'.Q = s.Q) (hI : s'.I = s.I) (hA : s'.All = s.All) (hG : (s'.Got, s'.ref) = (s.Got, s.ref)) : LineAt (w.setCell ⟨m, i, none⟩ v) B0 g m s' r f := by
  have ho : Only (fun b => f b = 2) w (w.setCell ⟨m, i, none⟩ v) := (Only.refl (fun b => f b = 2) w).set (p := ⟨m, i, none⟩) (h.fm hr) v
  have hgm : g ≠ m := fun e => by have h1 := h.fg; have h2 := h.fm hr; rw [e] at h1; omega
  injection hG with hG hF
  refine ⟨by rw [hx]; exact h.x.far (p := ⟨m, i, none⟩) hgm _, (fun _ => by rw [← hy]; exact (h.y hr).set i v), ?_, ?_, ?_, ?_, h.fg, (fun _ => h.fm hr), h.f1, h.f2, h.f3, h.f4, h.hg, h.hm⟩
  · rw [hQ]; exact h.o1.only ho (fun b hb => by rw [h.f1 b hb]; omega) (fun b hb _ => ⟨by rw [hb]; omega, hb⟩)
  · rw [hI]; exact h.o2.only ho (fun b hb => by rw [h.f2 b hb]; omega) (fun b hb _ => ⟨by rw [hb]; omega, hb⟩)
  · rw [hA]; exact h.o3.only ho (fun b hb => by rw [h.f3 b hb]; omega) (fun b hb _ => ⟨by rw [hb]; omega, hb⟩)
  · rw [hG]; exact h.o4.only ho (fun b hb => by rw [h.f4 b hb]; omega) (fun b hb _ => ⟨by rw [hb]; omega, hb⟩)
theorem LineAt.xs (h : LineAt w B0 g m s r f) : w.cell? ⟨g, 0, none⟩ = some (.int .i64 s.win) ∧ w.cell? ⟨g, 1, none⟩ = some (.int .i64 s.lim) ∧ w.cell? ⟨g, 2, none⟩ = some (.int .u32 s.base) ∧ w.cell? ⟨g, 3, none⟩ = some (.int .u32 s.want) ∧ w.cell? ⟨g, 4, none⟩ = some (.slice r.A1 r.l1.length r.c1) ∧ w.cell? ⟨g, 5, none⟩ = some (.slice r.A2 r.l2.length r.c2) ∧ w.cell? ⟨g, 6, none⟩ = some (.bool s.due) :=
  ⟨h.x.cell 0, h.x.cell 1, h.x.cell 2, h.x.cell 3, h.x.cell 4, h.x.cell 5, h.x.cell 6⟩
end

theorem newLine_any (n : Int) (w : World) (h1 : 1 ≤ n) (h2 : n ≤ 16) :
    Calls Try.prog 41 #[.int .i64 n] w fun e w' => e = .returned (.tuple #[.pointer (some ⟨w.heap.size, 0, none⟩), .int .i64 0]) ∧ w' = w.alloc (.cells #[.int .i64 n, .int .i64 n, .int .u32 0, .int .u32 0, .slice none 0 0, .slice none 0 0, .bool false] 276) := by
  have d1 : decide (n < 1) = false := by simp; omega
  have d2 : decide (16 < n) = false := by simp; omega
  go_enter Try.func41, Try.ntmps41
  go_wp2_with fail
  go_ret2
  exact ⟨rfl, rfl⟩
theorem newLine_bad (n : Int) (w : World) (h : n < 1 ∨ 16 < n) :
    Calls Try.prog 41 #[.int .i64 n] w fun e w' => e = .returned (.tuple #[.pointer none, .int .i64 1]) ∧ w = w' := by
  by_cases h1 : n < 1
  · have d1 : decide (n < 1) = true := by simp; omega
    clear h
    go_enter Try.func41, Try.ntmps41
    go_wp2_with fail
    go_ret2
    exact ⟨rfl, rfl⟩
  · have d1 : decide (n < 1) = false := by simp; omega
    have d2 : decide (16 < n) = true := by simp; omega
    clear h
    go_enter Try.func41, Try.ntmps41
    go_wp2_with fail
    go_ret2
    exact ⟨rfl, rfl⟩

theorem idle_any (B0 g m : Nat) (s : LS) (r : LR) (f : Nat → Nat) (w : World) (h : LineAt w B0 g m s r f) :
    Calls Try.prog 56 #[.pointer (some ⟨g, 0, none⟩)] w fun e w' => e = .returned (.bool (decide (s.Q = []))) ∧ w = w' := by
  obtain ⟨_, _, _, _, c4, _, _⟩ := h.xs
  have HE := Lib.hid (show ((r.l1.length : Int) == 0) = decide (s.Q = []) by
    rw [h.o1.1]
    cases s.Q <;> simp; omega)
  generalize decide (s.Q = []) = q at *
  generalize r.l1.length = n at *
  clear h
  go_enter Try.func56, Try.ntmps56
  go_wp2_with fail
  go_ret
  exact ⟨by rw [← HE.out]; simp, rfl⟩

set_option maxRecDepth 100000 in
theorem got_any (B0 g m : Nat) (s : LS) (r : LR) (f : Nat → Nat) (w : World) (h : LineAt w B0 g m s r f) :
    Calls Try.prog 53 #[.pointer (some ⟨g, 0, none⟩)] w fun e w' => e = .returned (.slice r.A2 r.l2.length r.c2) ∧ bodyMk w' B0 (fun b => f b = 0) 0 r.A2 r.c2 r.l2 s.I ∧ Only (fun b => f b = 1) w w' ∧ ∃ f', LineAt w' B0 g m { s with I := [], due := s.due || decide (0 < s.I.length) } { r with A2 := none, c2 := 0, l2 := [] } f' := by
  obtain ⟨_, _, _, _, _, c5, c6⟩ := h.xs
  have f5 := h.x.frozen 5
  have f6 := h.x.frozen 6
  have h1 := h.put2 (Only.refl (fun b => f b = 4) w) (A := none) (c := 0) (l := []) (vs := []) bodyMk.nil (fun b hb => by cases hb)
  have HL := Lib.hid (fun (q : Bool) => h1.xcell (s' := { s with I := [], due := q }) 6 (.bool q) rfl rfl rfl rfl rfl rfl)
  have HO := Lib.hid (fun (q : Bool) => (((Only.refl (fun b => f b = 1) w).set (p := ⟨g, 5, none⟩) h.fg (.slice none 0 0)).set (p := ⟨g, 6, none⟩) h.fg (.bool q)))
  have HK := Lib.hid (fun (q : Bool) => h.o2.only (S' := fun b => f b = 0) (HO.out q) (fun b hb => by rw [h.f2 b hb]; omega) (fun b hb _ => ⟨by rw [hb]; omega, hb⟩))
  have hl := h.o2.1
  rw [show decide (0 < s.I.length) = decide (0 < r.l2.length) by rw [hl]]
  generalize hdue : s.due = due at *
  generalize r.l2.length = n at *
  clear h h1 hl
  by_cases hn : 0 < n
  · have dn : decide ((0 : Int) < (n : Int)) = true := by simp; omega
    have dn' : decide (0 < n) = true := by simp; omega
    rw [dn']
    cases due
    · go_enter Try.func53, Try.ntmps53
      go_wp2_with fail
      go_ret
      exact ⟨rfl, HK.out true, HO.out true, _, HL.out true⟩
    · go_enter Try.func53, Try.ntmps53
      go_wp2_with fail
      go_ret
      exact ⟨rfl, HK.out true, HO.out true, _, HL.out true⟩
  · have dn : decide ((0 : Int) < (n : Int)) = false := by simp; omega
    have dn' : decide (0 < n) = false := by simp; omega
    rw [dn']
    cases due
    · go_enter Try.func53, Try.ntmps53
      go_wp2_with fail
      go_ret
      exact ⟨rfl, HK.out false, HO.out false, _, HL.out false⟩
    · go_enter Try.func53, Try.ntmps53
      go_wp2_with fail
      go_ret
      exact ⟨rfl, HK.out true, HO.out true, _, HL.out true⟩
end Go.Proofs.Ytaecgapoaagjfaa
