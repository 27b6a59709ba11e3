
/-
  Package term and its reference: the value of a word.
-/
import Derived.Test.YtgjimjpbogadjaaTermV
namespace Go.Proofs.Ytgjimjpbogadjaa
open Go.RowKit

/-- The kind of the values with a tag. -/
def kindOf (t : Int) : Int := if t = 0 then 1 else if t = 1 then 2 else if t = 2 then 3 else 6
/-- Has a word a value by itself? -/
def valB (u : Int) : Bool := readB u && decide (u % 8 ≠ 4)
def leafAgg (u : Int) : Value := .agg #[.int .i64 (if valB u then kindOf (u % 8) else 0), .int .i64 (if valB u then readN u else 0), .string ⟨#[]⟩, .slice none 0 0]

/-- A struct result that lies in memory: all four cells were stored. -/
theorem four_stored {w w2 : World} {g : Nat} {y0 y1 y2 y3 : Value} (k q : Int) (x : Box w2 g 26 #[y0, y1, y2, y3]) (hb : Below w.heap.size w w2) (hg : w.heap.size ≤ g) :
    Box ((((w2.setCell ⟨g, 0, none⟩ (.int .i64 k)).setCell ⟨g, 1, none⟩ (.int .i64 q)).setCell ⟨g, 2, none⟩ (.string ⟨#[]⟩)).setCell ⟨g, 3, none⟩ (.slice none 0 0)) g 26 #[.int .i64 k, .int .i64 q, .string ⟨#[]⟩, .slice none 0 0] ∧
    Below w.heap.size w ((((w2.setCell ⟨g, 0, none⟩ (.int .i64 k)).setCell ⟨g, 1, none⟩ (.int .i64 q)).setCell ⟨g, 2, none⟩ (.string ⟨#[]⟩)).setCell ⟨g, 3, none⟩ (.slice none 0 0)) :=
  ⟨(((x.set 0 _).set 1 _).set 2 _).set 3 _, (((hb.setCell (p := ⟨g, 0, none⟩) hg _).setCell (p := ⟨g, 1, none⟩) hg _).setCell (p := ⟨g, 2, none⟩) hg _).setCell (p := ⟨g, 3, none⟩) hg _⟩

set_option maxRecDepth 100000 in
set_option maxHeartbeats 1000000 in
theorem valueOf_any (u : Int) (w : World) (h1 : 0 ≤ u) (h2 : u < 18446744073709551616) :
    Calls Try.prog 68 #[.int .u64 u] w fun e w' => e = .returned (.tuple #[leafAgg u, .bool (valB u)]) ∧ Below w.heap.size w w' := by
  have htr := fun w => tagRead_any u w h1 h2
  have HTR := Lib.hid htr
  have HVV := Lib.hid (show leafAgg u = .agg #[.int .i64 (if valB u then kindOf (u % 8) else 0), .int .i64 (if valB u then readN u else 0), .string ⟨#[]⟩, .slice none 0 0] from rfl)
  have HVB := Lib.hid (show valB u = (readB u && decide (u % 8 ≠ 4)) from rfl)
  have HRB := Lib.hid (show readB u = true → u % 8 ≤ 4 from fun h => by simp only [readB, Bool.and_eq_true, decide_eq_true_eq] at h; exact h.1)
  have hm1 : 0 ≤ u % 8 := by omega
  rw [HVV.out]
  clear htr HVV h1 h2
  generalize u % 8 = m at *
  generalize readN u = q at *
  generalize valB u = V at *
  generalize readB u = R at *
  cases R
  · obtain rfl : V = false := HVB.out
    simp only [Bool.false_eq_true, if_false] at HTR ⊢
    clear HVB HRB
    go_enter Try.func68, Try.ntmps68
    go_wp2_with fail
    refine (HTR.out _).mono ?_
    rintro e w' ⟨rfl, rfl⟩
    go_wp2_with fail
    exact bodyPost_ret (v := .tuple #[.agg #[.int .i64 0, .int .i64 0, .string ⟨#[]⟩, .slice none 0 0], .bool false]) (by simp [results, Try.results68, go_sem]) rfl ⟨rfl, ((Below.refl _ _).alloc (Nat.le_refl _) _)⟩
  · have hm2 := HRB.out rfl
    clear HRB
    simp only [if_true] at HTR
    have hcase : m = 4 ∨ m = 0 ∨ m = 1 ∨ m = 2 ∨ m = 3 := by omega
    rcases hcase with rfl | rfl | rfl | rfl | rfl
    · obtain rfl : V = false := HVB.out
      simp only [Bool.false_eq_true, if_false]
      clear HVB
      go_enter Try.func68, Try.ntmps68
      go_wp2_with fail
      refine (HTR.out _).mono ?_
      rintro e w' ⟨rfl, rfl⟩
      go_wp2_with fail
      exact bodyPost_ret (v := .tuple #[.agg #[.int .i64 0, .int .i64 0, .string ⟨#[]⟩, .slice none 0 0], .bool false]) (by simp [results, Try.results68, go_sem]) rfl ⟨rfl, ((Below.refl _ _).alloc (Nat.le_refl _) _)⟩
    · -- tag 0
      obtain rfl : V = true := HVB.out
      simp only [if_true] at HTR ⊢
      rw [show kindOf 0 = 1 from rfl]
      have ix : ∀ u : World, (Instr.index 205 (.agg #[.int .i64 1, .int .i64 2, .int .i64 3, .int .i64 6]) (.int .i64 0)).run Try.prog u = .ok (.int .i64 1) u := fun _ => by kernel_rfl
      clear HVB
      go_enter Try.func68, Try.ntmps68
      go_wp2_with fail
      refine (HTR.out _).mono ?_
      rintro e w' ⟨rfl, rfl⟩
      go_wp2_with fail
      refine (kinds_any _).mono ?_
      rintro e w2 ⟨rfl, hb2⟩
      have x0 := Box.new w 26 #[.int .i64 0, .int .i64 0, .string ⟨#[]⟩, .slice none 0 0]
      have hb1 : Below w.heap.size w (w.alloc (.cells #[.int .i64 0, .int .i64 0, .string ⟨#[]⟩, .slice none 0 0] 26)) := (Below.refl _ _).alloc (Nat.le_refl _) _
      have x1 := x0.below hb2 x0.lt
      have HB := Lib.hid (hb1.trans (hb2.mono hb1.size))
      have c0 : w2.cell? ⟨w.heap.size, 0, none⟩ = some (.int .i64 0) := by simpa using x1.cell 0
      have c1 : w2.cell? ⟨w.heap.size, 1, none⟩ = some (.int .i64 0) := by simpa using x1.cell 1
      have c2 : w2.cell? ⟨w.heap.size, 2, none⟩ = some (.string ⟨#[]⟩) := by simpa using x1.cell 2
      have c3 : w2.cell? ⟨w.heap.size, 3, none⟩ = some (.slice none 0 0) := by simpa using x1.cell 3
      have f0 := x1.frozen 0
      have f1 := x1.frozen 1
      have f2 := x1.frozen 2
      have f3 := x1.frozen 3
      have HX := Lib.hid x1
      clear x0 hb1 hb2 x1
      go_wp2_with fail
      obtain ⟨x3, hb3⟩ := four_stored 1 q HX.out HB.out (Nat.le_refl _)
      generalize (((w2.setCell ⟨w.heap.size, 0, none⟩ (.int .i64 1)).setCell ⟨w.heap.size, 1, none⟩ (.int .i64 q)).setCell ⟨w.heap.size, 2, none⟩ (.string ⟨#[]⟩)).setCell ⟨w.heap.size, 3, none⟩ (.slice none 0 0) = w3 at *
      have e0 : w3.cell? ⟨w.heap.size, 0, none⟩ = some (.int .i64 1) := by simpa using x3.cell 0
      have e1 : w3.cell? ⟨w.heap.size, 1, none⟩ = some (.int .i64 q) := by simpa using x3.cell 1
      have e2 : w3.cell? ⟨w.heap.size, 2, none⟩ = some (.string ⟨#[]⟩) := by simpa using x3.cell 2
      have e3 : w3.cell? ⟨w.heap.size, 3, none⟩ = some (.slice none 0 0) := by simpa using x3.cell 3
      exact bodyPost_ret (v := .tuple #[.agg #[.int .i64 1, .int .i64 q, .string ⟨#[]⟩, .slice none 0 0], .bool true]) (by simp [results, Try.results68, go_sem, e0, e1, e2, e3]) rfl ⟨rfl, hb3⟩
    · -- tag 1
      obtain rfl : V = true := HVB.out
      simp only [if_true] at HTR ⊢
      rw [show kindOf 1 = 2 from rfl]
      have ix : ∀ u : World, (Instr.index 205 (.agg #[.int .i64 1, .int .i64 2, .int .i64 3, .int .i64 6]) (.int .i64 1)).run Try.prog u = .ok (.int .i64 2) u := fun _ => by kernel_rfl
      clear HVB
      go_enter Try.func68, Try.ntmps68
      go_wp2_with fail
      refine (HTR.out _).mono ?_
      rintro e w' ⟨rfl, rfl⟩
      go_wp2_with fail
      refine (kinds_any _).mono ?_
      rintro e w2 ⟨rfl, hb2⟩
      have x0 := Box.new w 26 #[.int .i64 0, .int .i64 0, .string ⟨#[]⟩, .slice none 0 0]
      have hb1 : Below w.heap.size w (w.alloc (.cells #[.int .i64 0, .int .i64 0, .string ⟨#[]⟩, .slice none 0 0] 26)) := (Below.refl _ _).alloc (Nat.le_refl _) _
      have x1 := x0.below hb2 x0.lt
      have HB := Lib.hid (hb1.trans (hb2.mono hb1.size))
      have c0 : w2.cell? ⟨w.heap.size, 0, none⟩ = some (.int .i64 0) := by simpa using x1.cell 0
      have c1 : w2.cell? ⟨w.heap.size, 1, none⟩ = some (.int .i64 0) := by simpa using x1.cell 1
      have c2 : w2.cell? ⟨w.heap.size, 2, none⟩ = some (.string ⟨#[]⟩) := by simpa using x1.cell 2
      have c3 : w2.cell? ⟨w.heap.size, 3, none⟩ = some (.slice none 0 0) := by simpa using x1.cell 3
      have f0 := x1.frozen 0
      have f1 := x1.frozen 1
      have f2 := x1.frozen 2
      have f3 := x1.frozen 3
      have HX := Lib.hid x1
      clear x0 hb1 hb2 x1
      go_wp2_with fail
      obtain ⟨x3, hb3⟩ := four_stored 2 q HX.out HB.out (Nat.le_refl _)
      generalize (((w2.setCell ⟨w.heap.size, 0, none⟩ (.int .i64 2)).setCell ⟨w.heap.size, 1, none⟩ (.int .i64 q)).setCell ⟨w.heap.size, 2, none⟩ (.string ⟨#[]⟩)).setCell ⟨w.heap.size, 3, none⟩ (.slice none 0 0) = w3 at *
      have e0 : w3.cell? ⟨w.heap.size, 0, none⟩ = some (.int .i64 2) := by simpa using x3.cell 0
      have e1 : w3.cell? ⟨w.heap.size, 1, none⟩ = some (.int .i64 q) := by simpa using x3.cell 1
      have e2 : w3.cell? ⟨w.heap.size, 2, none⟩ = some (.string ⟨#[]⟩) := by simpa using x3.cell 2
      have e3 : w3.cell? ⟨w.heap.size, 3, none⟩ = some (.slice none 0 0) := by simpa using x3.cell 3
      exact bodyPost_ret (v := .tuple #[.agg #[.int .i64 2, .int .i64 q, .string ⟨#[]⟩, .slice none 0 0], .bool true]) (by simp [results, Try.results68, go_sem, e0, e1, e2, e3]) rfl ⟨rfl, hb3⟩
    · -- tag 2
      obtain rfl : V = true := HVB.out
      simp only [if_true] at HTR ⊢
      rw [show kindOf 2 = 3 from rfl]
      have ix : ∀ u : World, (Instr.index 205 (.agg #[.int .i64 1, .int .i64 2, .int .i64 3, .int .i64 6]) (.int .i64 2)).run Try.prog u = .ok (.int .i64 3) u := fun _ => by kernel_rfl
      clear HVB
      go_enter Try.func68, Try.ntmps68
      go_wp2_with fail
      refine (HTR.out _).mono ?_
      rintro e w' ⟨rfl, rfl⟩
      go_wp2_with fail
      refine (kinds_any _).mono ?_
      rintro e w2 ⟨rfl, hb2⟩
      have x0 := Box.new w 26 #[.int .i64 0, .int .i64 0, .string ⟨#[]⟩, .slice none 0 0]
      have hb1 : Below w.heap.size w (w.alloc (.cells #[.int .i64 0, .int .i64 0, .string ⟨#[]⟩, .slice none 0 0] 26)) := (Below.refl _ _).alloc (Nat.le_refl _) _
      have x1 := x0.below hb2 x0.lt
      have HB := Lib.hid (hb1.trans (hb2.mono hb1.size))
      have c0 : w2.cell? ⟨w.heap.size, 0, none⟩ = some (.int .i64 0) := by simpa using x1.cell 0
      have c1 : w2.cell? ⟨w.heap.size, 1, none⟩ = some (.int .i64 0) := by simpa using x1.cell 1
      have c2 : w2.cell? ⟨w.heap.size, 2, none⟩ = some (.string ⟨#[]⟩) := by simpa using x1.cell 2
      have c3 : w2.cell? ⟨w.heap.size, 3, none⟩ = some (.slice none 0 0) := by simpa using x1.cell 3
      have f0 := x1.frozen 0
      have f1 := x1.frozen 1
      have f2 := x1.frozen 2
      have f3 := x1.frozen 3
      have HX := Lib.hid x1
      clear x0 hb1 hb2 x1
      go_wp2_with fail
      obtain ⟨x3, hb3⟩ := four_stored 3 q HX.out HB.out (Nat.le_refl _)
      generalize (((w2.setCell ⟨w.heap.size, 0, none⟩ (.int .i64 3)).setCell ⟨w.heap.size, 1, none⟩ (.int .i64 q)).setCell ⟨w.heap.size, 2, none⟩ (.string ⟨#[]⟩)).setCell ⟨w.heap.size, 3, none⟩ (.slice none 0 0) = w3 at *
      have e0 : w3.cell? ⟨w.heap.size, 0, none⟩ = some (.int .i64 3) := by simpa using x3.cell 0
      have e1 : w3.cell? ⟨w.heap.size, 1, none⟩ = some (.int .i64 q) := by simpa using x3.cell 1
      have e2 : w3.cell? ⟨w.heap.size, 2, none⟩ = some (.string ⟨#[]⟩) := by simpa using x3.cell 2
      have e3 : w3.cell? ⟨w.heap.size, 3, none⟩ = some (.slice none 0 0) := by simpa using x3.cell 3
      exact bodyPost_ret (v := .tuple #[.agg #[.int .i64 3, .int .i64 q, .string ⟨#[]⟩, .slice none 0 0], .bool true]) (by simp [results, Try.results68, go_sem, e0, e1, e2, e3]) rfl ⟨rfl, hb3⟩
    · -- tag 3
      obtain rfl : V = true := HVB.out
      simp only [if_true] at HTR ⊢
      rw [show kindOf 3 = 6 from rfl]
      have ix : ∀ u : World, (Instr.index 205 (.agg #[.int .i64 1, .int .i64 2, .int .i64 3, .int .i64 6]) (.int .i64 3)).run Try.prog u = .ok (.int .i64 6) u := fun _ => by kernel_rfl
      clear HVB
      go_enter Try.func68, Try.ntmps68
      go_wp2_with fail
      refine (HTR.out _).mono ?_
      rintro e w' ⟨rfl, rfl⟩
      go_wp2_with fail
      refine (kinds_any _).mono ?_
      rintro e w2 ⟨rfl, hb2⟩
      have x0 := Box.new w 26 #[.int .i64 0, .int .i64 0, .string ⟨#[]⟩, .slice none 0 0]
      have hb1 : Below w.heap.size w (w.alloc (.cells #[.int .i64 0, .int .i64 0, .string ⟨#[]⟩, .slice none 0 0] 26)) := (Below.refl _ _).alloc (Nat.le_refl _) _
      have x1 := x0.below hb2 x0.lt
      have HB := Lib.hid (hb1.trans (hb2.mono hb1.size))
      have c0 : w2.cell? ⟨w.heap.size, 0, none⟩ = some (.int .i64 0) := by simpa using x1.cell 0
      have c1 : w2.cell? ⟨w.heap.size, 1, none⟩ = some (.int .i64 0) := by simpa using x1.cell 1
      have c2 : w2.cell? ⟨w.heap.size, 2, none⟩ = some (.string ⟨#[]⟩) := by simpa using x1.cell 2
      have c3 : w2.cell? ⟨w.heap.size, 3, none⟩ = some (.slice none 0 0) := by simpa using x1.cell 3
      have f0 := x1.frozen 0
      have f1 := x1.frozen 1
      have f2 := x1.frozen 2
      have f3 := x1.frozen 3
      have HX := Lib.hid x1
      clear x0 hb1 hb2 x1
      go_wp2_with fail
      obtain ⟨x3, hb3⟩ := four_stored 6 q HX.out HB.out (Nat.le_refl _)
      generalize (((w2.setCell ⟨w.heap.size, 0, none⟩ (.int .i64 6)).setCell ⟨w.heap.size, 1, none⟩ (.int .i64 q)).setCell ⟨w.heap.size, 2, none⟩ (.string ⟨#[]⟩)).setCell ⟨w.heap.size, 3, none⟩ (.slice none 0 0) = w3 at *
      have e0 : w3.cell? ⟨w.heap.size, 0, none⟩ = some (.int .i64 6) := by simpa using x3.cell 0
      have e1 : w3.cell? ⟨w.heap.size, 1, none⟩ = some (.int .i64 q) := by simpa using x3.cell 1
      have e2 : w3.cell? ⟨w.heap.size, 2, none⟩ = some (.string ⟨#[]⟩) := by simpa using x3.cell 2
      have e3 : w3.cell? ⟨w.heap.size, 3, none⟩ = some (.slice none 0 0) := by simpa using x3.cell 3
      exact bodyPost_ret (v := .tuple #[.agg #[.int .i64 6, .int .i64 q, .string ⟨#[]⟩, .slice none 0 0], .bool true]) (by simp [results, Try.results68, go_sem, e0, e1, e2, e3]) rfl ⟨rfl, hb3⟩

set_option maxRecDepth 100000 in
set_option maxHeartbeats 2000000 in
theorem value_any (u : Int) (w : World) (h1 : 0 ≤ u) (h2 : u < 18446744073709551616) :
    Calls Try.prog 119 #[.int .u64 u] w fun e w' => e = .returned (.tuple #[leafAgg u, .bool (valB u)]) ∧ Below w.heap.size w w' := by
  have htr := fun w => read_any u w h1 h2
  have HTR := Lib.hid htr
  have HVV := Lib.hid (show leafAgg u = .agg #[.int .i64 (if valB u then kindOf (u % 8) else 0), .int .i64 (if valB u then readN u else 0), .string ⟨#[]⟩, .slice none 0 0] from rfl)
  have HVB := Lib.hid (show valB u = (readB u && decide (u % 8 ≠ 4)) from rfl)
  have HRB := Lib.hid (show readB u = true → u % 8 ≤ 4 from fun h => by simp only [readB, Bool.and_eq_true, decide_eq_true_eq] at h; exact h.1)
  have hm1 : 0 ≤ u % 8 := by omega
  rw [HVV.out]
  clear htr HVV h1 h2
  generalize u % 8 = m at *
  generalize readN u = q at *
  generalize valB u = V at *
  generalize readB u = R at *
  cases R
  · obtain rfl : V = false := HVB.out
    simp only [Bool.false_eq_true, if_false] at HTR ⊢
    clear HVB HRB
    go_enter Try.func119, Try.ntmps119
    go_wp2_with fail
    refine (HTR.out _).mono ?_
    rintro e w' ⟨rfl, rfl⟩
    go_wp2_with fail
    exact bodyPost_ret (v := .tuple #[.agg #[.int .i64 0, .int .i64 0, .string ⟨#[]⟩, .slice none 0 0], .bool false]) (by simp [results, Try.results119, go_sem]) rfl ⟨rfl, ((Below.refl _ _).alloc (Nat.le_refl _) _)⟩
  · have hm2 := HRB.out rfl
    clear HRB
    simp only [if_true] at HTR
    have HX0 := Lib.hid ((Box.new w 26 #[.int .i64 0, .int .i64 0, .string ⟨#[]⟩, .slice none 0 0]).alloc (.cells #[.int .i64 1, .int .i64 2, .int .i64 3, .int .i64 6] 3))
    have HXS := Lib.hid (show Box ((w.alloc (.cells #[.int .i64 0, .int .i64 0, .string ⟨#[]⟩, .slice none 0 0] 26)).alloc (.cells #[.int .i64 1, .int .i64 2, .int .i64 3, .int .i64 6] 3)) (w.heap.size + 1) 3 #[.int .i64 1, .int .i64 2, .int .i64 3, .int .i64 6] by simpa using Box.new (w.alloc (.cells #[.int .i64 0, .int .i64 0, .string ⟨#[]⟩, .slice none 0 0] 26)) 3 #[.int .i64 1, .int .i64 2, .int .i64 3, .int .i64 6])
    have HB0 := Lib.hid (show Below w.heap.size w ((w.alloc (.cells #[.int .i64 0, .int .i64 0, .string ⟨#[]⟩, .slice none 0 0] 26)).alloc (.cells #[.int .i64 1, .int .i64 2, .int .i64 3, .int .i64 6] 3)) from ((Below.refl _ _).alloc (Nat.le_refl _) _).alloc (by simp) _)
    go_enter Try.func119, Try.ntmps119
    go_wp2_with fail
    refine (HTR.out _).mono ?_
    rintro e w' ⟨rfl, rfl⟩
    go_wp2_with fail
    generalize (w.alloc (.cells #[.int .i64 0, .int .i64 0, .string ⟨#[]⟩, .slice none 0 0] 26)).alloc (.cells #[.int .i64 1, .int .i64 2, .int .i64 3, .int .i64 6] 3) = w2 at *
    have HX := HX0
    have XS := HXS
    have HB := HB0
    clear HX0 HXS HB0
    go_loop [20] (fun i => ∃ j : Nat, j ≤ 4 ∧ i = .int .i64 j ∧ (j : Int) ≤ m) (fun i => 4 - (intOf i).toNat)
    case atStart => exact ⟨0, by omega, rfl, by omega⟩
    case round =>
    obtain ⟨j, hj, rfl, hJ⟩ := hrel
    have hcase : j = 0 ∨ j = 1 ∨ j = 2 ∨ j = 3 ∨ j = 4 := by omega
    rcases hcase with rfl | rfl | rfl | rfl | rfl
    · -- round 0
      have hcx : w2.cell? ⟨w.heap.size + 1, 0, none⟩ = some (.int .i64 1) := by simpa using XS.out.cell 0
      by_cases he : m = 0
      · subst he
        obtain rfl : V = true := HVB.out
        have hkk : kindOf 0 = 1 := rfl
        go_wp2_with fail
        refine (tagged_any 1 _).mono ?_
        rintro e w' ⟨rfl, rfl⟩
        rw [show tagOf 1 = 0 from rfl]
        have c0 : w2.cell? ⟨w.heap.size, 0, none⟩ = some (.int .i64 0) := by simpa using HX.out.cell 0
        have c1 : w2.cell? ⟨w.heap.size, 1, none⟩ = some (.int .i64 0) := by simpa using HX.out.cell 1
        have c2 : w2.cell? ⟨w.heap.size, 2, none⟩ = some (.string ⟨#[]⟩) := by simpa using HX.out.cell 2
        have c3 : w2.cell? ⟨w.heap.size, 3, none⟩ = some (.slice none 0 0) := by simpa using HX.out.cell 3
        have f0 := HX.out.frozen 0
        have f1 := HX.out.frozen 1
        have f2 := HX.out.frozen 2
        have f3 := HX.out.frozen 3
        go_wp2_with fail
        obtain ⟨x3, hb3⟩ := four_stored 1 q HX.out HB.out (Nat.le_refl _)
        generalize (((w2.setCell ⟨w.heap.size, 0, none⟩ (.int .i64 1)).setCell ⟨w.heap.size, 1, none⟩ (.int .i64 q)).setCell ⟨w.heap.size, 2, none⟩ (.string ⟨#[]⟩)).setCell ⟨w.heap.size, 3, none⟩ (.slice none 0 0) = w3 at *
        have e0 : w3.cell? ⟨w.heap.size, 0, none⟩ = some (.int .i64 1) := by simpa using x3.cell 0
        have e1 : w3.cell? ⟨w.heap.size, 1, none⟩ = some (.int .i64 q) := by simpa using x3.cell 1
        have e2 : w3.cell? ⟨w.heap.size, 2, none⟩ = some (.string ⟨#[]⟩) := by simpa using x3.cell 2
        have e3 : w3.cell? ⟨w.heap.size, 3, none⟩ = some (.slice none 0 0) := by simpa using x3.cell 3
        exact bodyPost_ret (v := .tuple #[.agg #[.int .i64 1, .int .i64 q, .string ⟨#[]⟩, .slice none 0 0], .bool true]) (by simp [results, Try.results119, go_sem, e0, e1, e2, e3]) rfl ⟨rfl, hb3⟩
      · have b1 : ((0 : Int) == m) = false := beq_eq_false_iff_ne.2 (by omega)
        have hgt : (0 : Int) + 1 ≤ m := by omega
        go_wp2_with fail
        refine (tagged_any 1 _).mono ?_
        rintro e w' ⟨rfl, rfl⟩
        rw [show tagOf 1 = 0 from rfl]
        clear he
        go_wp2_with fail
        go_round
        case rel => exact ⟨0 + 1, by omega, by go_num, by omega⟩
        case measure => simp [intOf]
    · -- round 1
      have hcx : w2.cell? ⟨w.heap.size + 1, 1, none⟩ = some (.int .i64 2) := by simpa using XS.out.cell 1
      by_cases he : m = 1
      · subst he
        obtain rfl : V = true := HVB.out
        have hkk : kindOf 1 = 2 := rfl
        go_wp2_with fail
        refine (tagged_any 2 _).mono ?_
        rintro e w' ⟨rfl, rfl⟩
        rw [show tagOf 2 = 1 from rfl]
        have c0 : w2.cell? ⟨w.heap.size, 0, none⟩ = some (.int .i64 0) := by simpa using HX.out.cell 0
        have c1 : w2.cell? ⟨w.heap.size, 1, none⟩ = some (.int .i64 0) := by simpa using HX.out.cell 1
        have c2 : w2.cell? ⟨w.heap.size, 2, none⟩ = some (.string ⟨#[]⟩) := by simpa using HX.out.cell 2
        have c3 : w2.cell? ⟨w.heap.size, 3, none⟩ = some (.slice none 0 0) := by simpa using HX.out.cell 3
        have f0 := HX.out.frozen 0
        have f1 := HX.out.frozen 1
        have f2 := HX.out.frozen 2
        have f3 := HX.out.frozen 3
        go_wp2_with fail
        obtain ⟨x3, hb3⟩ := four_stored 2 q HX.out HB.out (Nat.le_refl _)
        generalize (((w2.setCell ⟨w.heap.size, 0, none⟩ (.int .i64 2)).setCell ⟨w.heap.size, 1, none⟩ (.int .i64 q)).setCell ⟨w.heap.size, 2, none⟩ (.string ⟨#[]⟩)).setCell ⟨w.heap.size, 3, none⟩ (.slice none 0 0) = w3 at *
        have e0 : w3.cell? ⟨w.heap.size, 0, none⟩ = some (.int .i64 2) := by simpa using x3.cell 0
        have e1 : w3.cell? ⟨w.heap.size, 1, none⟩ = some (.int .i64 q) := by simpa using x3.cell 1
        have e2 : w3.cell? ⟨w.heap.size, 2, none⟩ = some (.string ⟨#[]⟩) := by simpa using x3.cell 2
        have e3 : w3.cell? ⟨w.heap.size, 3, none⟩ = some (.slice none 0 0) := by simpa using x3.cell 3
        exact bodyPost_ret (v := .tuple #[.agg #[.int .i64 2, .int .i64 q, .string ⟨#[]⟩, .slice none 0 0], .bool true]) (by simp [results, Try.results119, go_sem, e0, e1, e2, e3]) rfl ⟨rfl, hb3⟩
      · have b1 : ((1 : Int) == m) = false := beq_eq_false_iff_ne.2 (by omega)
        have hgt : (1 : Int) + 1 ≤ m := by omega
        go_wp2_with fail
        refine (tagged_any 2 _).mono ?_
        rintro e w' ⟨rfl, rfl⟩
        rw [show tagOf 2 = 1 from rfl]
        clear he
        go_wp2_with fail
        go_round
        case rel => exact ⟨1 + 1, by omega, by go_num, by omega⟩
        case measure => simp [intOf]
    · -- round 2
      have hcx : w2.cell? ⟨w.heap.size + 1, 2, none⟩ = some (.int .i64 3) := by simpa using XS.out.cell 2
      by_cases he : m = 2
      · subst he
        obtain rfl : V = true := HVB.out
        have hkk : kindOf 2 = 3 := rfl
        go_wp2_with fail
        refine (tagged_any 3 _).mono ?_
        rintro e w' ⟨rfl, rfl⟩
        rw [show tagOf 3 = 2 from rfl]
        have c0 : w2.cell? ⟨w.heap.size, 0, none⟩ = some (.int .i64 0) := by simpa using HX.out.cell 0
        have c1 : w2.cell? ⟨w.heap.size, 1, none⟩ = some (.int .i64 0) := by simpa using HX.out.cell 1
        have c2 : w2.cell? ⟨w.heap.size, 2, none⟩ = some (.string ⟨#[]⟩) := by simpa using HX.out.cell 2
        have c3 : w2.cell? ⟨w.heap.size, 3, none⟩ = some (.slice none 0 0) := by simpa using HX.out.cell 3
        have f0 := HX.out.frozen 0
        have f1 := HX.out.frozen 1
        have f2 := HX.out.frozen 2
        have f3 := HX.out.frozen 3
        go_wp2_with fail
        obtain ⟨x3, hb3⟩ := four_stored 3 q HX.out HB.out (Nat.le_refl _)
        generalize (((w2.setCell ⟨w.heap.size, 0, none⟩ (.int .i64 3)).setCell ⟨w.heap.size, 1, none⟩ (.int .i64 q)).setCell ⟨w.heap.size, 2, none⟩ (.string ⟨#[]⟩)).setCell ⟨w.heap.size, 3, none⟩ (.slice none 0 0) = w3 at *
        have e0 : w3.cell? ⟨w.heap.size, 0, none⟩ = some (.int .i64 3) := by simpa using x3.cell 0
        have e1 : w3.cell? ⟨w.heap.size, 1, none⟩ = some (.int .i64 q) := by simpa using x3.cell 1
        have e2 : w3.cell? ⟨w.heap.size, 2, none⟩ = some (.string ⟨#[]⟩) := by simpa using x3.cell 2
        have e3 : w3.cell? ⟨w.heap.size, 3, none⟩ = some (.slice none 0 0) := by simpa using x3.cell 3
        exact bodyPost_ret (v := .tuple #[.agg #[.int .i64 3, .int .i64 q, .string ⟨#[]⟩, .slice none 0 0], .bool true]) (by simp [results, Try.results119, go_sem, e0, e1, e2, e3]) rfl ⟨rfl, hb3⟩
      · have b1 : ((2 : Int) == m) = false := beq_eq_false_iff_ne.2 (by omega)
        have hgt : (2 : Int) + 1 ≤ m := by omega
        go_wp2_with fail
        refine (tagged_any 3 _).mono ?_
        rintro e w' ⟨rfl, rfl⟩
        rw [show tagOf 3 = 2 from rfl]
        clear he
        go_wp2_with fail
        go_round
        case rel => exact ⟨2 + 1, by omega, by go_num, by omega⟩
        case measure => simp [intOf]
    · -- round 3
      have hcx : w2.cell? ⟨w.heap.size + 1, 3, none⟩ = some (.int .i64 6) := by simpa using XS.out.cell 3
      by_cases he : m = 3
      · subst he
        obtain rfl : V = true := HVB.out
        have hkk : kindOf 3 = 6 := rfl
        go_wp2_with fail
        refine (tagged_any 6 _).mono ?_
        rintro e w' ⟨rfl, rfl⟩
        rw [show tagOf 6 = 3 from rfl]
        have c0 : w2.cell? ⟨w.heap.size, 0, none⟩ = some (.int .i64 0) := by simpa using HX.out.cell 0
        have c1 : w2.cell? ⟨w.heap.size, 1, none⟩ = some (.int .i64 0) := by simpa using HX.out.cell 1
        have c2 : w2.cell? ⟨w.heap.size, 2, none⟩ = some (.string ⟨#[]⟩) := by simpa using HX.out.cell 2
        have c3 : w2.cell? ⟨w.heap.size, 3, none⟩ = some (.slice none 0 0) := by simpa using HX.out.cell 3
        have f0 := HX.out.frozen 0
        have f1 := HX.out.frozen 1
        have f2 := HX.out.frozen 2
        have f3 := HX.out.frozen 3
        go_wp2_with fail
        obtain ⟨x3, hb3⟩ := four_stored 6 q HX.out HB.out (Nat.le_refl _)
        generalize (((w2.setCell ⟨w.heap.size, 0, none⟩ (.int .i64 6)).setCell ⟨w.heap.size, 1, none⟩ (.int .i64 q)).setCell ⟨w.heap.size, 2, none⟩ (.string ⟨#[]⟩)).setCell ⟨w.heap.size, 3, none⟩ (.slice none 0 0) = w3 at *
        have e0 : w3.cell? ⟨w.heap.size, 0, none⟩ = some (.int .i64 6) := by simpa using x3.cell 0
        have e1 : w3.cell? ⟨w.heap.size, 1, none⟩ = some (.int .i64 q) := by simpa using x3.cell 1
        have e2 : w3.cell? ⟨w.heap.size, 2, none⟩ = some (.string ⟨#[]⟩) := by simpa using x3.cell 2
        have e3 : w3.cell? ⟨w.heap.size, 3, none⟩ = some (.slice none 0 0) := by simpa using x3.cell 3
        exact bodyPost_ret (v := .tuple #[.agg #[.int .i64 6, .int .i64 q, .string ⟨#[]⟩, .slice none 0 0], .bool true]) (by simp [results, Try.results119, go_sem, e0, e1, e2, e3]) rfl ⟨rfl, hb3⟩
      · have b1 : ((3 : Int) == m) = false := beq_eq_false_iff_ne.2 (by omega)
        have hgt : (3 : Int) + 1 ≤ m := by omega
        go_wp2_with fail
        refine (tagged_any 6 _).mono ?_
        rintro e w' ⟨rfl, rfl⟩
        rw [show tagOf 6 = 3 from rfl]
        clear he
        go_wp2_with fail
        go_round
        case rel => exact ⟨3 + 1, by omega, by go_num, by omega⟩
        case measure => simp [intOf]
    · obtain rfl : m = 4 := by omega
      obtain rfl : V = false := HVB.out
      have c0 : w2.cell? ⟨w.heap.size, 0, none⟩ = some (.int .i64 0) := by simpa using HX.out.cell 0
      have c1 : w2.cell? ⟨w.heap.size, 1, none⟩ = some (.int .i64 0) := by simpa using HX.out.cell 1
      have c2 : w2.cell? ⟨w.heap.size, 2, none⟩ = some (.string ⟨#[]⟩) := by simpa using HX.out.cell 2
      have c3 : w2.cell? ⟨w.heap.size, 3, none⟩ = some (.slice none 0 0) := by simpa using HX.out.cell 3
      have f0 := HX.out.frozen 0
      have f1 := HX.out.frozen 1
      have f2 := HX.out.frozen 2
      have f3 := HX.out.frozen 3
      go_wp2_with fail
      obtain ⟨x3, hb3⟩ := four_stored 0 0 HX.out HB.out (Nat.le_refl _)
      generalize (((w2.setCell ⟨w.heap.size, 0, none⟩ (.int .i64 0)).setCell ⟨w.heap.size, 1, none⟩ (.int .i64 0)).setCell ⟨w.heap.size, 2, none⟩ (.string ⟨#[]⟩)).setCell ⟨w.heap.size, 3, none⟩ (.slice none 0 0) = w3 at *
      have e0 : w3.cell? ⟨w.heap.size, 0, none⟩ = some (.int .i64 0) := by simpa using x3.cell 0
      have e1 : w3.cell? ⟨w.heap.size, 1, none⟩ = some (.int .i64 0) := by simpa using x3.cell 1
      have e2 : w3.cell? ⟨w.heap.size, 2, none⟩ = some (.string ⟨#[]⟩) := by simpa using x3.cell 2
      have e3 : w3.cell? ⟨w.heap.size, 3, none⟩ = some (.slice none 0 0) := by simpa using x3.cell 3
      exact bodyPost_ret (v := .tuple #[.agg #[.int .i64 0, .int .i64 0, .string ⟨#[]⟩, .slice none 0 0], .bool false]) (by simp [results, Try.results119, go_sem, e0, e1, e2, e3]) rfl ⟨rfl, hb3⟩

set_option maxRecDepth 100000 in
set_option maxHeartbeats 1000000 in
theorem same_any (k q : Int) (w : World) :
    Calls Try.prog 13 #[.agg #[.int .i64 k, .int .i64 q, .string ⟨#[]⟩, .slice none 0 0], .agg #[.int .i64 k, .int .i64 q, .string ⟨#[]⟩, .slice none 0 0]] w fun e w' => e = .returned (.bool true) ∧ Below w.heap.size w w' := by
  go_enter Try.func13, Try.ntmps13
  go_wp2_with fail
  refine wp_loop_rounds 1 ?_
  rw [rounds_succ]
  go_wp2_with fail
  go_ret
  exact ⟨rfl, ((Below.refl _ _).alloc (Nat.le_refl _) _).alloc (by simp) _⟩
end Go.Proofs.Ytgjimjpbogadjaa
