/-
  TermTells: for every input each function of package term returns what the reference returns. Narrowed by the row's own cell 'loops' alone.
-/
import Derived.Test.YtjblfkoepedhpaaTermW
import Derived.Lib.SmallJoins
namespace Go.Proofs.Ytjblfkoepedhpaa
open Go.ChangeShapes Go.WideShapes Go.ChangeAt Go.RowKit Go.Joins

set_option maxRecDepth 100000 in
set_option maxHeartbeats 4000000 in
theorem tt_arg (t n u k num : Int) (s : ByteArray) (A : Option Addr) (l c : Nat) (W : World) (x1 x2 y1 kk qq : Int) (R ob vb : Bool) (hc : t < 0 ∨ 4 < t)
    (hRD : ∀ w, Calls Try.prog 47 #[.int .u64 u] w fun e w' => e = .returned (.tuple #[.int .i64 x1, .int .i64 x2, .int .i64 (if R then 0 else 3)]) ∧ w = w')
    (hOF : ∀ w, Calls Try.prog 48 #[.agg #[.int .i64 k, .int .i64 num, .string s, .slice A l c]] w fun e w' => e = .returned (.tuple #[.int .u64 y1, .bool ob]) ∧ Below w.heap.size w w')
    (hVA : ∀ w, Calls Try.prog 49 #[.int .u64 u] w fun e w' => e = .returned (.tuple #[.agg #[.int .i64 kk, .int .i64 qq, .string ⟨#[]⟩, .slice none 0 0], .bool vb]) ∧ Below w.heap.size w w')
    (hTR : ∀ w, Calls Try.prog 52 #[.int .u64 u] w fun e w' => e = .returned (.tuple #[.int .i64 x1, .int .i64 x2, .bool R]) ∧ w = w')
    (hWO : ∀ w, Calls Try.prog 54 #[.agg #[.int .i64 k, .int .i64 num, .string s, .slice A l c]] w fun e w' => e = .returned (.tuple #[.int .u64 y1, .bool ob]) ∧ Below w.heap.size w w')
    (hVO : ∀ w, Calls Try.prog 55 #[.int .u64 u] w fun e w' => e = .returned (.tuple #[.agg #[.int .i64 kk, .int .i64 qq, .string ⟨#[]⟩, .slice none 0 0], .bool vb]) ∧ Below w.heap.size w w') :
    Calls Try.prog 9 #[.int .i64 t, .int .i64 n, .int .u64 u, .agg #[.int .i64 k, .int .i64 num, .string s, .slice A l c]] W fun e w' => e = .returned (.bool true) ∧ Below W.heap.size W w' := by
  have HRD := Lib.hid hRD
  have HOF := Lib.hid hOF
  have HVA := Lib.hid hVA
  have HTR := Lib.hid hTR
  have HWO := Lib.hid hWO
  have HVO := Lib.hid hVO
  have HC := Lib.hid hc
  clear hRD hOF hVA hTR hWO hVO hc
  cases R
  all_goals
    go_enter Try.func9, Try.ntmps9
    go_wp2_with fail
    refine (word_arg t n _ HC.out).mono ?_
    rintro e w' ⟨rfl, rfl⟩
    have x0 := Box.new W 65 #[.int .i64 k, .int .i64 num, .string s, .slice A l c]
    have b0 : Below W.heap.size W (W.alloc (.cells #[.int .i64 k, .int .i64 num, .string s, .slice A l c] 65)) := (Below.refl _ _).alloc (Nat.le_refl _) _
    go_wp2_with fail
    refine (HRD.out _).mono ?_
    rintro e w' ⟨rfl, rfl⟩
    go_wp2_with fail
    refine (HOF.out _).mono ?_
    rintro e w2 ⟨rfl, hb2⟩
    have x2' := x0.below hb2 x0.lt
    have b2 := b0.trans (hb2.mono b0.size)
    clear x0 b0 hb2
    go_wp2_with fail
    refine (HVA.out _).mono ?_
    rintro e w3 ⟨rfl, hb3⟩
    have x3 := x2'.below hb3 x2'.lt
    have b3 := b2.trans (hb3.mono b2.size)
    clear x2' b2 hb3
    have c0 : w3.cell? ⟨W.heap.size, 0, none⟩ = some (.int .i64 k) := by simpa using x3.cell 0
    have c1 : w3.cell? ⟨W.heap.size, 1, none⟩ = some (.int .i64 num) := by simpa using x3.cell 1
    have c2 : w3.cell? ⟨W.heap.size, 2, none⟩ = some (.string s) := by simpa using x3.cell 2
    have c3 : w3.cell? ⟨W.heap.size, 3, none⟩ = some (.slice A l c) := by simpa using x3.cell 3
    go_wp2_with fail
    have x4 := x3.alloc (.cells #[.int .i64 kk, .int .i64 qq, .string ⟨#[]⟩, .slice none 0 0] 65)
    have y4 := Box.new w3 65 #[.int .i64 kk, .int .i64 qq, .string ⟨#[]⟩, .slice none 0 0]
    have b4 : Below W.heap.size W (w3.alloc (.cells #[.int .i64 kk, .int .i64 qq, .string ⟨#[]⟩, .slice none 0 0] 65)) := b3.alloc b3.size _
    generalize w3.alloc (.cells #[.int .i64 kk, .int .i64 qq, .string ⟨#[]⟩, .slice none 0 0] 65) = w4 at *
    have HG := Lib.hid (show W.heap.size ≤ w3.heap.size from b3.size)
    generalize w3.heap.size = gx at *
    clear c0 c1 c2 c3 x3 b3
    have c0 : w4.cell? ⟨W.heap.size, 0, none⟩ = some (.int .i64 k) := by simpa using x4.cell 0
    have c1 : w4.cell? ⟨W.heap.size, 1, none⟩ = some (.int .i64 num) := by simpa using x4.cell 1
    have c2 : w4.cell? ⟨W.heap.size, 2, none⟩ = some (.string s) := by simpa using x4.cell 2
    have c3 : w4.cell? ⟨W.heap.size, 3, none⟩ = some (.slice A l c) := by simpa using x4.cell 3
    refine (in_any _ _ _ _).mono ?_
    rintro e w' ⟨rfl, rfl⟩
    rw [show decide (0 ≤ t ∧ t ≤ 4) = false by have := HC.out; simp; omega]
    go_wp2_with fail
    refine (HTR.out _).mono ?_
    rintro e w' ⟨rfl, rfl⟩
    go_wp2_with fail
    refine (small_any _ _).mono ?_
    rintro e w' ⟨rfl, rfl⟩
    have HSM := Lib.hid (fitsB_of 1 n (by omega) (by omega))
    generalize validB 1 n = sm at *
    go_wp2_with fail
    refine (tagFits_any _ _ _).mono ?_
    rintro e w' ⟨rfl, rfl⟩
    rw [HSM.out]
    go_wp2_with fail
    refine (HWO.out _).mono ?_
    rintro e w5 ⟨rfl, hb5⟩
    have y5 := y4.below hb5 y4.lt
    have b5 := b4.trans (hb5.mono b4.size)
    clear c0 c1 c2 c3 x4 y4 b4 hb5
    go_wp2_with fail
    refine (HVO.out _).mono ?_
    rintro e w6 ⟨rfl, hb6⟩
    have y6 := y5.below hb6 y5.lt
    have b6 := b5.trans (hb6.mono b5.size)
    clear y5 b5 hb6
    have y7 := y6.alloc (.cells #[.int .i64 kk, .int .i64 qq, .string ⟨#[]⟩, .slice none 0 0] 65)
    have d0 : (w6.alloc (.cells #[.int .i64 kk, .int .i64 qq, .string ⟨#[]⟩, .slice none 0 0] 65)).cell? ⟨gx, 0, none⟩ = some (.int .i64 kk) := by simpa using y7.cell 0
    have d1 : (w6.alloc (.cells #[.int .i64 kk, .int .i64 qq, .string ⟨#[]⟩, .slice none 0 0] 65)).cell? ⟨gx, 1, none⟩ = some (.int .i64 qq) := by simpa using y7.cell 1
    have d2 : (w6.alloc (.cells #[.int .i64 kk, .int .i64 qq, .string ⟨#[]⟩, .slice none 0 0] 65)).cell? ⟨gx, 2, none⟩ = some (.string ⟨#[]⟩) := by simpa using y7.cell 2
    have d3 : (w6.alloc (.cells #[.int .i64 kk, .int .i64 qq, .string ⟨#[]⟩, .slice none 0 0] 65)).cell? ⟨gx, 3, none⟩ = some (.slice none 0 0) := by simpa using y7.cell 3
    have b7 : Below W.heap.size W (w6.alloc (.cells #[.int .i64 kk, .int .i64 qq, .string ⟨#[]⟩, .slice none 0 0] 65)) := b6.alloc b6.size _
    have HB7 := Lib.hid b7
    clear y6 y7 b6 b7
    go_wp2_with fail
    refine (same_any kk qq _).mono ?_
    rintro e w8 ⟨rfl, hb8⟩
    have HB8 := Lib.hid (HB7.out.trans (hb8.mono HB7.out.size))
    clear hb8
    go_wp2_with fail
    go_ret
    exact ⟨rfl, HB8.out⟩

set_option maxRecDepth 100000 in
set_option maxHeartbeats 4000000 in
theorem tt_large (t n u k num : Int) (s : ByteArray) (A : Option Addr) (l c : Nat) (W : World) (x1 x2 y1 kk qq : Int) (R ob vb : Bool) (hc : (0 ≤ t ∧ t ≤ 4) ∧ validB t n = false)
    (hRD : ∀ w, Calls Try.prog 47 #[.int .u64 u] w fun e w' => e = .returned (.tuple #[.int .i64 x1, .int .i64 x2, .int .i64 (if R then 0 else 3)]) ∧ w = w')
    (hOF : ∀ w, Calls Try.prog 48 #[.agg #[.int .i64 k, .int .i64 num, .string s, .slice A l c]] w fun e w' => e = .returned (.tuple #[.int .u64 y1, .bool ob]) ∧ Below w.heap.size w w')
    (hVA : ∀ w, Calls Try.prog 49 #[.int .u64 u] w fun e w' => e = .returned (.tuple #[.agg #[.int .i64 kk, .int .i64 qq, .string ⟨#[]⟩, .slice none 0 0], .bool vb]) ∧ Below w.heap.size w w')
    (hTR : ∀ w, Calls Try.prog 52 #[.int .u64 u] w fun e w' => e = .returned (.tuple #[.int .i64 x1, .int .i64 x2, .bool R]) ∧ w = w')
    (hWO : ∀ w, Calls Try.prog 54 #[.agg #[.int .i64 k, .int .i64 num, .string s, .slice A l c]] w fun e w' => e = .returned (.tuple #[.int .u64 y1, .bool ob]) ∧ Below w.heap.size w w')
    (hVO : ∀ w, Calls Try.prog 55 #[.int .u64 u] w fun e w' => e = .returned (.tuple #[.agg #[.int .i64 kk, .int .i64 qq, .string ⟨#[]⟩, .slice none 0 0], .bool vb]) ∧ Below w.heap.size w w') :
    Calls Try.prog 9 #[.int .i64 t, .int .i64 n, .int .u64 u, .agg #[.int .i64 k, .int .i64 num, .string s, .slice A l c]] W fun e w' => e = .returned (.bool true) ∧ Below W.heap.size W w' := by
  have HRD := Lib.hid hRD
  have HOF := Lib.hid hOF
  have HVA := Lib.hid hVA
  have HTR := Lib.hid hTR
  have HWO := Lib.hid hWO
  have HVO := Lib.hid hVO
  have HC := Lib.hid hc
  clear hRD hOF hVA hTR hWO hVO hc
  cases R
  all_goals
    go_enter Try.func9, Try.ntmps9
    go_wp2_with fail
    refine (word_large t n _ HC.out.1.1 HC.out.1.2 HC.out.2).mono ?_
    rintro e w' ⟨rfl, rfl⟩
    have x0 := Box.new W 65 #[.int .i64 k, .int .i64 num, .string s, .slice A l c]
    have b0 : Below W.heap.size W (W.alloc (.cells #[.int .i64 k, .int .i64 num, .string s, .slice A l c] 65)) := (Below.refl _ _).alloc (Nat.le_refl _) _
    go_wp2_with fail
    refine (HRD.out _).mono ?_
    rintro e w' ⟨rfl, rfl⟩
    go_wp2_with fail
    refine (HOF.out _).mono ?_
    rintro e w2 ⟨rfl, hb2⟩
    have x2' := x0.below hb2 x0.lt
    have b2 := b0.trans (hb2.mono b0.size)
    clear x0 b0 hb2
    go_wp2_with fail
    refine (HVA.out _).mono ?_
    rintro e w3 ⟨rfl, hb3⟩
    have x3 := x2'.below hb3 x2'.lt
    have b3 := b2.trans (hb3.mono b2.size)
    clear x2' b2 hb3
    have c0 : w3.cell? ⟨W.heap.size, 0, none⟩ = some (.int .i64 k) := by simpa using x3.cell 0
    have c1 : w3.cell? ⟨W.heap.size, 1, none⟩ = some (.int .i64 num) := by simpa using x3.cell 1
    have c2 : w3.cell? ⟨W.heap.size, 2, none⟩ = some (.string s) := by simpa using x3.cell 2
    have c3 : w3.cell? ⟨W.heap.size, 3, none⟩ = some (.slice A l c) := by simpa using x3.cell 3
    go_wp2_with fail
    have x4 := x3.alloc (.cells #[.int .i64 kk, .int .i64 qq, .string ⟨#[]⟩, .slice none 0 0] 65)
    have y4 := Box.new w3 65 #[.int .i64 kk, .int .i64 qq, .string ⟨#[]⟩, .slice none 0 0]
    have b4 : Below W.heap.size W (w3.alloc (.cells #[.int .i64 kk, .int .i64 qq, .string ⟨#[]⟩, .slice none 0 0] 65)) := b3.alloc b3.size _
    generalize w3.alloc (.cells #[.int .i64 kk, .int .i64 qq, .string ⟨#[]⟩, .slice none 0 0] 65) = w4 at *
    have HG := Lib.hid (show W.heap.size ≤ w3.heap.size from b3.size)
    generalize w3.heap.size = gx at *
    clear c0 c1 c2 c3 x3 b3
    have c0 : w4.cell? ⟨W.heap.size, 0, none⟩ = some (.int .i64 k) := by simpa using x4.cell 0
    have c1 : w4.cell? ⟨W.heap.size, 1, none⟩ = some (.int .i64 num) := by simpa using x4.cell 1
    have c2 : w4.cell? ⟨W.heap.size, 2, none⟩ = some (.string s) := by simpa using x4.cell 2
    have c3 : w4.cell? ⟨W.heap.size, 3, none⟩ = some (.slice A l c) := by simpa using x4.cell 3
    refine (in_any _ _ _ _).mono ?_
    rintro e w' ⟨rfl, rfl⟩
    rw [show decide (0 ≤ t ∧ t ≤ 4) = true by have := HC.out.1; simp; omega]
    go_wp2_with fail
    refine (tagFits_any _ _ _).mono ?_
    rintro e w' ⟨rfl, rfl⟩
    rw [fitsB_of t n HC.out.1.1 HC.out.1.2, HC.out.2]
    go_wp2_with fail
    refine (HTR.out _).mono ?_
    rintro e w' ⟨rfl, rfl⟩
    go_wp2_with fail
    refine (small_any _ _).mono ?_
    rintro e w' ⟨rfl, rfl⟩
    have HSM := Lib.hid (fitsB_of 1 n (by omega) (by omega))
    generalize validB 1 n = sm at *
    go_wp2_with fail
    refine (tagFits_any _ _ _).mono ?_
    rintro e w' ⟨rfl, rfl⟩
    rw [HSM.out]
    go_wp2_with fail
    refine (HWO.out _).mono ?_
    rintro e w5 ⟨rfl, hb5⟩
    have y5 := y4.below hb5 y4.lt
    have b5 := b4.trans (hb5.mono b4.size)
    clear c0 c1 c2 c3 x4 y4 b4 hb5
    go_wp2_with fail
    refine (HVO.out _).mono ?_
    rintro e w6 ⟨rfl, hb6⟩
    have y6 := y5.below hb6 y5.lt
    have b6 := b5.trans (hb6.mono b5.size)
    clear y5 b5 hb6
    have y7 := y6.alloc (.cells #[.int .i64 kk, .int .i64 qq, .string ⟨#[]⟩, .slice none 0 0] 65)
    have d0 : (w6.alloc (.cells #[.int .i64 kk, .int .i64 qq, .string ⟨#[]⟩, .slice none 0 0] 65)).cell? ⟨gx, 0, none⟩ = some (.int .i64 kk) := by simpa using y7.cell 0
    have d1 : (w6.alloc (.cells #[.int .i64 kk, .int .i64 qq, .string ⟨#[]⟩, .slice none 0 0] 65)).cell? ⟨gx, 1, none⟩ = some (.int .i64 qq) := by simpa using y7.cell 1
    have d2 : (w6.alloc (.cells #[.int .i64 kk, .int .i64 qq, .string ⟨#[]⟩, .slice none 0 0] 65)).cell? ⟨gx, 2, none⟩ = some (.string ⟨#[]⟩) := by simpa using y7.cell 2
    have d3 : (w6.alloc (.cells #[.int .i64 kk, .int .i64 qq, .string ⟨#[]⟩, .slice none 0 0] 65)).cell? ⟨gx, 3, none⟩ = some (.slice none 0 0) := by simpa using y7.cell 3
    have b7 : Below W.heap.size W (w6.alloc (.cells #[.int .i64 kk, .int .i64 qq, .string ⟨#[]⟩, .slice none 0 0] 65)) := b6.alloc b6.size _
    have HB7 := Lib.hid b7
    clear y6 y7 b6 b7
    go_wp2_with fail
    refine (same_any kk qq _).mono ?_
    rintro e w8 ⟨rfl, hb8⟩
    have HB8 := Lib.hid (HB7.out.trans (hb8.mono HB7.out.size))
    clear hb8
    go_wp2_with fail
    go_ret
    exact ⟨rfl, HB8.out⟩

set_option maxRecDepth 100000 in
set_option maxHeartbeats 4000000 in
theorem tt_ok (t n u k num : Int) (s : ByteArray) (A : Option Addr) (l c : Nat) (W : World) (x1 x2 y1 kk qq : Int) (R ob vb : Bool) (hc : (0 ≤ t ∧ t ≤ 4) ∧ validB t n = true)
    (hRD : ∀ w, Calls Try.prog 47 #[.int .u64 u] w fun e w' => e = .returned (.tuple #[.int .i64 x1, .int .i64 x2, .int .i64 (if R then 0 else 3)]) ∧ w = w')
    (hOF : ∀ w, Calls Try.prog 48 #[.agg #[.int .i64 k, .int .i64 num, .string s, .slice A l c]] w fun e w' => e = .returned (.tuple #[.int .u64 y1, .bool ob]) ∧ Below w.heap.size w w')
    (hVA : ∀ w, Calls Try.prog 49 #[.int .u64 u] w fun e w' => e = .returned (.tuple #[.agg #[.int .i64 kk, .int .i64 qq, .string ⟨#[]⟩, .slice none 0 0], .bool vb]) ∧ Below w.heap.size w w')
    (hTR : ∀ w, Calls Try.prog 52 #[.int .u64 u] w fun e w' => e = .returned (.tuple #[.int .i64 x1, .int .i64 x2, .bool R]) ∧ w = w')
    (hWO : ∀ w, Calls Try.prog 54 #[.agg #[.int .i64 k, .int .i64 num, .string s, .slice A l c]] w fun e w' => e = .returned (.tuple #[.int .u64 y1, .bool ob]) ∧ Below w.heap.size w w')
    (hVO : ∀ w, Calls Try.prog 55 #[.int .u64 u] w fun e w' => e = .returned (.tuple #[.agg #[.int .i64 kk, .int .i64 qq, .string ⟨#[]⟩, .slice none 0 0], .bool vb]) ∧ Below w.heap.size w w') :
    Calls Try.prog 9 #[.int .i64 t, .int .i64 n, .int .u64 u, .agg #[.int .i64 k, .int .i64 num, .string s, .slice A l c]] W fun e w' => e = .returned (.bool true) ∧ Below W.heap.size W w' := by
  have HRD := Lib.hid hRD
  have HOF := Lib.hid hOF
  have HVA := Lib.hid hVA
  have HTR := Lib.hid hTR
  have HWO := Lib.hid hWO
  have HVO := Lib.hid hVO
  have HC := Lib.hid hc
  clear hRD hOF hVA hTR hWO hVO hc
  cases R
  all_goals
    go_enter Try.func9, Try.ntmps9
    go_wp2_with fail
    refine (word_ok t n _ HC.out.1.1 HC.out.1.2 HC.out.2).mono ?_
    rintro e w' ⟨rfl, rfl⟩
    have x0 := Box.new W 65 #[.int .i64 k, .int .i64 num, .string s, .slice A l c]
    have b0 : Below W.heap.size W (W.alloc (.cells #[.int .i64 k, .int .i64 num, .string s, .slice A l c] 65)) := (Below.refl _ _).alloc (Nat.le_refl _) _
    go_wp2_with fail
    refine (HRD.out _).mono ?_
    rintro e w' ⟨rfl, rfl⟩
    go_wp2_with fail
    refine (HOF.out _).mono ?_
    rintro e w2 ⟨rfl, hb2⟩
    have x2' := x0.below hb2 x0.lt
    have b2 := b0.trans (hb2.mono b0.size)
    clear x0 b0 hb2
    go_wp2_with fail
    refine (HVA.out _).mono ?_
    rintro e w3 ⟨rfl, hb3⟩
    have x3 := x2'.below hb3 x2'.lt
    have b3 := b2.trans (hb3.mono b2.size)
    clear x2' b2 hb3
    have c0 : w3.cell? ⟨W.heap.size, 0, none⟩ = some (.int .i64 k) := by simpa using x3.cell 0
    have c1 : w3.cell? ⟨W.heap.size, 1, none⟩ = some (.int .i64 num) := by simpa using x3.cell 1
    have c2 : w3.cell? ⟨W.heap.size, 2, none⟩ = some (.string s) := by simpa using x3.cell 2
    have c3 : w3.cell? ⟨W.heap.size, 3, none⟩ = some (.slice A l c) := by simpa using x3.cell 3
    go_wp2_with fail
    have x4 := x3.alloc (.cells #[.int .i64 kk, .int .i64 qq, .string ⟨#[]⟩, .slice none 0 0] 65)
    have y4 := Box.new w3 65 #[.int .i64 kk, .int .i64 qq, .string ⟨#[]⟩, .slice none 0 0]
    have b4 : Below W.heap.size W (w3.alloc (.cells #[.int .i64 kk, .int .i64 qq, .string ⟨#[]⟩, .slice none 0 0] 65)) := b3.alloc b3.size _
    generalize w3.alloc (.cells #[.int .i64 kk, .int .i64 qq, .string ⟨#[]⟩, .slice none 0 0] 65) = w4 at *
    have HG := Lib.hid (show W.heap.size ≤ w3.heap.size from b3.size)
    generalize w3.heap.size = gx at *
    clear c0 c1 c2 c3 x3 b3
    have c0 : w4.cell? ⟨W.heap.size, 0, none⟩ = some (.int .i64 k) := by simpa using x4.cell 0
    have c1 : w4.cell? ⟨W.heap.size, 1, none⟩ = some (.int .i64 num) := by simpa using x4.cell 1
    have c2 : w4.cell? ⟨W.heap.size, 2, none⟩ = some (.string s) := by simpa using x4.cell 2
    have c3 : w4.cell? ⟨W.heap.size, 3, none⟩ = some (.slice A l c) := by simpa using x4.cell 3
    refine (in_any _ _ _ _).mono ?_
    rintro e w' ⟨rfl, rfl⟩
    rw [show decide (0 ≤ t ∧ t ≤ 4) = true by have := HC.out.1; simp; omega]
    go_wp2_with fail
    refine (tagFits_any _ _ _).mono ?_
    rintro e w' ⟨rfl, rfl⟩
    rw [fitsB_of t n HC.out.1.1 HC.out.1.2, HC.out.2]
    go_wp2_with fail
    refine (tagWord_any _ _ _ HC.out.1.1 HC.out.1.2).mono ?_
    rintro e w' ⟨rfl, rfl⟩
    go_wp2_with fail
    refine (HTR.out _).mono ?_
    rintro e w' ⟨rfl, rfl⟩
    go_wp2_with fail
    refine (small_any _ _).mono ?_
    rintro e w' ⟨rfl, rfl⟩
    have HSM := Lib.hid (fitsB_of 1 n (by omega) (by omega))
    generalize validB 1 n = sm at *
    go_wp2_with fail
    refine (tagFits_any _ _ _).mono ?_
    rintro e w' ⟨rfl, rfl⟩
    rw [HSM.out]
    go_wp2_with fail
    refine (HWO.out _).mono ?_
    rintro e w5 ⟨rfl, hb5⟩
    have y5 := y4.below hb5 y4.lt
    have b5 := b4.trans (hb5.mono b4.size)
    clear c0 c1 c2 c3 x4 y4 b4 hb5
    go_wp2_with fail
    refine (HVO.out _).mono ?_
    rintro e w6 ⟨rfl, hb6⟩
    have y6 := y5.below hb6 y5.lt
    have b6 := b5.trans (hb6.mono b5.size)
    clear y5 b5 hb6
    have y7 := y6.alloc (.cells #[.int .i64 kk, .int .i64 qq, .string ⟨#[]⟩, .slice none 0 0] 65)
    have d0 : (w6.alloc (.cells #[.int .i64 kk, .int .i64 qq, .string ⟨#[]⟩, .slice none 0 0] 65)).cell? ⟨gx, 0, none⟩ = some (.int .i64 kk) := by simpa using y7.cell 0
    have d1 : (w6.alloc (.cells #[.int .i64 kk, .int .i64 qq, .string ⟨#[]⟩, .slice none 0 0] 65)).cell? ⟨gx, 1, none⟩ = some (.int .i64 qq) := by simpa using y7.cell 1
    have d2 : (w6.alloc (.cells #[.int .i64 kk, .int .i64 qq, .string ⟨#[]⟩, .slice none 0 0] 65)).cell? ⟨gx, 2, none⟩ = some (.string ⟨#[]⟩) := by simpa using y7.cell 2
    have d3 : (w6.alloc (.cells #[.int .i64 kk, .int .i64 qq, .string ⟨#[]⟩, .slice none 0 0] 65)).cell? ⟨gx, 3, none⟩ = some (.slice none 0 0) := by simpa using y7.cell 3
    have b7 : Below W.heap.size W (w6.alloc (.cells #[.int .i64 kk, .int .i64 qq, .string ⟨#[]⟩, .slice none 0 0] 65)) := b6.alloc b6.size _
    have HB7 := Lib.hid b7
    clear y6 y7 b6 b7
    go_wp2_with fail
    refine (same_any kk qq _).mono ?_
    rintro e w8 ⟨rfl, hb8⟩
    have HB8 := Lib.hid (HB7.out.trans (hb8.mono HB7.out.size))
    clear hb8
    go_wp2_with fail
    go_ret
    exact ⟨rfl, HB8.out⟩


theorem termTells_walk (t n u k num : Int) (s : ByteArray) (A : Option Addr) (l c : Nat) (W : World) (h1 : 0 ≤ u) (h2 : u < 18446744073709551616) (hl : l ≤ maxLen) :
    Calls Try.prog 9 #[.int .i64 t, .int .i64 n, .int .u64 u, .agg #[.int .i64 k, .int .i64 num, .string s, .slice A l c]] W fun e w' => e = .returned (.bool true) ∧ Below W.heap.size W w' := by
  by_cases h : 0 ≤ t ∧ t ≤ 4
  · by_cases hv : validB t n = true
    · exact tt_ok t n u k num s A l c W _ _ _ _ _ _ _ _ ⟨h, hv⟩ (fun w => read_any u w h1 h2) (fun w => of_any k num s A l c w hl) (fun w => value_any u w h1 h2) (fun w => tagRead_any u w h1 h2) (fun w => wordOf_any k num s A l c w hl) (fun w => valueOf_any u w h1 h2)
    · exact tt_large t n u k num s A l c W _ _ _ _ _ _ _ _ ⟨h, by simpa using hv⟩ (fun w => read_any u w h1 h2) (fun w => of_any k num s A l c w hl) (fun w => value_any u w h1 h2) (fun w => tagRead_any u w h1 h2) (fun w => wordOf_any k num s A l c w hl) (fun w => valueOf_any u w h1 h2)
  · exact tt_arg t n u k num s A l c W _ _ _ _ _ _ _ _ (by omega) (fun w => read_any u w h1 h2) (fun w => of_any k num s A l c w hl) (fun w => value_any u w h1 h2) (fun w => tagRead_any u w h1 h2) (fun w => wordOf_any k num s A l c w hl) (fun w => valueOf_any u w h1 h2)
end Go.Proofs.Ytjblfkoepedhpaa
