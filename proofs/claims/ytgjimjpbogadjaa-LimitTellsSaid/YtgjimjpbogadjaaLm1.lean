
/-
  Quotas: amounts, a row found, what is wrong with rows.
-/
import Derived.Test.YtgjimjpbogadjaaLmRow
import Derived.Test.YtgjimjpbogadjaaOnly
import Derived.Outline
import Derived.IntWalk
import Derived.Deep.LoopGhost
import Derived.Deep.CutBlock
import Derived.Deep.DeepCutAuto
namespace Go.Proofs.Ytgjimjpbogadjaa
open Go.RowKit

theorem inP_any (n a b : Int) (w : World) : Calls Try.prog 40 #[.int .i64 n, .int .i64 a, .int .i64 b] w fun e w' => e = .returned (.bool (decide (a ≤ n ∧ n ≤ b))) ∧ w = w' := by
  by_cases h1 : a ≤ n
  · have d1 : decide (a ≤ n) = true := by simp; omega
    by_cases h2 : n ≤ b
    · have d2 : decide (n ≤ b) = true := by simp; omega
      rw [show decide (a ≤ n ∧ n ≤ b) = true by simp; omega]
      go_enter Try.func40, Try.ntmps40
      go_wp2_with fail
      go_ret
      exact ⟨rfl, rfl⟩
    · have d2 : decide (n ≤ b) = false := by simp; omega
      rw [show decide (a ≤ n ∧ n ≤ b) = false by simp; omega]
      go_enter Try.func40, Try.ntmps40
      go_wp2_with fail
      go_ret
      exact ⟨rfl, rfl⟩
  · have d1 : decide (a ≤ n) = false := by simp; omega
    rw [show decide (a ≤ n ∧ n ≤ b) = false by simp; omega]
    go_enter Try.func40, Try.ntmps40
    go_wp2_with fail
    go_ret
    exact ⟨rfl, rfl⟩

theorem amount_any (n : Int) (w : World) : Calls Try.prog 86 #[.int .i64 n] w fun e w' => e = .returned (.bool (amt n)) ∧ w = w' := by
  by_cases h1 : 0 ≤ n
  · have d1 : decide (0 ≤ n) = true := by simp; omega
    by_cases h2 : n ≤ 1073741824
    · have d2 : decide (n ≤ 1073741824) = true := by simp; omega
      rw [show amt n = true by unfold amt; simp; omega]
      go_enter Try.func86, Try.ntmps86
      go_wp2_with fail
      go_ret
      exact ⟨rfl, rfl⟩
    · have d2 : decide (n ≤ 1073741824) = false := by simp; omega
      rw [show amt n = false by unfold amt; simp; omega]
      go_enter Try.func86, Try.ntmps86
      go_wp2_with fail
      go_ret
      exact ⟨rfl, rfl⟩
  · have d1 : decide (0 ≤ n) = false := by simp; omega
    rw [show amt n = false by unfold amt; simp; omega]
    go_enter Try.func86, Try.ntmps86
    go_wp2_with fail
    go_ret
    exact ⟨rfl, rfl⟩

theorem enters_limfind : Enters 144 := fun _ _ => by kernel_rfl
set_option maxHeartbeats 400000 in
theorem limfind1_any (x : Lm) (id : Int) (gk : Nat) (w : World) (hk : w.cell? ⟨gk, 0, none⟩ = some (.int .i64 id)) :
    Calls Try.prog 144 #[lmV x, .pointer (some ⟨gk, 0, none⟩)] w fun e w' => e = .returned (.bool (isRef id x)) ∧ Below w.heap.size w w' := by
  obtain ⟨x1, x2, x3, x4, x5⟩ := x
  have hk1 := lt_of_cell hk
  dsimp only at hk1
  unfold lmV
  dsimp only
  have HI := Lib.hid (show isRef id ⟨x1, x2, x3, x4, x5⟩ = (x1 == id) from rfl)
  generalize isRef id ⟨x1, x2, x3, x4, x5⟩ = r at *
  go_enter Try.func144, Try.ntmps144
  go_wp2_with fail
  go_ret
  exact ⟨by rw [HI.out]; rfl, (Below.refl _ _).alloc (Nat.le_refl _) _⟩

set_option maxHeartbeats 400000 in
theorem limfind_any (id : Int) (A : Option Addr) (c : Nat) (l : List Lm) (w : World) (hr : Row w w.heap.size A (flat lmC l)) (hlm : l.length ≤ maxLen) :
    Calls Try.prog 88 #[.slice A l.length c, .int .i64 id] w fun e w' => e = .returned (.int .i64 (lmAt l id)) ∧ Below w.heap.size w w' := by
  have hal : Below w.heap.size w (w.alloc (.cells #[.int .i64 id] 3)) := (Below.refl _ _).alloc (Nat.le_refl _) _
  have hc : (w.alloc (.cells #[.int .i64 id] 3)).cell? ⟨w.heap.size, 0, none⟩ = some (.int .i64 id) := (Box.new _ _ _).cell 0
  have hx := indexFunc_lm A c l 144 #[.pointer (some ⟨w.heap.size, 0, none⟩)] (isRef id) w.heap.size (fun u => Below (w.heap.size + 1) (w.alloc (.cells #[.int .i64 id] 3)) u) (w.alloc (.cells #[.int .i64 id] 3)) enters_limfind hlm
    (fun u hu => ((hr.below hal).below (hu.mono (by omega))))
    (fun x _ u hu => (limfind1_any x id w.heap.size u ((hu.cell (p := ⟨w.heap.size, 0, none⟩) (by simp)).trans hc)).mono fun e w' ⟨h1, h2⟩ => ⟨h1, hu.trans (h2.mono (by have := hu.size; simp at this; omega))⟩) (Below.refl _ _)
  have HX := Lib.hid hx
  have HB := Lib.hid (fun u (hu : Below (w.heap.size + 1) (w.alloc (.cells #[.int .i64 id] 3)) u) => hal.trans (hu.mono (by simp)))
  have HL : Hid (lmAt l id = idxAt (isRef id) l 0) := rfl
  clear hx hal hc hr hlm
  rw [HL.out]
  generalize idxAt (isRef id) l 0 = r at *
  go_enter Try.func88, Try.ntmps88
  go_wp2_with fail
  refine HX.out.mono ?_
  rintro e w1 ⟨rfl, hw1⟩
  go_wp2_with fail
  go_ret
  exact ⟨rfl, HB.out w1 hw1⟩

set_option maxRecDepth 100000 in
set_option maxHeartbeats 1000000 in
theorem limitAt_any (id : Int) (A : Option Addr) (c : Nat) (l : List Lm) (w : World) (hr : Row w w.heap.size A (flat lmC l)) (hlm : l.length ≤ maxLen) :
    Calls Try.prog 39 #[.slice A l.length c, .int .i64 id] w fun e w' => e = .returned (.int .i64 (lmAt l id)) ∧ Below w.heap.size w w' := by
  have HR := Lib.hid hr
  have HL : Hid (lmAt l id = idxAt (isRef id) l 0) := rfl
  unfold maxLen at hlm
  generalize lmAt l id = R at *
  clear hr
  go_enter Try.func39, Try.ntmps39
  go_wp2_with fail
  go_loopg [9] l.length (fun gk i wr => ∃ k : Nat, gk = l.length - k ∧ k ≤ l.length ∧ i = .int .i64 k ∧ idxAt (isRef id) l 0 = idxAt (isRef id) (l.drop k) k ∧ Below w.heap.size w wr)
  case atStart => exact ⟨0, by omega, by omega, rfl, rfl, Below.refl _ _⟩
  case round =>
    obtain ⟨k, hgk, hk, rfl, hF, hb⟩ := hrel
    have HK := Lib.hid hgk
    have HF := Lib.hid hF
    have HB := Lib.hid hb
    have hbs := hb.size
    clear hgk hF hb
    by_cases hlt : k < l.length
    · obtain ⟨b, o, rfl, hbl, c0, c1, c2, c3, c4⟩ := (HR.out.below HB.out).lm hlt lm0
      have HD := Lib.hid (idxAt_drop (isRef id) l lm0 k hlt k)
      generalize l.getD k lm0 = y at *
      obtain ⟨y0, y1, y2, y3, y4⟩ := y
      dsimp only at c0 c1 c2 c3 c4
      have hq : isRef id ⟨y0, y1, y2, y3, y4⟩ = (y0 == id) := rfl
      rw [hq] at HD
      clear hq
      by_cases hy : y0 = id
      · have b1 : (y0 == id) = true := by simpa using hy
        have HE := Lib.hid (show R = (k : Int) by rw [HL.out, HF.out, HD.out, if_pos b1])
        clear hy
        go_wp2_with fail
        go_ret
        exact ⟨by rw [HE.out]; rfl, HB.out.alloc hbs _⟩
      · have b1 : (y0 == id) = false := by simpa using hy
        have HE := Lib.hid (show idxAt (isRef id) l 0 = idxAt (isRef id) (l.drop (k + 1)) ((k + 1 : Nat) : Int) by rw [HF.out, HD.out, if_neg (by rw [b1]; decide)]; rfl)
        clear hy
        go_wp2_with fail
        go_roundg (l.length - (k + 1))
        case measure => have := HK.out; omega
        case rel => exact ⟨k + 1, rfl, by omega, by go_num, HE.out, HB.out.alloc hbs _⟩
    · have HE := Lib.hid (show R = -1 by rw [HL.out, HF.out, List.drop_eq_nil_of_le (by omega)]; rfl)
      go_wp2_with fail
      go_ret
      exact ⟨by rw [HE.out]; rfl, HB.out⟩
end Go.Proofs.Ytgjimjpbogadjaa
