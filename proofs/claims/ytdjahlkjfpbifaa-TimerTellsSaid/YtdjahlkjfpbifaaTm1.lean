
/-
  Timers: two dues compared (timer.order, cmp.Compare, cmp.Or), one found (timer.find), two timers compared.
-/
import Derived.Test.YtdjahlkjfpbifaaTmDI
import Derived.Test.YtdjahlkjfpbifaaOwnOnly
import Derived.Sort.Grow
import Derived.Deep.LoopGhost
import Derived.Deep.CutBlock
import Derived.Deep.DeepCutAuto
import Derived.Deep.RegionHeld3
namespace Go.Proofs.Ytdjahlkjfpbifaa
open Go.RowKit

theorem inT_any (n a b : Int) (w : World) : Calls Try.prog 63 #[.int .i64 n, .int .i64 a, .int .i64 b] w fun e w' => e = .returned (.bool (decide (a ≤ n) && decide (n ≤ b))) ∧ w = w' := by
  by_cases h1 : a ≤ n
  · have d1 : decide (a ≤ n) = true := by simp; omega
    rw [d1, Bool.true_and]
    generalize hd2 : decide (n ≤ b) = d2 at *
    go_enter Try.func63, Try.ntmps63
    go_wp2_with fail
    go_ret
    exact ⟨rfl, rfl⟩
  · have d1 : decide (a ≤ n) = false := by simp; omega
    rw [d1, Bool.false_and]
    go_enter Try.func63, Try.ntmps63
    go_wp2_with fail
    go_ret
    exact ⟨rfl, rfl⟩

theorem isNaN_any (x : Int) (w : World) : Calls Try.prog 176 #[.int .i64 x] w fun e w' => e = .returned (.bool false) ∧ w = w' := by
  go_enter Try.func176, Try.ntmps176
  go_wp2_with fail
  go_ret
  exact ⟨by simp, rfl⟩
def cmpI (x y : Int) : Int := if x < y then -1 else if y < x then 1 else 0
theorem compareI_any (x y : Int) (w : World) : Calls Try.prog 151 #[.int .i64 x, .int .i64 y] w fun e w' => e = .returned (.int .i64 (cmpI x y)) ∧ w = w' := by
  by_cases h1 : x < y
  · have d1 : decide (x < y) = true := by simp; omega
    have HE := Lib.hid (show cmpI x y = -1 by unfold cmpI; rw [if_pos h1])
    clear h1
    go_enter Try.func151, Try.ntmps151
    go_wp2_with (go_at_call 176; refine (isNaN_any _ _).mono ?_; rintro e w' ⟨rfl, rfl⟩)
    go_ret
    exact ⟨by rw [HE.out]; rfl, rfl⟩
  · have d1 : decide (x < y) = false := by simp; omega
    by_cases h2 : y < x
    · have d2 : decide (y < x) = true := by simp; omega
      have HE := Lib.hid (show cmpI x y = 1 by unfold cmpI; rw [if_neg h1, if_pos h2])
      clear h1 h2
      go_enter Try.func151, Try.ntmps151
      go_wp2_with (go_at_call 176; refine (isNaN_any _ _).mono ?_; rintro e w' ⟨rfl, rfl⟩)
      go_ret
      exact ⟨by rw [HE.out]; rfl, rfl⟩
    · have d2 : decide (y < x) = false := by simp; omega
      have HE := Lib.hid (show cmpI x y = 0 by unfold cmpI; rw [if_neg h1, if_neg h2])
      clear h1 h2
      go_enter Try.func151, Try.ntmps151
      go_wp2_with (go_at_call 176; refine (isNaN_any _ _).mono ?_; rintro e w' ⟨rfl, rfl⟩)
      go_ret
      exact ⟨by rw [HE.out]; rfl, rfl⟩

def orI (x y : Int) : Int := if x = 0 then y else x
theorem orI_any (g : Nat) (x y : Int) (w : World) (hb : Box w g 3 #[.int .i64 x, .int .i64 y]) : Calls Try.prog 150 #[.slice (some ⟨g, 0, none⟩) 2 2] w fun e w' => e = .returned (.int .i64 (orI x y)) ∧ w = w' := by
  have c0 : w.cell? ⟨g, 0, none⟩ = some (.int .i64 x) := hb.cell 0
  have c1 : w.cell? ⟨g, 1, none⟩ = some (.int .i64 y) := hb.cell 1
  have HC0 := Lib.hid c0
  have HC1 := Lib.hid c1
  have HO : Hid (orI x y = if x = 0 then y else x) := rfl
  clear hb c0 c1
  generalize orI x y = R at *
  go_enter Try.func150, Try.ntmps150
  go_wp2_with fail
  go_loopg [8] 2 (fun gk i wr => ∃ k : Nat, gk = 2 - k ∧ k ≤ 2 ∧ i = .int .i64 k ∧ Hid (0 < k → x = 0) ∧ Hid (1 < k → y = 0) ∧ w = wr)
  case atStart => exact ⟨0, rfl, by omega, rfl, fun h => absurd h (by omega), fun h => absurd h (by omega), rfl⟩
  case round =>
    obtain ⟨k, hgk, hk, rfl, HX, HY, rfl⟩ := hrel
    have hk' : k = 0 ∨ k = 1 ∨ k = 2 := by omega
    rcases hk' with rfl | rfl | rfl
    · have c0 := HC0.out
      by_cases hx : x = 0
      · rw [hx] at c0
        have HXX := Lib.hid hx
        clear hx
        go_wp2_with fail
        go_roundg 1
        case measure => omega
        case rel => exact ⟨1, rfl, by omega, rfl, fun _ => HXX.out, fun h => absurd h (by omega), rfl⟩
      · have d1 : decide (x = 0) = false := by simpa using hx
        have b1 : (x != 0) = true := by simpa using hx
        have HE := Lib.hid (show R = x by rw [HO.out, if_neg hx])
        clear hx
        go_wp2_with fail
        go_ret
        exact ⟨by rw [HE.out]; rfl, rfl⟩
    · have c1 := HC1.out
      have hx := HX.out (by omega)
      by_cases hy : y = 0
      · rw [hy] at c1
        have HXX := Lib.hid hx
        have HYY := Lib.hid hy
        clear hx hy
        go_wp2_with fail
        go_roundg 0
        case measure => omega
        case rel => exact ⟨2, rfl, by omega, rfl, fun _ => HXX.out, fun _ => HYY.out, rfl⟩
      · have b1 : (y != 0) = true := by simpa using hy
        have HE := Lib.hid (show R = y by rw [HO.out, if_pos hx])
        clear hy hx
        go_wp2_with fail
        go_ret
        exact ⟨by rw [HE.out]; rfl, rfl⟩
    · have HE := Lib.hid (show R = 0 by rw [HO.out, if_pos (HX.out (by omega)), HY.out (by omega)])
      go_wp2_with fail
      go_ret
      exact ⟨by rw [HE.out]; rfl, rfl⟩

/-- Blocks laid behind, and draws: nothing else. -/
def Gr (w w' : World) : Prop := ∃ q os, w' = Go.Sort.grow (w.drewN q) os
theorem Gr.refl (w : World) : Gr w w := ⟨0, #[], by simp [Go.Sort.grow, World.drewN]⟩
theorem Gr.alloc {w w' : World} (h : Gr w w') (o : Obj) : Gr w (w'.alloc o) := by
  obtain ⟨q, os, rfl⟩ := h
  exact ⟨q, os ++ #[o], by rw [Go.Sort.alloc_eq_grow, Go.Sort.grow_grow]⟩
theorem Gr.drewN {w w' : World} (h : Gr w w') (n : Nat) : Gr w (w'.drewN n) := by
  obtain ⟨q, os, rfl⟩ := h
  exact ⟨q + n, os, by simp [Go.Sort.grow, World.drewN, Nat.add_assoc]⟩
theorem Gr.drew {w w' : World} (h : Gr w w') : Gr w w'.drew := h.drewN 1
theorem Gr.below {w w' : World} (h : Gr w w') : Below w.heap.size w w' := by
  obtain ⟨q, os, rfl⟩ := h
  exact ⟨rfl, rfl, rfl, by simp [Go.Sort.grow, World.drewN], fun i hi => by simp [Go.Sort.grow, World.drewN, Array.getElem?_append, hi]⟩

def ordD (x y : Du) : Int := orI (cmpI x.t y.t) (cmpI x.id y.id)
theorem ordD_lt (x y : Du) : decide (ordD x y < 0) = duLt x y := by
  unfold ordD orI cmpI duLt
  obtain ⟨a, b⟩ := x
  obtain ⟨c, d⟩ := y
  dsimp only
  by_cases h1 : a < c
  · simp [h1]
  · by_cases h2 : c < a
    · simp [h1, h2]; omega
    · have : a = c := by omega
      subst this
      by_cases h3 : b < d
      · simp [h3]
      · by_cases h4 : d < b
        · simp [h3, h4]
        · simp [h3, h4]

set_option maxHeartbeats 1000000 in
theorem order_any (x y : Du) (w : World) : Calls Try.prog 107 #[duV x, duV y] w fun e w' => e = .returned (.int .i64 (ordD x y)) ∧ Gr w w' := by
  obtain ⟨x1, x2⟩ := x
  obtain ⟨y1, y2⟩ := y
  have HR : Hid (ordD ⟨x1, x2⟩ ⟨y1, y2⟩ = orI (cmpI x1 y1) (cmpI x2 y2)) := rfl
  generalize ordD ⟨x1, x2⟩ ⟨y1, y2⟩ = R at *
  unfold duV
  dsimp only
  have HG : Hid (Gr w ((w.alloc (.cells #[.int .i64 x1, .int .i64 x2] 139)).alloc (.cells #[.int .i64 y1, .int .i64 y2] 139))) := ((Gr.refl w).alloc _).alloc _
  have HB1 : Hid (Box ((w.alloc (.cells #[.int .i64 x1, .int .i64 x2] 139)).alloc (.cells #[.int .i64 y1, .int .i64 y2] 139)) w.heap.size 139 #[.int .i64 x1, .int .i64 x2]) := (Box.new w _ _).alloc _
  have HB2 : Hid (Box ((w.alloc (.cells #[.int .i64 x1, .int .i64 x2] 139)).alloc (.cells #[.int .i64 y1, .int .i64 y2] 139)) (w.heap.size + 1) 139 #[.int .i64 y1, .int .i64 y2]) := by
    have := Box.new (w.alloc (.cells #[.int .i64 x1, .int .i64 x2] 139)) 139 #[.int .i64 y1, .int .i64 y2]
    rwa [show (w.alloc (.cells #[.int .i64 x1, .int .i64 x2] 139)).heap.size = w.heap.size + 1 by simp] at this
  go_enter Try.func107, Try.ntmps107
  go_wp2_with fail
  generalize hw2 : (w.alloc (.cells #[.int .i64 x1, .int .i64 x2] 139)).alloc (.cells #[.int .i64 y1, .int .i64 y2] 139) = w2 at *
  have c0 : w2.cell? ⟨w.heap.size, 0, none⟩ = some (.int .i64 x1) := HB1.out.cell 0
  have c1 : w2.cell? ⟨w.heap.size, 1, none⟩ = some (.int .i64 x2) := HB1.out.cell 1
  have c2 : w2.cell? ⟨w.heap.size + 1, 0, none⟩ = some (.int .i64 y1) := HB2.out.cell 0
  have c3 : w2.cell? ⟨w.heap.size + 1, 1, none⟩ = some (.int .i64 y2) := HB2.out.cell 1
  clear hw2 HB1 HB2
  have HSK := Lib.hid (fun (w' : World) (hb : Below w2.heap.size w2 w') => (show (w'.cell? ⟨w.heap.size, 0, none⟩ = some (.int .i64 x1) ∧ w'.cell? ⟨w.heap.size, 1, none⟩ = some (.int .i64 x2)) ∧ w'.cell? ⟨w.heap.size + 1, 0, none⟩ = some (.int .i64 y1) ∧ w'.cell? ⟨w.heap.size + 1, 1, none⟩ = some (.int .i64 y2) from ⟨⟨(hb.cell (lt_of_cell c0)).trans c0, (hb.cell (lt_of_cell c1)).trans c1⟩, (hb.cell (lt_of_cell c2)).trans c2, (hb.cell (lt_of_cell c3)).trans c3⟩))
  have hd2 : Below w2.heap.size w2 w2.drew := below_drewN (Below.refl _ _) 1
  have hbo : Box (w2.alloc (.cells #[.int .i64 (cmpI x1 y1), .int .i64 (cmpI x2 y2)] 3)).drew w2.heap.size 3 #[.int .i64 (cmpI x1 y1), .int .i64 (cmpI x2 y2)] := Box.new w2 _ _
  go_region_held3 (fun w' => (w'.cell? ⟨w.heap.size, 0, none⟩ = some (.int .i64 x1) ∧ w'.cell? ⟨w.heap.size, 1, none⟩ = some (.int .i64 x2)) ∧ w'.cell? ⟨w.heap.size + 1, 0, none⟩ = some (.int .i64 y1) ∧ w'.cell? ⟨w.heap.size + 1, 1, none⟩ = some (.int .i64 y2))
    ((first | exact HSK.out _ (hd2.alloc hd2.size _) | exact HSK.out _ hd2 | exact HSK.out _ (Below.refl _ _) | go_keep))
    ((first
      | (go_at_call 151; (with_reducible refine (compareI_any x1 y1 _).mono ?_); rintro e w' ⟨rfl, rfl⟩)
      | (go_at_call 151; (with_reducible refine (compareI_any x2 y2 _).mono ?_); rintro e w' ⟨rfl, rfl⟩)
      | (go_at_call 150; (with_reducible refine (orI_any _ (cmpI x1 y1) (cmpI x2 y2) _ hbo).mono ?_); rintro e w' ⟨rfl, rfl⟩)))
  all_goals
    go_wp2_with fail
    go_ret
    exact ⟨by rw [HR.out]; rfl, (HG.out.alloc _).drew⟩

theorem enters_tmfind : Enters 152 := fun _ _ => by kernel_rfl
theorem enters_tmset : Enters 105 := fun _ _ => by kernel_rfl
set_option maxHeartbeats 400000 in
theorem tmfind1_any (x : Du) (id : Int) (gk : Nat) (w : World) (hk : w.cell? ⟨gk, 0, none⟩ = some (.int .i64 id)) :
    Calls Try.prog 152 #[duV x, .pointer (some ⟨gk, 0, none⟩)] w fun e w' => e = .returned (.bool (isId id x)) ∧ Below w.heap.size w w' := by
  obtain ⟨x1, x2⟩ := x
  have hk1 := lt_of_cell hk
  dsimp only at hk1
  unfold duV
  dsimp only
  have HI := Lib.hid (show isId id ⟨x1, x2⟩ = (x2 == id) from rfl)
  generalize isId id ⟨x1, x2⟩ = r at *
  go_enter Try.func152, Try.ntmps152
  go_wp2_with fail
  go_ret
  exact ⟨by rw [HI.out]; rfl, (Below.refl _ _).alloc (Nat.le_refl _) _⟩
set_option maxHeartbeats 400000 in
theorem tmset1_any (x : Du) (id : Int) (gk : Nat) (w : World) (hk : w.cell? ⟨gk, 0, none⟩ = some (.int .i64 id)) :
    Calls Try.prog 105 #[duV x, .pointer (some ⟨gk, 0, none⟩)] w fun e w' => e = .returned (.bool (isId id x)) ∧ Below w.heap.size w w' := by
  obtain ⟨x1, x2⟩ := x
  have hk1 := lt_of_cell hk
  dsimp only at hk1
  unfold duV
  dsimp only
  have HI := Lib.hid (show isId id ⟨x1, x2⟩ = (x2 == id) from rfl)
  generalize isId id ⟨x1, x2⟩ = r at *
  go_enter Try.func105, Try.ntmps105
  go_wp2_with fail
  go_ret
  exact ⟨by rw [HI.out]; rfl, (Below.refl _ _).alloc (Nat.le_refl _) _⟩

set_option maxHeartbeats 400000 in
theorem tmfind_any (id : Int) (A : Option Addr) (c : Nat) (l : List Du) (w : World) (hr : Row w w.heap.size A (flat duC l)) (hlm : l.length ≤ maxLen) :
    Calls Try.prog 108 #[.slice A l.length c, .int .i64 id] w fun e w' => e = .returned (.int .i64 (duAt l id)) ∧ Below w.heap.size w w' := by
  have hal : Below w.heap.size w (w.alloc (.cells #[.int .i64 id] 3)) := (Below.refl _ _).alloc (Nat.le_refl _) _
  have hc : (w.alloc (.cells #[.int .i64 id] 3)).cell? ⟨w.heap.size, 0, none⟩ = some (.int .i64 id) := (Box.new _ _ _).cell 0
  have hx := indexFunc_du A c l 152 #[.pointer (some ⟨w.heap.size, 0, none⟩)] (isId id) w.heap.size (fun u => Below (w.heap.size + 1) (w.alloc (.cells #[.int .i64 id] 3)) u) (w.alloc (.cells #[.int .i64 id] 3)) enters_tmfind hlm
    (fun u hu => ((hr.below hal).below (hu.mono (by omega))))
    (fun x _ u hu => (tmfind1_any x id w.heap.size u ((hu.cell (p := ⟨w.heap.size, 0, none⟩) (by simp)).trans hc)).mono fun e w' ⟨h1, h2⟩ => ⟨h1, hu.trans (h2.mono (by have := hu.size; simp at this; omega))⟩) (Below.refl _ _)
  have HX := Lib.hid hx
  have HB := Lib.hid (fun u (hu : Below (w.heap.size + 1) (w.alloc (.cells #[.int .i64 id] 3)) u) => hal.trans (hu.mono (by simp)))
  have HL : Hid (duAt l id = idxAt (isId id) l 0) := rfl
  clear hx hal hc hr hlm
  rw [HL.out]
  generalize idxAt (isId id) l 0 = r at *
  go_enter Try.func108, Try.ntmps108
  go_wp2_with fail
  refine HX.out.mono ?_
  rintro e w1 ⟨rfl, hw1⟩
  go_wp2_with fail
  go_ret
  exact ⟨rfl, HB.out w1 hw1⟩

/-- A slice of dues that is read. -/
def DuIn (w : World) (A : Option Addr) (l : List Du) : Prop := Row w w.heap.size A (flat duC l) ∧ l.length ≤ maxLen
theorem DuIn.below {w w' : World} {A : Option Addr} {l : List Du} (h : DuIn w A l) (hb : Below w.heap.size w w') : DuIn w' A l := ⟨(h.1.below hb).more hb.size, h.2⟩
theorem DuIn.nil (w : World) : DuIn w none [] := ⟨Row.nil, Nat.zero_le _⟩

set_option maxHeartbeats 1000000 in
theorem sameT_any (a b : Int) (A A' : Option Addr) (c c' : Nat) (l l' : List Du) (w : World) (hr : DuIn w A l) (hr' : DuIn w A' l') :
    Calls Try.prog 62 #[.agg #[.int .i64 a, .slice A l.length c], .agg #[.int .i64 b, .slice A' l'.length c']] w fun e w' => e = .returned (.bool (decide (a = b) && decide (l = l'))) ∧ Below w.heap.size w w' := by
  have hbx : Below w.heap.size w ((w.alloc (.cells #[.int .i64 a, .slice A l.length c] 128)).alloc (.cells #[.int .i64 b, .slice A' l'.length c'] 128)) := ((Below.refl _ _).alloc (Nat.le_refl _) _).alloc (by simp) _
  have HC := Lib.hid (equal_du A A' c c' l l' _ _ _ (hr.below hbx).1 (hr'.below hbx).1 hr.2 hr'.2)
  have HB := Lib.hid hbx
  generalize decide (l = l') = d at *
  clear hbx hr hr'
  by_cases h : a = b
  · have b1 : (a == b) = true := by simpa using h
    have b2 : decide (a = b) = true := by simpa using h
    rw [b2, Bool.true_and]
    clear h
    go_enter Try.func62, Try.ntmps62
    go_wp2_with (go_at_call 64; refine HC.out.mono ?_; rintro e w2 ⟨rfl, n2, rfl⟩)
    go_ret
    exact ⟨rfl, below_drewN HB.out _⟩
  · have b1 : (a == b) = false := by simpa using h
    have b2 : decide (a = b) = false := by simpa using h
    rw [b2, Bool.false_and]
    clear h
    go_enter Try.func62, Try.ntmps62
    go_wp2_with fail
    go_ret
    exact ⟨rfl, HB.out⟩
end Go.Proofs.Ytdjahlkjfpbifaa
