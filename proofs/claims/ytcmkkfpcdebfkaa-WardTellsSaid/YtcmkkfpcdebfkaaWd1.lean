/-
  Supervisors (package ward): their plain form, what is wrong with one, a child found by its id.
-/
import Derived.Test.YtcmkkfpcdebfkaaWcRow
import Derived.Test.YtcmkkfpcdebfkaaWfRow
import Derived.Test.YtcmkkfpcdebfkaaOnly
import Derived.Outline
import Derived.Deep.LoopGhost
namespace Go.Proofs.Ytcmkkfpcdebfkaa
open Go.RowKit

abbrev Ch := Int × Int × Bool
/-- A supervisor: strategy, most, window, children (id, policy, lives), times. -/
structure Wd where
  how : Int
  most : Int
  win : Int
  ch : List Ch
  tm : List Int
/-- Where its two slices lie. -/
structure WA where
  A : Option Addr
  c : Nat
  B : Option Addr
  d : Nat
def wardV (x : WA) (v : Wd) : Value := .agg #[.int .i64 v.how, .int .i64 v.most, .int .i64 v.win, .slice x.A v.ch.length x.c, .slice x.B v.tm.length x.d]
/-- A supervisor reads so. -/
structure WIn (w : World) (x : WA) (v : Wd) : Prop where
  ch : Row w w.heap.size x.A (flat wcC v.ch)
  tm : Row w w.heap.size x.B (ints v.tm)
  c1 : v.ch.length ≤ x.c
  c2 : x.c ≤ maxLen
  c3 : x.A = none → x.c = 0
  d1 : v.tm.length ≤ x.d
  d2 : x.d ≤ maxLen
  d3 : x.B = none → x.d = 0
theorem WIn.below {w w' : World} {x : WA} {v : Wd} (h : WIn w x v) (hb : Below w.heap.size w w') : WIn w' x v :=
  ⟨(h.ch.below hb).more hb.size, (h.tm.below hb).more hb.size, h.c1, h.c2, h.c3, h.d1, h.d2, h.d3⟩

def isId (id : Int) (x : Ch) : Bool := x.1 == id
/-- What is wrong with the children: pre are those before. -/
def chF (pre : List Ch) : List Ch → Int
  | [] => 0
  | x :: r => if x.2.1 < 1 ∨ 3 < x.2.1 then 1 else if pre.any (isId x.1) = true then 5 else chF (pre ++ [x]) r
/-- What is wrong with the times. -/
def tmF (last : Int) : List Int → Int
  | [] => 0
  | t :: r => if t < last ∨ 1099511627776 < t then 21 else tmF t r
def wardF (v : Wd) : Int :=
  if (v.how < 1 ∨ 3 < v.how) ∨ (v.most < 0 ∨ 50 < v.most) ∨ (v.win < 1 ∨ 1099511627776 < v.win) then 1
  else if 20 < v.ch.length ∨ 50 < v.tm.length then 2
  else if chF [] v.ch = 0 then tmF 0 v.tm else chF [] v.ch

theorem enters_find : Enters 212 := fun _ _ => by kernel_rfl
set_option maxHeartbeats 400000 in
theorem find1_any (x : Ch) (id : Int) (gk : Nat) (w : World) (hk : w.cell? ⟨gk, 0, none⟩ = some (.int .i64 id)) :
    Calls Try.prog 212 #[wcV x, .pointer (some ⟨gk, 0, none⟩)] w fun e w' => e = .returned (.bool (isId id x)) ∧ Below w.heap.size w w' := by
  obtain ⟨x1, x2, x3⟩ := x
  have hk1 := lt_of_cell hk
  dsimp only at hk1
  unfold wcV
  dsimp only
  have HI := Lib.hid (show isId id (x1, x2, x3) = (x1 == id) from rfl)
  generalize isId id (x1, x2, x3) = r at *
  go_enter Try.func212, Try.ntmps212
  go_wp2_with fail
  go_ret
  exact ⟨by rw [HI.out]; rfl, (Below.refl _ _).alloc (Nat.le_refl _) _⟩

set_option maxHeartbeats 400000 in
theorem find_any (id : Int) (A : Option Addr) (c : Nat) (l : List Ch) (w : World) (hr : Row w w.heap.size A (flat wcC l)) (hlm : l.length ≤ maxLen) :
    Calls Try.prog 180 #[.slice A l.length c, .int .i64 id] w fun e w' => e = .returned (.int .i64 (idxAt (isId id) l 0)) ∧ Below w.heap.size w w' := by
  have hal : Below w.heap.size w (w.alloc (.cells #[.int .i64 id] 3)) := (Below.refl _ _).alloc (Nat.le_refl _) _
  have hc : (w.alloc (.cells #[.int .i64 id] 3)).cell? ⟨w.heap.size, 0, none⟩ = some (.int .i64 id) := (Box.new _ _ _).cell 0
  have hx := indexFunc_wc A c l 212 #[.pointer (some ⟨w.heap.size, 0, none⟩)] (isId id) w.heap.size (fun u => Below (w.heap.size + 1) (w.alloc (.cells #[.int .i64 id] 3)) u) (w.alloc (.cells #[.int .i64 id] 3)) enters_find hlm
    (fun u hu => ((hr.below hal).below (hu.mono (by omega))))
    (fun x _ u hu => (find1_any x id w.heap.size u ((hu.cell (p := ⟨w.heap.size, 0, none⟩) (by simp)).trans hc)).mono fun e w' ⟨h1, h2⟩ => ⟨h1, hu.trans (h2.mono (by have := hu.size; simp at this; omega))⟩) (Below.refl _ _)
  have HX := Lib.hid hx
  have HB := Lib.hid (fun u (hu : Below (w.heap.size + 1) (w.alloc (.cells #[.int .i64 id] 3)) u) => hal.trans (hu.mono (by simp)))
  clear hx hal hc hr hlm
  generalize idxAt (isId id) l 0 = r at *
  go_enter Try.func180, Try.ntmps180
  go_wp2_with fail
  refine HX.out.mono ?_
  rintro e w1 ⟨rfl, hw1⟩
  go_wp2_with fail
  go_ret
  exact ⟨rfl, HB.out w1 hw1⟩
end Go.Proofs.Ytcmkkfpcdebfkaa
