/-
  The world's small functions: isNode, Has, Freed.
-/
import Derived.Test.YtcmkkfpcdebfkaaWt1
import Derived.IntWalk
import Derived.Outline
import Derived.Deep.LoopGhost
import Derived.Deep.DeepCutAuto
import Derived.Deep.CutBlock
import Derived.Deep.RegionLaw
import Derived.Deep.RegionHeld3
namespace Go.Proofs.Ytcmkkfpcdebfkaa
open Go.RowKit

section
variable {w : World} {B : Nat} {f : Nat → Nat} {x : Nat} {n : Int} {q : Nat} {s : WS} {r : XR}
theorem XAt.c1 (h : XAt w B f x n q s r) : w.cell? ⟨x, 1, none⟩ = some (.slice r.A s.T.length r.c) := h.rb.cr (j := 0) (by omega)
theorem XAt.c2 (h : XAt w B f x n q s r) : w.cell? ⟨x, 2, none⟩ = some (.slice r.A2 s.Y.length r.c2) := h.rb.cr (j := 1) (by omega)
theorem XAt.cells (h : XAt w B f x n q s r) {i : Nat} (hi : i < s.T.length) : ∃ g o, r.A = some ⟨g, o, none⟩ ∧ w.cell? ⟨g, o + i, none⟩ = some (.pointer (some ⟨(thp r i).1, 0, none⟩)) ∧
    w.cell? ⟨(thp r i).1, 0, none⟩ = some (.int .i64 (s.T.getD i th0).home) ∧ w.cell? ⟨(thp r i).1, 1, none⟩ = some (.int .i64 (s.T.getD i th0).back) ∧ w.cell? ⟨(thp r i).1, 2, none⟩ = some (.map (some (thp r i).2)) := by
  have ho := h.rb.own 0 (by omega)
  obtain ⟨g, o, hA, _⟩ := ho.some_of (show 0 < s.T.length by omega)
  change r.A = _ at hA
  refine ⟨g, o, hA, ?_, ?_, ?_, ?_⟩
  · change OwnAt w B 270 1 r.A s.T.length r.c (flat ptC r.L) at ho
    rw [hA] at ho
    refine ho.cells i _ ?_
    have hl := h.len
    have := flat_get ptC_len (l := r.L) (i := i) (j := 0) (x := thp r i) (u := .pointer (some ⟨(thp r i).1, 0, none⟩)) (by
      unfold thp
      rw [List.getD_eq_getElem?_getD, List.getElem?_eq_getElem (by omega)]
      rfl) rfl
    simpa using this
  · rw [(h.tb i hi).cell]; rfl
  · rw [(h.tb i hi).cell]; rfl
  · rw [(h.tb i hi).cell]; rfl
end

def isW (n k : Int) : Bool := decide (0 ≤ k ∧ k < n)
theorem isNode_w (x : Nat) (n k : Int) (w : World) (hc : w.cell? ⟨x, 0, none⟩ = some (.int .i64 n)) : Calls Try.prog 144 #[.pointer (some ⟨x, 0, none⟩), .int .i64 k] w fun e w' => e = .returned (.bool (isW n k)) ∧ w = w' := by
  unfold isW
  by_cases h1 : 0 ≤ k
  · have d1 : decide (0 ≤ k) = true := by simp; omega
    by_cases h2 : k < n
    · have d2 : decide (k < n) = true := by simp; omega
      rw [show decide (0 ≤ k ∧ k < n) = true by simp; omega]
      go_enter Try.func144, Try.ntmps144
      go_wp2_with fail
      go_ret
      exact ⟨rfl, rfl⟩
    · have d2 : decide (k < n) = false := by simp; omega
      rw [show decide (0 ≤ k ∧ k < n) = false by simp; omega]
      go_enter Try.func144, Try.ntmps144
      go_wp2_with fail
      go_ret
      exact ⟨rfl, rfl⟩
  · have d1 : decide (0 ≤ k) = false := by simp; omega
    rw [show decide (0 ≤ k ∧ k < n) = false by simp; omega]
    go_enter Try.func144, Try.ntmps144
    go_wp2_with fail
    go_ret
    exact ⟨rfl, rfl⟩

set_option maxRecDepth 100000 in
set_option maxHeartbeats 1000000 in
theorem has_any (B : Nat) (f : Nat → Nat) (x : Nat) (n : Int) (q : Nat) (s : WS) (r : XR) (node t : Int) (w : World) (h : XAt w B f x n q s r) (hI : I64 node) :
    Calls Try.prog 145 #[.pointer (some ⟨x, 0, none⟩), .int .i64 node, .int .i64 t] w fun e w' => e = .returned (.tuple #[.int .i64 (hasV n s node t), .int .i64 (hasE n s node t)]) ∧ w = w' := by
  have HN := Lib.hid (isNode_w x n node w h.rb.c0)
  have c1 := h.c1
  by_cases h1 : node < 0 ∨ n ≤ node
  · have he : hasE n s node t = 1 := if_pos (.inl h1)
    rw [show hasV n s node t = 0 by unfold hasV; rw [he]; rfl, he]
    rw [show isW n node = false by unfold isW; simp; omega] at HN
    clear h h1 he c1
    go_enter Try.func145, Try.ntmps145
    go_wp2_with fail
    refine HN.out.mono ?_
    rintro e w1 ⟨rfl, rfl⟩
    go_wp2_with fail
    go_ret2
    exact ⟨rfl, rfl⟩
  rw [show isW n node = true by unfold isW; simp; omega] at HN
  by_cases h2 : t < 0
  · have he : hasE n s node t = 1 := if_pos (.inr (.inl h2))
    rw [show hasV n s node t = 0 by unfold hasV; rw [he]; rfl, he]
    have d2 : decide (t < 0) = true := by simp; omega
    clear h h1 he c1
    go_enter Try.func145, Try.ntmps145
    go_wp2_with fail
    refine HN.out.mono ?_
    rintro e w1 ⟨rfl, rfl⟩
    go_wp2_with fail
    go_ret2
    exact ⟨rfl, rfl⟩
  have d2 : decide (t < 0) = false := by simp; omega
  obtain ⟨k, rfl⟩ := Int.eq_ofNat_of_zero_le (show 0 ≤ t by omega)
  by_cases h3 : s.T.length ≤ k
  · have he : hasE n s node k = 1 := if_pos (.inr (.inr (by omega)))
    rw [show hasV n s node k = 0 by unfold hasV; rw [he]; rfl, he]
    have d3 : decide ((s.T.length : Int) ≤ (k : Int)) = true := by simp; omega
    have d3' : decide (s.T.length ≤ k) = true := by simp; omega
    generalize s.T.length = L at *
    clear h h1 he
    go_enter Try.func145, Try.ntmps145
    go_wp2_with fail
    refine HN.out.mono ?_
    rintro e w1 ⟨rfl, rfl⟩
    go_wp2_with fail
    go_ret2
    exact ⟨rfl, rfl⟩
  have d3 : decide ((s.T.length : Int) ≤ (k : Int)) = false := by simp; omega
  have d3' : decide (s.T.length ≤ k) = false := by simp; omega
  have hk : k < s.T.length := by omega
  have hk1 : (k : Int) < (s.T.length : Int) := by omega
  obtain ⟨g, o, hA, p0, _, _, p2⟩ := h.cells hk
  have hl := (h.mp k hk).look hI
  have hE : hasE n s node k = if (s.T.getD k th0).has node = 0 then 4 else 0 := by
    unfold hasE WS.at
    rw [if_neg (by omega), Int.toNat_natCast]
  have hV : hasV n s node k = (s.T.getD k th0).has node := by
    unfold hasV
    rw [hE]
    unfold WS.at
    rw [Int.toNat_natCast]
    by_cases e : (s.T.getD k th0).has node = 0
    · rw [if_pos e, if_neg (by decide), e]
    · rw [if_neg e, if_pos rfl]
  rw [hE, hV]
  rw [hA] at c1
  generalize (s.T.getD k th0).has node = z at *
  generalize thp r k = p at *
  generalize s.T.length = L at *
  clear h h1 hE hV hA h3
  by_cases hz : z = 0
  · subst hz
    rw [if_pos rfl]
    go_enter Try.func145, Try.ntmps145
    go_wp2_with fail
    refine HN.out.mono ?_
    rintro e w1 ⟨rfl, rfl⟩
    go_wp2_with fail
    go_ret2
    exact ⟨rfl, rfl⟩
  · rw [if_neg hz]
    have bz : (z == 0) = false := by simp [hz]
    clear hz
    go_enter Try.func145, Try.ntmps145
    go_wp2_with fail
    refine HN.out.mono ?_
    rintro e w1 ⟨rfl, rfl⟩
    go_wp2_with fail
    go_ret2
    exact ⟨rfl, rfl⟩

def freedE (s : WS) (t : Int) : Int := if t < 0 ∨ (s.T.length : Int) ≤ t then 1 else 0
def freedV (s : WS) (t : Int) : Bool := if t < 0 ∨ (s.T.length : Int) ≤ t then false else (s.at t).back == 65536
set_option maxRecDepth 100000 in
set_option maxHeartbeats 1000000 in
theorem freed_any (B : Nat) (f : Nat → Nat) (x : Nat) (n : Int) (q : Nat) (s : WS) (r : XR) (t : Int) (w : World) (h : XAt w B f x n q s r) :
    Calls Try.prog 149 #[.pointer (some ⟨x, 0, none⟩), .int .i64 t] w fun e w' => e = .returned (.tuple #[.bool (freedV s t), .int .i64 (freedE s t)]) ∧ w = w' := by
  have c1 := h.c1
  unfold freedV freedE
  by_cases h2 : t < 0
  · rw [if_pos (.inl h2), if_pos (.inl h2)]
    have d2 : decide (t < 0) = true := by simp; omega
    clear h c1
    go_enter Try.func149, Try.ntmps149
    go_wp2_with fail
    go_ret2
    exact ⟨rfl, rfl⟩
  have d2 : decide (t < 0) = false := by simp; omega
  obtain ⟨k, rfl⟩ := Int.eq_ofNat_of_zero_le (show 0 ≤ t by omega)
  by_cases h3 : s.T.length ≤ k
  · rw [if_pos (.inr (by omega)), if_pos (.inr (by omega))]
    have d3 : decide ((s.T.length : Int) ≤ (k : Int)) = true := by simp; omega
    have d3' : decide (s.T.length ≤ k) = true := by simp; omega
    generalize s.T.length = L at *
    clear h
    go_enter Try.func149, Try.ntmps149
    go_wp2_with fail
    go_ret2
    exact ⟨rfl, rfl⟩
  rw [if_neg (by omega), if_neg (by omega)]
  unfold WS.at
  rw [Int.toNat_natCast]
  have d3 : decide ((s.T.length : Int) ≤ (k : Int)) = false := by simp; omega
  have d3' : decide (s.T.length ≤ k) = false := by simp; omega
  have hk : k < s.T.length := by omega
  have hk1 : (k : Int) < (s.T.length : Int) := by omega
  obtain ⟨g, o, hA, p0, _, p1, _⟩ := h.cells hk
  rw [hA] at c1
  generalize (s.T.getD k th0).back = z at *
  generalize thp r k = p at *
  generalize s.T.length = L at *
  clear h hA h3
  go_enter Try.func149, Try.ntmps149
  go_wp2_with fail
  go_ret2
  exact ⟨rfl, rfl⟩
end Go.Proofs.Ytcmkkfpcdebfkaa
