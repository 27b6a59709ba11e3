/-
  The law CreditPlays: whatever is asked of a pool, all is as the reference has it.
-/
import Derived.Test.YtjblfkoepedhpaaCredit5
import Derived.Test.YtjblfkoepedhpaaStore
import Derived.Deep.DeepCutAuto
import Derived.Deep.LoopGhost
import Derived.Laws.StructEq
namespace Go.Proofs.Ytjblfkoepedhpaa
open Go.ChangeShapes Go.WideShapes Go.ChangeAt Go.RowKit Go.Deep

theorem fit0 : Fit 1 0 (zeros 2) := ⟨by decide, by decide, by decide, by decide, by decide, by decide, by decide⟩
theorem fit1 : Fit 1 0 [(0, 0, 0), (1, 1, 0)] := ⟨by decide, by decide, by decide, by decide, by decide, by decide, by decide⟩
theorem fit2 : Fit 1 0 [(0, 0, 0), (1, 0, 1)] := ⟨by decide, by decide, by decide, by decide, by decide, by decide, by decide⟩
theorem start_want (g gl : Nat) (w : World) (h : XPool w g gl 1 0 (zeros 2)) :
    Calls Try.prog 64 #[.pointer (some ⟨g, 0, none⟩), .int .i64 1, .int .i64 2] w fun e w' => e = .returned (.int .i64 0) ∧ XPool w' g gl 1 0 [(0, 0, 0), (1, 1, 0)] ∧ Only (Two g gl) w w' := by
  have hh := want_ok g gl 1 0 (zeros 2) 1 2 w h fit0 (by decide) (by decide) (by decide) [(0, 0, 0), (2, 0, 0)] rfl
  rw [show granted 1 0 [(0, 0, 0), (2, 0, 0)] = (0, [(0, 0, 0), (1, 1, 0)]) by decide] at hh
  exact hh
theorem start_use (g gl : Nat) (w : World) (h : XPool w g gl 1 0 [(0, 0, 0), (1, 1, 0)]) :
    Calls Try.prog 65 #[.pointer (some ⟨g, 0, none⟩), .int .i64 1] w fun e w' => e = .returned (.int .i64 0) ∧ XPool w' g gl 1 0 [(0, 0, 0), (1, 0, 1)] ∧ Only (Two g gl) w w' :=
  use_ok g gl 1 0 _ 1 w h fit1 (by decide) (by decide) _ rfl
theorem start_wait (g gl : Nat) (w : World) (h : XPool w g gl 1 0 [(0, 0, 0), (1, 0, 1)]) :
    Calls Try.prog 65 #[.pointer (some ⟨g, 0, none⟩), .int .i64 1] w fun e w' => e = .returned (.int .i64 9) ∧ XPool w' g gl 1 0 [(0, 0, 0), (1, 0, 1)] ∧ Only (Two g gl) w w' :=
  use_wait g gl 1 0 _ 1 w h fit2 (by decide) (by decide)

set_option maxRecDepth 100000 in
set_option maxHeartbeats 1000000 in
theorem creditPlays_out (room lanes : Int) (v : Value) (W : World) (h : ¬ (1 ≤ room ∧ room ≤ 64 ∧ 1 ≤ lanes ∧ lanes ≤ 8)) :
    Calls Try.prog 11 #[.int .i64 room, .int .i64 lanes, v] W fun e w' => e = .returned (.bool true) ∧ Below W.heap.size W w' := by
  have HNO := Lib.hid (fun w => new_out room lanes w h)
  have HOR := Lib.hid (show room < 1 ∨ 64 < room ∨ lanes < 1 ∨ 8 < lanes by omega)
  clear h
  have hn0 := new_ok 1 2 W (by decide) (by decide)
  have HN0 := Lib.hid hn0
  clear hn0
  go_enter Try.func11, Try.ntmps11
  go_wp2_with fail
  refine HN0.out.mono ?_
  rintro e w1 ⟨rfl, hx1, hb1⟩
  have hS : ∀ i, Two (W.heap.size + 1) W.heap.size i → W.heap.size ≤ i := fun i hi => by rcases hi with rfl | rfl <;> omega
  have HS := Lib.hid hS
  have hlt := hx1.own.lt
  clear hS
  generalize hg : W.heap.size + 1 = g at *
  have HG := Lib.hid hg
  clear hg
  go_wp2_with fail
  refine (start_want g W.heap.size w1 hx1).mono ?_
  rintro e w2 ⟨rfl, hx2, ho2⟩
  have hb2 := ho2.to_below hb1 hb1.size HS.out
  go_wp2_with fail
  refine (start_use g W.heap.size w2 hx2).mono ?_
  rintro e w3 ⟨rfl, hx3, ho3⟩
  have hb3 := ho3.to_below hb2 hb2.size HS.out
  go_wp2_with fail
  refine (start_wait g W.heap.size w3 hx3).mono ?_
  rintro e w4 ⟨rfl, hx4, ho4⟩
  have hb4 := ho4.to_below hb3 hb3.size HS.out
  go_wp2_with fail
  refine (HNO.out _).mono ?_
  rintro e w5 ⟨rfl, rfl⟩
  by_cases h1 : room < 1
  · have d1 : decide (room < 1) = true := by simp; omega
    go_wp2_with fail
    go_ret
    exact ⟨rfl, hb4⟩
  have d1 : decide (room < 1) = false := by simp; omega
  by_cases h2 : 64 < room
  · have d2 : decide (64 < room) = true := by simp; omega
    go_wp2_with fail
    go_ret
    exact ⟨rfl, hb4⟩
  have d2 : decide (64 < room) = false := by simp; omega
  by_cases h3 : lanes < 1
  · have d3 : decide (lanes < 1) = true := by simp; omega
    go_wp2_with fail
    go_ret
    exact ⟨rfl, hb4⟩
  have d3 : decide (lanes < 1) = false := by simp; omega
  have d4 : decide (8 < lanes) = true := by have := HOR.out; simp; omega
  go_wp2_with fail
  go_ret
  exact ⟨rfl, hb4⟩

def inB (i : Int) (n : Nat) : Bool := decide (0 ≤ i ∧ i < (n : Int))
/-- Both pools are alike. -/
structure Twins (W : World) (room : Int) (n : Nat) (gx lx gm lm : Nat) (t t' : Nat) (L L' : List Lane) (w : World) : Prop where
  x : XPool w gx lx room t L
  m : MPool w gm lm room t' L'
  b : Below W.heap.size W w
  fit : Fit room t' L'
  len : L'.length = n
  s1 : W.heap.size ≤ gx
  s2 : W.heap.size ≤ lx
  s3 : W.heap.size ≤ gm
  s4 : W.heap.size ≤ lm
  n1 : gx ≠ gm
  n2 : gx ≠ lm
  n3 : lx ≠ gm
  n4 : lx ≠ lm
theorem Twins.play_x {W : World} {room : Int} {n gx lx gm lm t t' t1 : Nat} {L L' L1 : List Lane} {w w' : World} (h : Twins W room n gx lx gm lm t t' L L' w) (hx : XPool w' gx lx room t1 L1) (ho : Only (Two gx lx) w w') : Twins W room n gx lx gm lm t1 t' L1 L' w' :=
  ⟨hx, h.m.only ho (fun e => by rcases e with e | e; exact h.n1 e.symm; exact h.n3 e.symm) (fun e => by rcases e with e | e; exact h.n2 e.symm; exact h.n4 e.symm), ho.to_below h.b h.b.size (fun i hi => by rcases hi with rfl | rfl; exact h.s1; exact h.s2), h.fit, h.len, h.s1, h.s2, h.s3, h.s4, h.n1, h.n2, h.n3, h.n4⟩
theorem Twins.play_m {W : World} {room : Int} {n gx lx gm lm t t' t1 : Nat} {L L' L1 : List Lane} {w w' : World} (h : Twins W room n gx lx gm lm t t' L L' w) (hm : MPool w' gm lm room t1 L1) (ho : Only (Two gm lm) w w') (hf : Fit room t1 L1) (hl : L1.length = n) : Twins W room n gx lx gm lm t t1 L L1 w' :=
  ⟨h.x.only ho (fun e => by rcases e with e | e; exact h.n1 e; exact h.n2 e) (fun e => by rcases e with e | e; exact h.n3 e; exact h.n4 e), hm, ho.to_below h.b h.b.size (fun i hi => by rcases hi with rfl | rfl; exact h.s3; exact h.s4), hf, hl, h.s1, h.s2, h.s3, h.s4, h.n1, h.n2, h.n3, h.n4⟩
theorem Twins.below {W : World} {room : Int} {n gx lx gm lm t t' : Nat} {L L' : List Lane} {w w' : World} (h : Twins W room n gx lx gm lm t t' L L' w) (hb : Below w.heap.size w w') : Twins W room n gx lx gm lm t t' L L' w' :=
  ⟨h.x.below hb, h.m.below hb, h.b.trans (hb.mono h.b.size), h.fit, h.len, h.s1, h.s2, h.s3, h.s4, h.n1, h.n2, h.n3, h.n4⟩
/-- Behind a call: the reference has still to share. -/
def After (W : World) (room : Int) (n : Nat) (gx lx gm lm : Nat) (w : World) : Prop := ∃ t0 L0, Twins W room n gx lx gm lm (granted room t0 L0).1 t0 (granted room t0 L0).2 L0 w
theorem calm_granted {room : Int} {t : Nat} {L : List Lane} (h : Calm room t L) : granted room t L = (t, L) := granted_stop h

set_option maxRecDepth 100000 in
theorem arr_neq (w : World) (a b c : Int) : (binOp .neq 97 (.agg #[.int .i64 a, .int .i64 b, .int .i64 c]) (.agg #[.int .i64 a, .int .i64 b, .int .i64 c])).run Try.prog w = .ok (.bool false) w := by
  rw [run_neq_struct]
  have h97 := Try.underlying97
  have hs : (sizeOf 3).run Try.prog w = .ok 1 w := by kernel_rfl
  have hk : Try.prog.stoodInHeld 97 = false := by kernel_rfl
  have p0 : (part 3 #[.int .i64 a, .int .i64 b, .int .i64 c] 0).run Try.prog w = .ok (.int .i64 a) w := by kernel_rfl
  have p1 : (part 3 #[.int .i64 a, .int .i64 b, .int .i64 c] 1).run Try.prog w = .ok (.int .i64 b) w := by kernel_rfl
  have p2 : (part 3 #[.int .i64 a, .int .i64 b, .int .i64 c] 2).run Try.prog w = .ok (.int .i64 c) w := by kernel_rfl
  have e := fun x => run_equalIn_int (P := Try.prog) w 9998 3 .i64 .i64 x x Try.underlying3
  simp only [beq_self_eq_true] at e
  rw [show (10000 : Nat) = 9999 + 1 from rfl]
  unfold Op.equalIn
  simp only [Sem.run_bind, run_underlying h97, Result.andThen_ok, hs, Std.Legacy.Range.forIn_eq_forIn_range', Std.Legacy.Range.size, Nat.sub_zero, Nat.add_sub_cancel, Nat.div_one]
  rw [show List.range' 0 3 1 = [0, 1, 2] from rfl]
  simp only [List.forIn_cons, List.forIn_nil, Sem.run_bind, Nat.mul_one, p0, p1, p2, e, Result.andThen_ok, Bool.not_true, Bool.false_eq_true, if_false, Sem.run_pure]

/-- What is used in the place of what was granted leaves a pool calm. -/
theorem calm_use {room : Int} {t : Nat} {L : List Lane} {j : Nat} (hj : j < L.length) (a b : Int) (hab : a + b = (L.getD j (0, 0, 0)).2.1 + (L.getD j (0, 0, 0)).2.2) (h : Calm room t L) : Calm room t (L.set j ((L.getD j (0, 0, 0)).1, a, b)) := by
  have hs : spent (L.set j ((L.getD j (0, 0, 0)).1, a, b)) = spent L := by rw [spent_set L (0, 0, 0) hj]; simp only; omega
  have hn : next t (L.set j ((L.getD j (0, 0, 0)).1, a, b)) = next t L := by
    unfold next
    rw [List.length_set]
    refine nxt_same t L _ (by simp) (fun i => ?_) _
    rw [List.getD_eq_getElem?_getD, List.getElem?_set]
    by_cases hij : j = i
    · subst hij; simp [hj]
    · rw [if_neg hij, ← List.getD_eq_getElem?_getD]
  unfold Calm
  rw [hs, hn]
  exact h
end Go.Proofs.Ytjblfkoepedhpaa
