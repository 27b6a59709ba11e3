
/-
  Objects of a heap read (heap.At, heap.Objects).
-/
import Derived.Test.YtgjimjpbogadjaaHp6
import Derived.Deep.LoopGhost
namespace Go.Proofs.Ytgjimjpbogadjaa
open Go.RowKit

/-- What is read at a place: the object, the number of its words, the error. -/
def rdF (h : List Nat) (p : Int) : Ob × Int × Int :=
  if p < 0 ∨ (h.length : Int) ≤ p then (oc0.o, 0, 4) else match progF h p.toNat with
  | none => (oc0.o, 0, 3)
  | some o => (o, ((wordsF o).length : Nat), 0)
theorem oc0_new (w : World) (base : Nat) : PNew w base oc0 := ⟨Row.nil, fun _ => rfl, Nat.le_refl _, Nat.zero_le _, fun a ha => by cases ha⟩
def RdP (w : World) (h : List Nat) (p : Int) (e : Ending) (w' : World) : Prop := Below w.heap.size w w' ∧ ∃ (y : OC) (n er : Int), e = .returned (.tuple #[ocV y, .int .i64 n, .int .i64 er]) ∧ rdF h p = (y.o, n, er) ∧ PNew w' w.heap.size y
theorem hread_any (A : Option Addr) (c : Nat) (h : List Nat) (p : Int) (w : World) (hh : HpIn w A c h) : Calls Try.prog 166 #[.slice A h.length c, .int .i64 p] w (RdP w h p) := by
  by_cases hp : p < 0 ∨ (h.length : Int) ≤ p
  · refine (read_out A c h p w hp).mono ?_
    rintro e w' ⟨hb, rfl⟩
    exact ⟨hb, oc0, 0, 4, rfl, by unfold rdF; rw [if_pos hp], oc0_new _ _⟩
  · obtain ⟨q, rfl⟩ : ∃ q : Nat, p = q := ⟨p.toNat, by omega⟩
    refine (read_in A c h q w hh (by omega)).mono ?_
    rintro e w' ⟨hb, hpost⟩
    refine ⟨hb, ?_⟩
    unfold rdF
    rw [if_neg hp, Int.toNat_natCast]
    cases hq : progF h q with
    | none =>
      rw [hq] at hpost
      exact ⟨oc0, 0, 3, hpost, rfl, oc0_new _ _⟩
    | some o =>
      rw [hq] at hpost
      obtain ⟨y, rfl, hy, he⟩ := hpost
      exact ⟨y, _, 0, he, rfl, hy⟩

/-- An object stored whole. -/
theorem ob_stored {w : World} {g : Nat} {o1 k o3 : Int} {tx : List UInt8} {A : Option Addr} {n c : Nat} (hb : ObBox w g o1 k o3 tx A n c) (y1 y2 y3 : Int) (y4 : List UInt8) (B : Option Addr) (m d : Nat) : ∀ w', w' = ((((w.setCell ⟨g, 0, none⟩ (.int .i64 y1)).setCell ⟨g, 1, none⟩ (.int .i64 y2)).setCell ⟨g, 2, none⟩ (.int .i64 y3)).setCell ⟨g, 3, none⟩ (.string ⟨y4.toArray⟩)).setCell ⟨g, 4, none⟩ (.slice B m d) →
    ObBox w' g y1 y2 y3 y4 B m d ∧ Only (fun b => b = g) w w' := by
  rintro w' rfl
  exact ⟨((((hb.set 0 _).set 1 _).set 2 _).set 3 _).set 4 _, (((((Only.refl (fun b => b = g) w).set (p := ⟨g, 0, none⟩) rfl _).set (p := ⟨g, 1, none⟩) rfl _).set (p := ⟨g, 2, none⟩) rfl _).set (p := ⟨g, 3, none⟩) rfl _).set (p := ⟨g, 4, none⟩) rfl _⟩

def AtP (w : World) (h : List Nat) (p : Int) (e : Ending) (w' : World) : Prop := Below w.heap.size w w' ∧ ∃ (y : OC) (er : Int), e = .returned (.tuple #[ocV y, .int .i64 er]) ∧ y.o = (rdF h p).1 ∧ er = (rdF h p).2.2 ∧ PNew w' w.heap.size y

set_option maxRecDepth 100000 in
set_option maxHeartbeats 4000000 in
theorem at_any (A : Option Addr) (c : Nat) (h : List Nat) (p : Int) (w : World) (hh : HpIn w A c h) : Calls Try.prog 121 #[.slice A h.length c, .int .i64 p] w (AtP w h p) := by
  have hb1 := (Below.refl w.heap.size w).alloc (Nat.le_refl _) (.cells #[.int .i64 0, .int .i64 0, .int .i64 0, .string ⟨#[]⟩, .slice none 0 0] 139)
  have hbx : ObBox (w.alloc (.cells #[.int .i64 0, .int .i64 0, .int .i64 0, .string ⟨#[]⟩, .slice none 0 0] 139)) w.heap.size 0 0 0 [] none 0 0 := Box.new w 139 #[.int .i64 0, .int .i64 0, .int .i64 0, .string ⟨#[]⟩, .slice none 0 0]
  have hrd := hread_any A c h p (w.alloc (.cells #[.int .i64 0, .int .i64 0, .int .i64 0, .string ⟨#[]⟩, .slice none 0 0] 139)) (hh.below hb1)
  have hsz : (w.alloc (.cells #[.int .i64 0, .int .i64 0, .int .i64 0, .string ⟨#[]⟩, .slice none 0 0] 139)).heap.size = w.heap.size + 1 := by simp
  have HRD := Lib.hid hrd
  clear hrd hh
  go_enter Try.func121, Try.ntmps121
  go_upto_region 1 with fail
  generalize w.alloc (.cells #[.int .i64 0, .int .i64 0, .int .i64 0, .string ⟨#[]⟩, .slice none 0 0] 139) = w1 at *
  have HB1 := Lib.hid hb1
  have HX1 := Lib.hid hbx
  clear hb1 hbx
  go_upto_region 2 with (go_at_call 166; refine HRD.out.mono ?_; rintro e w2 ⟨hb2, y, n, er, rfl, hy, hpn⟩; unfold ocV; obtain ⟨⟨y1, y2, y3, y4, y5⟩, B, d⟩ := y; dsimp only at *)
  generalize hlen : y5.length = m at *
  have hbx2 := (HX1.out.below hb2 HX1.out.lt).alloc (.cells #[.int .i64 y1, .int .i64 y2, .int .i64 y3, .string ⟨y4.toArray⟩, .slice B m d] 139)
  have hby := Box.new w2 139 #[.int .i64 y1, .int .i64 y2, .int .i64 y3, .string ⟨y4.toArray⟩, .slice B m d]
  have hal := (Below.refl w2.heap.size w2).alloc (Nat.le_refl _) (.cells #[.int .i64 y1, .int .i64 y2, .int .i64 y3, .string ⟨y4.toArray⟩, .slice B m d] 139)
  have HPN := Lib.hid (hpn.below hal)
  have HB2 := Lib.hid (HB1.out.trans ((hb2.trans (hal.mono hb2.size)).mono (by omega)))
  have hlt2 : w.heap.size < w2.heap.size := by have := hb2.size; omega
  generalize w2.alloc (.cells #[.int .i64 y1, .int .i64 y2, .int .i64 y3, .string ⟨y4.toArray⟩, .slice B m d] 139) = w3 at *
  generalize w2.heap.size = g2 at *
  obtain ⟨f0, f1, f2, f3, f4⟩ := ObBox.cells hby
  obtain ⟨r0, r1, r2, r3, r4⟩ := ObBox.cells hbx2
  have z0 := hbx2.frozen 0
  have z1 := hbx2.frozen 1
  have z2 := hbx2.frozen 2
  have z3 := hbx2.frozen 3
  have z4 := hbx2.frozen 4
  have HY := Lib.hid hy
  have HL := Lib.hid hlen
  have HX2 := Lib.hid hbx2
  clear hb2 hpn hal hy hlen hbx2 hby
  go_wp2_with fail
  obtain ⟨wr, hwr⟩ : ∃ wr, wr = ((((w3.setCell ⟨w.heap.size, 0, none⟩ (.int .i64 y1)).setCell ⟨w.heap.size, 1, none⟩ (.int .i64 y2)).setCell ⟨w.heap.size, 2, none⟩ (.int .i64 y3)).setCell ⟨w.heap.size, 3, none⟩ (.string ⟨y4.toArray⟩)).setCell ⟨w.heap.size, 4, none⟩ (.slice B m d) := ⟨_, rfl⟩
  rw [← hwr]
  obtain ⟨hxr, hor⟩ := ob_stored HX2.out y1 y2 y3 y4 B m d wr hwr
  obtain ⟨q0, q1, q2, q3, q4⟩ := ObBox.cells hxr
  refine bodyPost_ret (v := .tuple #[.agg #[.int .i64 y1, .int .i64 y2, .int .i64 y3, .string ⟨y4.toArray⟩, .slice B m d], .int .i64 er]) (by simp [results, Try.results121, q0, q1, q2, q3, q4, go_sem]) rfl ?_
  refine ⟨hor.to_below HB2.out HB2.out.size (fun i hi => Nat.le_of_eq hi.symm), ⟨⟨y1, y2, y3, y4, y5⟩, B, d⟩, er, by rw [← HL.out]; rfl, by rw [HY.out], by rw [HY.out], (HPN.out.only hor (fun i hi => by omega)).lower (by omega)⟩

/-- All objects of a heap, and what is wrong with it. -/
def allR (h : List Nat) : List Ob × Int := if 4000 < h.length then ([], 2) else match allF h 0 with
  | none => ([], 3)
  | some os => (os, 0)
def AllP (w : World) (h : List Nat) (e : Ending) (w' : World) : Prop := Below w.heap.size w w' ∧ ∃ (A : Option Addr) (n c : Nat) (ys : List OC) (er : Int), e = .returned (.tuple #[.slice A n c, .int .i64 er]) ∧ n = ys.length ∧ ObMk w' w.heap.size A c ys ∧ allR h = (ys.map (·.o), er)
theorem allP_large {w w' : World} {h : List Nat} (hb : Below w.heap.size w w') (h1 : 4000 < h.length) : AllP w h (.returned (.tuple #[.slice none 0 0, .int .i64 2])) w' :=
  ⟨hb, none, 0, 0, [], 2, rfl, rfl, ObMk.nil, by unfold allR; rw [if_pos h1]; rfl⟩
theorem allP_form {w w' : World} {h : List Nat} (hb : Below w.heap.size w w') (h1 : ¬ 4000 < h.length) (h2 : allF h 0 = none) : AllP w h (.returned (.tuple #[.slice none 0 0, .int .i64 3])) w' :=
  ⟨hb, none, 0, 0, [], 3, rfl, rfl, ObMk.nil, by unfold allR; rw [if_neg h1, h2]; rfl⟩
theorem allP_ok {w w' : World} {h : List Nat} (hb : Below w.heap.size w w') (h1 : ¬ 4000 < h.length) {A : Option Addr} {c : Nat} {ys : List OC} (hm : ObMk w' w.heap.size A c ys) (h2 : allF h 0 = some (ys.map (·.o))) : AllP w h (.returned (.tuple #[.slice A ys.length c, .int .i64 0])) w' :=
  ⟨hb, A, _, c, ys, 0, rfl, rfl, hm, by unfold allR; rw [if_neg h1, h2]⟩

/-- How far one has come. -/
def AllSt (h : List Nat) (q : Nat) (ys : List OC) : Prop := ys.length ≤ q ∧ q ≤ h.length ∧ allF h 0 = (allF h q).map (ys.map (·.o) ++ ·)
theorem AllSt.nil (h : List Nat) : AllSt h 0 [] := ⟨Nat.le_refl _, Nat.zero_le _, by cases allF h 0 <;> rfl⟩
theorem AllSt.fail {h : List Nat} {q : Nat} {ys : List OC} (s : AllSt h q ys) (hq : q < h.length) (e : progF h q = none) : allF h 0 = none := by
  rw [s.2.2, allF_none h hq e]
  rfl
theorem AllSt.done {h : List Nat} {ys : List OC} {q : Nat} (s : AllSt h q ys) (hq : h.length ≤ q) : allF h 0 = some (ys.map (·.o)) := by
  rw [s.2.2, allF_end h hq]
  simp
theorem AllSt.step {h : List Nat} {q : Nat} {ys : List OC} (s : AllSt h q ys) (hq : q < h.length) {y : OC} (e : progF h q = some y.o) : AllSt h (q + (wordsF y.o).length) (ys ++ [y]) := by
  have h1 := progF_ok e
  have h2 := wordsF_pos y.o
  refine ⟨by rw [List.length_append]; have := s.1; simp; omega, h1.2.1, ?_⟩
  rw [s.2.2, allF_some h hq e, Option.map_map]
  congr 1
  funext l
  simp

end Go.Proofs.Ytgjimjpbogadjaa
