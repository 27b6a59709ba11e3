
/-
  Objects of a heap read (heap.At, heap.Objects).
-/
import Derived.Test.YtdjahlkjfpbifaaHp6
import Derived.Deep.LoopGhost
namespace Go.Proofs.Ytdjahlkjfpbifaa
open Go.RowKit

/-- What is read at a place: the object, the number of its words, the error. -/
def rdF (h : List Nat) (p : Int) : Ob × Int × Int :=
  if p < 0 ∨ (h.length : Int) ≤ p then (oc0.o, 0, 4) else match progF h p.toNat with
  | none => (oc0.o, 0, 3)
  | some o => (o, ((wordsF o).length : Nat), 0)
theorem oc0_new (w : World) (base : Nat) : PNew w base oc0 := ⟨Row.nil, fun _ => rfl, Nat.le_refl _, Nat.zero_le _, (fun a ha => by cases ha), OwnAt.nil⟩
def RdP (w : World) (h : List Nat) (p : Int) (e : Ending) (w' : World) : Prop := Below w.heap.size w w' ∧ ∃ (y : OC) (n er : Int), e = .returned (.tuple #[ocV y, .int .i64 n, .int .i64 er]) ∧ rdF h p = (y.o, n, er) ∧ PNew w' w.heap.size y
theorem hread_any (A : Option Addr) (c : Nat) (h : List Nat) (p : Int) (w : World) (hh : HpIn w A c h) : Calls Try.prog 128 #[.slice A h.length c, .int .i64 p] w (RdP w h p) := by
  by_cases hp : p < 0 ∨ (h.length : Int) ≤ p
  · refine (read_out A c h p w hp).mono ?_
    rintro e w' ⟨hb, rfl⟩
    exact ⟨hb, oc0, 0, 4, rfl, by unfold rdF; rw [if_pos hp], oc0_new _ _⟩
  · obtain ⟨q, rfl⟩ : ∃ q : Nat, p = q := ⟨p.toNat, by omega⟩
    refine (read_in A c h q w hh (by omega)).mono ?_
    rintro e w' ⟨hb, hpost⟩
    refine ⟨hb, ?_⟩
    unfold rdF
    rw [if_neg hp, Int.toNat_natCast]
    cases hq : progF h q with
    | none =>
      rw [hq] at hpost
      exact ⟨oc0, 0, 3, hpost, rfl, oc0_new _ _⟩
    | some o =>
      rw [hq] at hpost
      obtain ⟨y, rfl, hy, he⟩ := hpost
      exact ⟨y, _, 0, he, rfl, hy⟩

/-- An object stored whole. -/
theorem ob_stored {w : World} {g : Nat} {o1 k o3 : Int} {tx : List UInt8} {A : Option Addr} {n c : Nat} (hb : ObBox w g o1 k o3 tx A n c) (y1 y2 y3 : Int) (y4 : List UInt8) (B : Option Addr) (m d : Nat) : ∀ w', w' = ((((w.setCell ⟨g, 0, none⟩ (.int .i64 y1)).setCell ⟨g, 1, none⟩ (.int .i64 y2)).setCell ⟨g, 2, none⟩ (.int .i64 y3)).setCell ⟨g, 3, none⟩ (.string ⟨y4.toArray⟩)).setCell ⟨g, 4, none⟩ (.slice B m d) →
    ObBox w' g y1 y2 y3 y4 B m d ∧ Only (fun b => b = g) w w' := by
  rintro w' rfl
  exact ⟨((((hb.set 0 _).set 1 _).set 2 _).set 3 _).set 4 _, (((((Only.refl (fun b => b = g) w).set (p := ⟨g, 0, none⟩) rfl _).set (p := ⟨g, 1, none⟩) rfl _).set (p := ⟨g, 2, none⟩) rfl _).set (p := ⟨g, 3, none⟩) rfl _).set (p := ⟨g, 4, none⟩) rfl _⟩

def AtP (w : World) (h : List Nat) (p : Int) (e : Ending) (w' : World) : Prop := Below w.heap.size w w' ∧ ∃ (y : OC) (er : Int), e = .returned (.tuple #[ocV y, .int .i64 er]) ∧ y.o = (rdF h p).1 ∧ er = (rdF h p).2.2 ∧ PNew w' w.heap.size y

set_option maxRecDepth 100000 in
set_option maxHeartbeats 4000000 in
theorem at_any (A : Option Addr) (c : Nat) (h : List Nat) (p : Int) (w : World) (hh : HpIn w A c h) : Calls Try.prog 100 #[.slice A h.length c, .int .i64 p] w (AtP w h p) := by
  have hb1 := (Below.refl w.heap.size w).alloc (Nat.le_refl _) (.cells #[.int .i64 0, .int .i64 0, .int .i64 0, .string ⟨#[]⟩, .slice none 0 0] 113)
  have hbx : ObBox (w.alloc (.cells #[.int .i64 0, .int .i64 0, .int .i64 0, .string ⟨#[]⟩, .slice none 0 0] 113)) w.heap.size 0 0 0 [] none 0 0 := Box.new w 113 #[.int .i64 0, .int .i64 0, .int .i64 0, .string ⟨#[]⟩, .slice none 0 0]
  have hrd := hread_any A c h p (w.alloc (.cells #[.int .i64 0, .int .i64 0, .int .i64 0, .string ⟨#[]⟩, .slice none 0 0] 113)) (hh.below hb1)
  have hsz : (w.alloc (.cells #[.int .i64 0, .int .i64 0, .int .i64 0, .string ⟨#[]⟩, .slice none 0 0] 113)).heap.size = w.heap.size + 1 := by simp
  have HRD := Lib.hid hrd
  clear hrd hh
  go_enter Try.func100, Try.ntmps100
  go_upto_region 1 with fail
  generalize w.alloc (.cells #[.int .i64 0, .int .i64 0, .int .i64 0, .string ⟨#[]⟩, .slice none 0 0] 113) = w1 at *
  have HB1 := Lib.hid hb1
  have HX1 := Lib.hid hbx
  clear hb1 hbx
  go_upto_region 2 with (go_at_call 128; refine HRD.out.mono ?_; rintro e w2 ⟨hb2, y, n, er, rfl, hy, hpn⟩; unfold ocV; obtain ⟨⟨y1, y2, y3, y4, y5⟩, B, d⟩ := y; dsimp only at *)
  generalize hlen : y5.length = m at *
  have hbx2 := (HX1.out.below hb2 HX1.out.lt).alloc (.cells #[.int .i64 y1, .int .i64 y2, .int .i64 y3, .string ⟨y4.toArray⟩, .slice B m d] 113)
  have hby := Box.new w2 113 #[.int .i64 y1, .int .i64 y2, .int .i64 y3, .string ⟨y4.toArray⟩, .slice B m d]
  have hal := (Below.refl w2.heap.size w2).alloc (Nat.le_refl _) (.cells #[.int .i64 y1, .int .i64 y2, .int .i64 y3, .string ⟨y4.toArray⟩, .slice B m d] 113)
  have HPN := Lib.hid (hpn.below hal)
  have HB2 := Lib.hid (HB1.out.trans ((hb2.trans (hal.mono hb2.size)).mono (by omega)))
  have hlt2 : w.heap.size < w2.heap.size := by have := hb2.size; omega
  generalize w2.alloc (.cells #[.int .i64 y1, .int .i64 y2, .int .i64 y3, .string ⟨y4.toArray⟩, .slice B m d] 113) = w3 at *
  generalize w2.heap.size = g2 at *
  obtain ⟨f0, f1, f2, f3, f4⟩ := ObBox.cells hby
  obtain ⟨r0, r1, r2, r3, r4⟩ := ObBox.cells hbx2
  have z0 := hbx2.frozen 0
  have z1 := hbx2.frozen 1
  have z2 := hbx2.frozen 2
  have z3 := hbx2.frozen 3
  have z4 := hbx2.frozen 4
  have HY := Lib.hid hy
  have HL := Lib.hid hlen
  have HX2 := Lib.hid hbx2
  clear hb2 hpn hal hy hlen hbx2 hby
  go_wp2_with fail
  obtain ⟨wr, hwr⟩ : ∃ wr, wr = ((((w3.setCell ⟨w.heap.size, 0, none⟩ (.int .i64 y1)).setCell ⟨w.heap.size, 1, none⟩ (.int .i64 y2)).setCell ⟨w.heap.size, 2, none⟩ (.int .i64 y3)).setCell ⟨w.heap.size, 3, none⟩ (.string ⟨y4.toArray⟩)).setCell ⟨w.heap.size, 4, none⟩ (.slice B m d) := ⟨_, rfl⟩
  rw [← hwr]
  obtain ⟨hxr, hor⟩ := ob_stored HX2.out y1 y2 y3 y4 B m d wr hwr
  obtain ⟨q0, q1, q2, q3, q4⟩ := ObBox.cells hxr
  refine bodyPost_ret (v := .tuple #[.agg #[.int .i64 y1, .int .i64 y2, .int .i64 y3, .string ⟨y4.toArray⟩, .slice B m d], .int .i64 er]) (by simp [results, Try.results100, q0, q1, q2, q3, q4, go_sem]) rfl ?_
  refine ⟨hor.to_below HB2.out HB2.out.size (fun i hi => Nat.le_of_eq hi.symm), ⟨⟨y1, y2, y3, y4, y5⟩, B, d⟩, er, by rw [← HL.out]; rfl, by rw [HY.out], by rw [HY.out], (HPN.out.only hor (fun i hi => by omega)).lower (by omega)⟩

/-- All objects of a heap, and what is wrong with it. -/
def allR (h : List Nat) : List Ob × Int := if 4000 < h.length then ([], 2) else match allF h 0 with
  | none => ([], 3)
  | some os => (os, 0)
def AllP (w : World) (h : List Nat) (e : Ending) (w' : World) : Prop := Below w.heap.size w w' ∧ ∃ (A : Option Addr) (n c : Nat) (ys : List OC) (er : Int), e = .returned (.tuple #[.slice A n c, .int .i64 er]) ∧ n = ys.length ∧ ObMk w' w.heap.size A c ys ∧ allR h = (ys.map (·.o), er)
theorem allP_large {w w' : World} {h : List Nat} (hb : Below w.heap.size w w') (h1 : 4000 < h.length) : AllP w h (.returned (.tuple #[.slice none 0 0, .int .i64 2])) w' :=
  ⟨hb, none, 0, 0, [], 2, rfl, rfl, ObMk.nil, by unfold allR; rw [if_pos h1]; rfl⟩
theorem allP_form {w w' : World} {h : List Nat} (hb : Below w.heap.size w w') (h1 : ¬ 4000 < h.length) (h2 : allF h 0 = none) : AllP w h (.returned (.tuple #[.slice none 0 0, .int .i64 3])) w' :=
  ⟨hb, none, 0, 0, [], 3, rfl, rfl, ObMk.nil, by unfold allR; rw [if_neg h1, h2]; rfl⟩
theorem allP_ok {w w' : World} {h : List Nat} (hb : Below w.heap.size w w') (h1 : ¬ 4000 < h.length) {A : Option Addr} {c : Nat} {ys : List OC} (hm : ObMk w' w.heap.size A c ys) (h2 : allF h 0 = some (ys.map (·.o))) : AllP w h (.returned (.tuple #[.slice A ys.length c, .int .i64 0])) w' :=
  ⟨hb, A, _, c, ys, 0, rfl, rfl, hm, by unfold allR; rw [if_neg h1, h2]⟩

/-- How far one has come. -/
def AllSt (h : List Nat) (q : Nat) (ys : List OC) : Prop := ys.length ≤ q ∧ q ≤ h.length ∧ allF h 0 = (allF h q).map (ys.map (·.o) ++ ·)
theorem AllSt.nil (h : List Nat) : AllSt h 0 [] := ⟨Nat.le_refl _, Nat.zero_le _, by cases allF h 0 <;> rfl⟩
theorem AllSt.fail {h : List Nat} {q : Nat} {ys : List OC} (s : AllSt h q ys) (hq : q < h.length) (e : progF h q = none) : allF h 0 = none := by
  rw [s.2.2, allF_none h hq e]
  rfl
theorem AllSt.done {h : List Nat} {ys : List OC} {q : Nat} (s : AllSt h q ys) (hq : h.length ≤ q) : allF h 0 = some (ys.map (·.o)) := by
  rw [s.2.2, allF_end h hq]
  simp
theorem AllSt.step {h : List Nat} {q : Nat} {ys : List OC} (s : AllSt h q ys) (hq : q < h.length) {y : OC} (e : progF h q = some y.o) : AllSt h (q + (wordsF y.o).length) (ys ++ [y]) := by
  have h1 := progF_ok e
  have h2 := wordsF_pos y.o
  refine ⟨by rw [List.length_append]; have := s.1; simp; omega, h1.2.1, ?_⟩
  rw [s.2.2, allF_some h hq e, Option.map_map]
  congr 1
  funext l
  simp

set_option maxRecDepth 100000 in
set_option maxHeartbeats 4000000 in
theorem objects_any (A : Option Addr) (c : Nat) (h : List Nat) (w : World) (hh : HpIn w A c h) : Calls Try.prog 91 #[.slice A h.length c] w (AllP w h) := by
  have hcap := hh.cap
  have hle := hh.le
  unfold maxLen at hcap
  by_cases hlarge : 4000 < h.length
  · have hi : 4000 < (h.length : Int) := by omega
    have d0 : decide (4000 < (h.length : Int)) = true := decide_eq_true hi
    have HL := Lib.hid hlarge
    clear hlarge
    go_enter Try.func91, Try.ntmps91
    go_wp2_with fail
    go_ret2
    exact allP_large (Below.refl _ _) HL.out
  · have hi : ¬ 4000 < (h.length : Int) := by omega
    have d0 : decide (4000 < (h.length : Int)) = false := decide_eq_false hi
    have HL := Lib.hid hlarge
    have HH := Lib.hid hh
    clear hlarge hh
    go_enter Try.func91, Try.ntmps91
    go_wp2_with fail
    go_loopg [4, 5] h.length (fun gk v i wr => ∃ (q : Nat) (A4 : Option Addr) (c4 n4 : Nat) (ys : List OC), gk = h.length - q ∧ v = .slice A4 n4 c4 ∧ n4 = ys.length ∧ i = .int .i64 q ∧ AllSt h q ys ∧ ObMk wr w.heap.size A4 c4 ys ∧ Below w.heap.size w wr)
    case atStart => exact ⟨0, none, 0, 0, [], by omega, rfl, rfl, rfl, AllSt.nil h, ObMk.nil, Below.refl _ _⟩
    case round =>
      obtain ⟨q, A4, c4, n4, ys, hgk, rfl, hn4, rfl, hst, hmk, hb⟩ := hrel
      have HGK := Lib.hid hgk
      have HST := Lib.hid hst
      have HMK := Lib.hid hmk
      have HB := Lib.hid hb
      have HN := Lib.hid hn4
      have hcap4 := hmk.own.cap_le
      rw [← hn4] at hcap4
      have hn4000 : n4 ≤ 4000 := by have := hst.1; have := hst.2.1; omega
      clear hgk hst hmk hn4
      unfold maxLen at hcap4
      by_cases hlt : q < h.length
      · have hlt' : (q : Int) < (h.length : Int) := by omega
        have hrd := read_in A c h q wr (HH.out.below HB.out) hlt
        unfold ReadPost at hrd
        cases hq : progF h q with
        | none =>
          rw [hq] at hrd
          dsimp only at hrd
          have HRD := Lib.hid hrd
          have HQ := Lib.hid hq
          clear hrd hq
          go_wp2_with (go_at_call 128; refine HRD.out.mono ?_; rintro e w2 ⟨hb2, rfl⟩; unfold ocV oc0; dsimp only)
          go_ret2
          exact allP_form ((HB.out.trans (hb2.mono HB.out.size)).alloc (Nat.le_trans HB.out.size hb2.size) _) HL.out (HST.out.fail hlt HQ.out)
        | some o =>
          rw [hq] at hrd
          dsimp only at hrd
          have HRD := Lib.hid hrd
          have HQ := Lib.hid hq
          have hok := progF_ok hq
          have hpos := wordsF_pos o
          have hlen1 := hok.2.1
          have HW := Lib.hid (show ∀ (n : Nat), n = (wordsF o).length → n = (wordsF o).length from fun _ h => h)
          clear hrd hq hok
          generalize hwl : (wordsF o).length = wl at *
          go_upto_region 9 with (go_at_call 128; refine HRD.out.mono ?_; rintro e w2 ⟨hb2, y, hyo, hpn, rfl⟩; unfold ocV; obtain ⟨⟨y1, y2, y3, y4, y5⟩, B, d⟩ := y; dsimp only at *)
          subst hyo
          have hb3 : Below wr.heap.size wr (w2.alloc (.cells #[.int .i64 y1, .int .i64 y2, .int .i64 y3, .string ⟨y4.toArray⟩, .slice B y5.length d] 113)) := hb2.alloc hb2.size _
          have hpn3 := hpn.below ((Below.refl w2.heap.size w2).alloc (Nat.le_refl _) (.cells #[.int .i64 y1, .int .i64 y2, .int .i64 y3, .string ⟨y4.toArray⟩, .slice B y5.length d] 113))
          have hby := Box.new w2 113 #[.int .i64 y1, .int .i64 y2, .int .i64 y3, .string ⟨y4.toArray⟩, .slice B y5.length d]
          clear hb2 hpn
          generalize w2.alloc (.cells #[.int .i64 y1, .int .i64 y2, .int .i64 y3, .string ⟨y4.toArray⟩, .slice B y5.length d] 113) = w3 at *
          generalize w2.heap.size = g2 at *
          obtain ⟨f0, f1, f2, f3, f4⟩ := ObBox.cells hby
          have hal := (Below.refl w3.heap.size w3).alloc (Nat.le_refl _) (.cells #[.int .i64 y1, .int .i64 y2, .int .i64 y3, .string ⟨y4.toArray⟩, .slice B y5.length d] 113)
          have HM3 := Lib.hid ((HMK.out.below hb3).below hal)
          have HI3 := Lib.hid ((hpn3.below hal).into (nb := A4.map (·.block)) (fun b hb => (HMK.out.blk b hb).2))
          have HB3 := Lib.hid (HB.out.trans ((hb3.trans (hal.mono hb3.size)).mono HB.out.size))
          have hsz3 := HB3.out.size
          have HY := Lib.hid (oc_new w3 ⟨⟨y1, y2, y3, y4, y5⟩, B, d⟩)
          clear hb3 hpn3 hby hal HRD hb
          go_wp2_with (at_builtin; go_loud (refine wpList_mk_oc rfl (.tmp 25) (.tmp 27) rfl w.heap.size A4 c4 n4 ys HN.out.symm rfl HM3.out w3.heap.size ⟨⟨y1, y2, y3, y4, y5⟩, B, d⟩ rfl HY.out HI3.out (by omega) hsz3 ?_; intro A5 c5 w4 hmk5 hb5 _))
          go_roundg (h.length - (q + wl))
          case measure => have := HGK.out; omega
          case rel =>
            have hs := HST.out.step hlt (y := ⟨⟨y1, y2, y3, y4, y5⟩, B, d⟩) HQ.out
            rw [show (wordsF (OC.o ⟨⟨y1, y2, y3, y4, y5⟩, B, d⟩)).length = wl from hwl] at hs
            exact ⟨q + wl, A5, c5, n4 + 1, _, rfl, rfl, by rw [List.length_append, ← HN.out]; rfl, by go_num, hs, hmk5, HB3.out.trans hb5⟩
      · obtain rfl : q = h.length := by have := HST.out.2.1; omega
        go_wp2_with fail
        go_ret2
        have hn := HN.out
        subst hn
        exact allP_ok HB.out HL.out HMK.out (HST.out.done (Nat.le_refl _))
end Go.Proofs.Ytdjahlkjfpbifaa
