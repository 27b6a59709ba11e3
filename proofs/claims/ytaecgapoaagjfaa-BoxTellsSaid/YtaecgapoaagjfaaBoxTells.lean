/-
  The law BoxTells: its walk.
-/
import Derived.Test.YtaecgapoaagjfaaBox6
namespace Go.Proofs.Ytaecgapoaagjfaa
open Go.RowKit

theorem letterRow.below' {w w' : World} {n : Nat} {A : Option Addr} {c : Nat} {l : List LC} {ts : List Let} (h : letterRow w (· < w.heap.size) n A c l ts) (hb : Below w.heap.size w w') : letterRow w' (· < w'.heap.size) n A c l ts :=
  (h.below hb fun _ h => h).all

/-- What stands behind the calls, whatever is called next. -/
structure LawSt (W : World) (A : Option Addr) (c : Nat) (l : List LC) (p : Int) (x : LC) (n : Nat) (ga gc : Nat) (A1 : Option Addr) (c1 : Nat) (l1 : List LC) (ts1 : List Let) (p1 : Int) (A2 : Option Addr) (c2 : Nat) (l2 : List LC) (ts2 : List Let) (A3 : Option Addr) (c3 : Nat) (l3 : List LC) (ts3 : List Let) (w : World) : Prop where
  bel : Below W.heap.size W w
  b0 : Box w W.heap.size 24 #[.slice A l.length c, .int .i64 p]
  b1 : Box w (W.heap.size + 1) 29 (letterC x).toArray
  ba : Box w ga 24 #[.slice A1 l1.length c1, .int .i64 p1]
  bc : Box w gc 24 #[.slice A2 l2.length c2, .int .i64 0]
  r1 : letterRow w (· < w.heap.size) n A1 c1 l1 ts1
  r2 : letterRow w (· < w.heap.size) n A2 c2 l2 ts2
  r3 : letterRow w (· < w.heap.size) n A3 c3 l3 ts3
section
variable {W : World} {A : Option Addr} {c : Nat} {l : List LC} {p : Int} {x : LC} {n : Nat} {ga gc : Nat} {A1 : Option Addr} {c1 : Nat} {l1 : List LC} {ts1 : List Let} {p1 : Int} {A2 : Option Addr} {c2 : Nat} {l2 : List LC} {ts2 : List Let} {A3 : Option Addr} {c3 : Nat} {l3 : List LC} {ts3 : List Let} {w w' : World}
theorem LawSt.below (h : LawSt W A c l p x n ga gc A1 c1 l1 ts1 p1 A2 c2 l2 ts2 A3 c3 l3 ts3 w) (hb : Below w.heap.size w w') : LawSt W A c l p x n ga gc A1 c1 l1 ts1 p1 A2 c2 l2 ts2 A3 c3 l3 ts3 w' :=
  ⟨h.bel.trans (hb.mono h.bel.size), h.b0.below hb h.b0.lt, h.b1.below hb h.b1.lt, h.ba.below hb h.ba.lt, h.bc.below hb h.bc.lt, h.r1.below' hb, h.r2.below' hb, h.r3.below' hb⟩
theorem LawSt.cells (h : LawSt W A c l p x n ga gc A1 c1 l1 ts1 p1 A2 c2 l2 ts2 A3 c3 l3 ts3 w) :
    w.cell? ⟨W.heap.size, 0, none⟩ = some (.slice A l.length c) ∧ w.cell? ⟨W.heap.size, 1, none⟩ = some (.int .i64 p) ∧ w.cell? ⟨W.heap.size + 1, 0, none⟩ = some (.int .i64 x.kind) ∧ w.cell? ⟨W.heap.size + 1, 1, none⟩ = some (.int .i64 x.frm) ∧ w.cell? ⟨W.heap.size + 1, 2, none⟩ = some (.int .i64 x.to) ∧ w.cell? ⟨W.heap.size + 1, 3, none⟩ = some (.int .i64 x.num) ∧ w.cell? ⟨W.heap.size + 1, 4, none⟩ = some (.string x.text) ∧ w.cell? ⟨W.heap.size + 1, 5, none⟩ = some (.int .i64 x.v.kind) ∧ w.cell? ⟨W.heap.size + 1, 6, none⟩ = some (.int .i64 x.v.num) ∧ w.cell? ⟨W.heap.size + 1, 7, none⟩ = some (.string x.v.text) ∧ w.cell? ⟨W.heap.size + 1, 8, none⟩ = some (.slice x.v.A x.v.len x.v.cap) ∧
      w.cell? ⟨ga, 0, none⟩ = some (.slice A1 l1.length c1) ∧ w.cell? ⟨ga, 1, none⟩ = some (.int .i64 p1) ∧ w.cell? ⟨gc, 0, none⟩ = some (.slice A2 l2.length c2) ∧ w.cell? ⟨gc, 1, none⟩ = some (.int .i64 0) :=
  ⟨h.b0.cell 0, h.b0.cell 1, h.b1.cell 0, h.b1.cell 1, h.b1.cell 2, h.b1.cell 3, h.b1.cell 4, h.b1.cell 5, h.b1.cell 6, h.b1.cell 7, h.b1.cell 8, h.ba.cell 0, h.ba.cell 1, h.bc.cell 0, h.bc.cell 1⟩
end
theorem ck {w w' : World} {a : Addr} {v : Value} (hb : Below w.heap.size w w') (h : w.cell? a = some v) : w'.cell? a = some v := (hb.cell (lt_of_cell h)).trans h

theorem law_keep {w7 w1 w2 : World} {e0 e1 e2 e3 e4 e5 e6 e7 e8 e9 e10 : Addr} {v0 v1 v2 v3 v4 v5 v6 v7 v8 v9 v10 : Value} (hb : Below w1.heap.size w1 w2) (h : Below w7.heap.size w7 w1 ∧ w1.cell? e0 = some v0 ∧ w1.cell? e1 = some v1 ∧ w1.cell? e2 = some v2 ∧ w1.cell? e3 = some v3 ∧ w1.cell? e4 = some v4 ∧ w1.cell? e5 = some v5 ∧ w1.cell? e6 = some v6 ∧ w1.cell? e7 = some v7 ∧ w1.cell? e8 = some v8 ∧ w1.cell? e9 = some v9 ∧ w1.cell? e10 = some v10) : Below w7.heap.size w7 w2 ∧ w2.cell? e0 = some v0 ∧ w2.cell? e1 = some v1 ∧ w2.cell? e2 = some v2 ∧ w2.cell? e3 = some v3 ∧ w2.cell? e4 = some v4 ∧ w2.cell? e5 = some v5 ∧ w2.cell? e6 = some v6 ∧ w2.cell? e7 = some v7 ∧ w2.cell? e8 = some v8 ∧ w2.cell? e9 = some v9 ∧ w2.cell? e10 = some v10 :=
  ⟨h.1.trans (hb.mono h.1.size), ck hb h.2.1, ck hb h.2.2.1, ck hb h.2.2.2.1, ck hb h.2.2.2.2.1, ck hb h.2.2.2.2.2.1, ck hb h.2.2.2.2.2.2.1, ck hb h.2.2.2.2.2.2.2.1, ck hb h.2.2.2.2.2.2.2.2.1, ck hb h.2.2.2.2.2.2.2.2.2.1, ck hb h.2.2.2.2.2.2.2.2.2.2.1, ck hb h.2.2.2.2.2.2.2.2.2.2.2⟩

theorem mk_of_clone {W w9 : World} {n : Nat} {A A9 : Option Addr} {c c9 base base' : Nat} {l : List LC} {ts : List Let} (hr : letterRow w9 (· < W.heap.size) n A c l ts) (hown : OwnAt w9 base' 29 9 A9 l.length c9 (flat letterC l)) (h1 : W.heap.size ≤ base) (h2 : base ≤ base') : letterMk w9 base (· < W.heap.size) n A9 c9 l ts :=
  ⟨hr.1, hown.lower h2, fun i hi => (hr.2.2.1 i hi).keep (fun _ _ => rfl) fun b hb => ⟨hb, fun e => by
    rcases hown.form with ⟨rfl, _⟩ | ⟨g1, o1, rfl⟩
    · cases e
    · simp at e
      have := hown.lt.1
      omega⟩⟩
theorem off_of_mk {W w9 : World} {n : Nat} {A9 : Option Addr} {c9 base : Nat} {l : List LC} {ts : List Let} (hmk : letterMk w9 base (· < W.heap.size) n A9 c9 l ts) (h1 : W.heap.size ≤ base) {x : LC} {t : Let} {w : World} (hx : LIn w (· < W.heap.size) n x t) : LIn w (Off (· < W.heap.size) A9) n x t :=
  hx.keep (fun _ _ => rfl) fun b hb => ⟨hb, fun e => by
    rcases hmk.2.1.form with ⟨rfl, _⟩ | ⟨g1, o1, rfl⟩
    · cases e
    · simp at e
      have := hmk.2.1.lt.1
      omega⟩

set_option maxRecDepth 100000 in
set_option maxHeartbeats 4000000 in
theorem boxTells_walk (n : Nat) (A : Option Addr) (c : Nat) (l : List LC) (ts : List Let) (p who : Int) (x : LC) (t : Let) (W : World) (h : letterRow W (· < W.heap.size) n A c l ts) (hx : LIn W (· < W.heap.size) n x t) :
    Calls Try.prog 3 #[boxV A l.length c p, letterV x, .int .i64 who] W fun e w' => e = .returned (.bool true) ∧ Below W.heap.size W w' := by
  have HR := Lib.hid h
  have HX := Lib.hid hx
  have hlc := h.2.2.2.1
  have hm := h.2.2.2.2.1
  have HL := Lib.hid h.1
  have HB := Lib.hid (show ∀ o1 o2, Below W.heap.size W ((W.alloc o1).alloc o2) from fun _ _ => ((Below.refl _ _).alloc (Nat.le_refl _) _).alloc (by simp) _)
  have HPUT := Lib.hid (put_any n A c l ts p x t)
  have HAGN := Lib.hid (again_any n A c l ts p)
  have HFRM := Lib.hid (from_any n A c l ts p who)
  have HBF := Lib.hid (boxFault_any A c l p)
  clear h hx
  unfold boxV letterV at *
  go_enter Try.func3, Try.ntmps3
  go_wp2_with fail
  refine (flat_any n x.v t.v _ _ (HX.out.2.below (HB.out _ _) fun _ h => h)).mono ?_
  rintro e w1 ⟨⟨q, rfl⟩, hb1⟩
  have h01 := below2 hb1
  have B0 : Box w1 W.heap.size 24 #[.slice A l.length c, .int .i64 p] := ((Box.new W _ _).alloc _).below hb1 (by simp; omega)
  have B1 : Box w1 (W.heap.size + 1) 29 (letterC x).toArray := box4 hb1
  obtain ⟨a0, a1, _, _⟩ := own_cells2 B0
  obtain ⟨⟨q0, q1, q2, q3, q4, q5, q6, q7, q8⟩, _⟩ := own_cells9 B1
  clear hb1
  cases q
  · clear HPUT HAGN HFRM HBF
    go_wp2_with fail
    go_ret
    exact ⟨rfl, h01⟩
  go_wp2_with fail
  refine (HPUT.out w1 _ (HR.out.below h01 fun _ h => h) (HX.out.below h01 fun _ h => h)).mono ?_
  rintro e w2 ⟨A1, c1, l1, rfl, hr1, hb2⟩
  have hr1 := hr1.all
  have h02 := h01.trans (hb2.mono h01.size)
  have B0 := B0.below hb2 B0.lt
  have B1 := B1.below hb2 B1.lt
  obtain ⟨a0, a1, _, _⟩ := own_cells2 B0
  obtain ⟨⟨q0, q1, q2, q3, q4, q5, q6, q7, q8⟩, _⟩ := own_cells9 B1
  generalize hf1 : putF l p x = f1 at *
  generalize hp1 : (if f1 = 0 then p else 0) = p1 at *
  generalize ht1 : (if f1 = 0 then ts ++ [t] else []) = ts1 at *
  have HF1 := Lib.hid hf1
  have HP1 := Lib.hid hp1
  have HT1 := Lib.hid ht1
  clear HPUT hf1 hp1 ht1 hb2 h01
  unfold boxV
  go_upto_region 4 with fail
  have hbA : Below w2.heap.size w2 (w2.alloc (.cells #[.slice A1 l1.length c1, .int .i64 p1] 24)) := (Below.refl _ _).alloc (Nat.le_refl _) _
  have BA := Box.new w2 24 #[.slice A1 l1.length c1, .int .i64 p1]
  have B0 := B0.below hbA B0.lt
  have B1 := B1.below hbA B1.lt
  have hr1 := hr1.below' hbA
  have h02 := h02.trans (hbA.mono h02.size)
  clear a0 a1 q0 q1 q2 q3 q4 q5 q6 q7 q8 hbA
  generalize w2.heap.size = ga at *
  generalize w2.alloc (.cells #[.slice A1 l1.length c1, .int .i64 p1] 24) = w3 at *
  obtain ⟨a0, a1, _, _⟩ := own_cells2 B0
  go_wp2_with fail
  refine (HAGN.out _ _ (HR.out.below h02 fun _ h => h)).mono ?_
  rintro e w4 ⟨A2, c2, l2, rfl, hr2, hb4⟩
  have hr2 := hr2.all
  have h04 := h02.trans (hb4.mono h02.size)
  have B0 := B0.below hb4 B0.lt
  have B1 := B1.below hb4 B1.lt
  have BA := BA.below hb4 BA.lt
  have hr1 := hr1.below' hb4
  generalize hf0 : boxF l p = f0 at *
  generalize ht2 : (if f0 = 0 then ts else []) = ts2 at *
  generalize ht3 : (if f0 = 0 then fromOf who ts else []) = ts3 at *
  have HF0 := Lib.hid hf0
  have HT2 := Lib.hid ht2
  have HT3 := Lib.hid ht3
  clear HAGN hb4 h02 hf0 ht2 ht3
  unfold boxV
  go_upto_region 5 with fail
  have hbA : Below w4.heap.size w4 (w4.alloc (.cells #[.slice A2 l2.length c2, .int .i64 0] 24)) := (Below.refl _ _).alloc (Nat.le_refl _) _
  have BC := Box.new w4 24 #[.slice A2 l2.length c2, .int .i64 0]
  have B0 := B0.below hbA B0.lt
  have B1 := B1.below hbA B1.lt
  have BA := BA.below hbA BA.lt
  have hr1 := hr1.below' hbA
  have hr2 := hr2.below' hbA
  have h05 := h04.trans (hbA.mono h04.size)
  clear a0 a1 hbA
  generalize w4.heap.size = gc at *
  generalize w4.alloc (.cells #[.slice A2 l2.length c2, .int .i64 0] 24) = w5 at *
  obtain ⟨a0, a1, _, _⟩ := own_cells2 B0
  go_wp2_with fail
  refine (HFRM.out _ _ (HR.out.below h05 fun _ h => h)).mono ?_
  rintro e w6 ⟨A3, c3, l3, rfl, hr3, hb6⟩
  have HST : LawSt W A c l p x n ga gc A1 c1 l1 ts1 p1 A2 c2 l2 ts2 A3 c3 l3 ts3 w6 := ⟨h05.trans (hb6.mono h05.size), B0.below hb6 B0.lt, B1.below hb6 B1.lt, BA.below hb6 BA.lt, BC.below hb6 BC.lt, hr1.below' hb6, hr2.below' hb6, hr3.all⟩
  clear HFRM hr1 hr2 hr3 hb6 B0 B1 BA BC a0 a1 h04 h05
  obtain ⟨a0, a1, q0, q1, q2, q3, q4, q5, q6, q7, q8, s0, s1, u0, u1⟩ := HST.cells
  go_wp2_with fail
  refine (HBF.out _ ((HR.out.below HST.bel fun _ h => h).2.1.all) hlc hm).mono ?_
  rintro e w7 ⟨rfl, hb7⟩
  have HST := HST.below hb7
  clear HBF hb7 a0 a1 q0 q1 q2 q3 q4 q5 q6 q7 q8 s0 s1 u0 u1
  obtain ⟨a0, a1, q0, q1, q2, q3, q4, q5, q6, q7, q8, s0, s1, u0, u1⟩ := HST.cells
  go_upto_region 7 with fail
  have HS7 := Lib.hid HST
  clear HST s0 s1 u0 u1
  have HCH := Lib.hid (check_any A c l p)
  rw [HF0.out] at HCH
  unfold boxV at HCH
  go_region_held3 (fun w' => Below w7.heap.size w7 w' ∧ w'.cell? ⟨W.heap.size, 0, none⟩ = some (.slice A l.length c) ∧ w'.cell? ⟨W.heap.size, 1, none⟩ = some (.int .i64 p) ∧ w'.cell? ⟨W.heap.size + 1, 0, none⟩ = some (.int .i64 x.kind) ∧ w'.cell? ⟨W.heap.size + 1, 1, none⟩ = some (.int .i64 x.frm) ∧ w'.cell? ⟨W.heap.size + 1, 2, none⟩ = some (.int .i64 x.to) ∧ w'.cell? ⟨W.heap.size + 1, 3, none⟩ = some (.int .i64 x.num) ∧ w'.cell? ⟨W.heap.size + 1, 4, none⟩ = some (.string x.text) ∧ w'.cell? ⟨W.heap.size + 1, 5, none⟩ = some (.int .i64 x.v.kind) ∧ w'.cell? ⟨W.heap.size + 1, 6, none⟩ = some (.int .i64 x.v.num) ∧ w'.cell? ⟨W.heap.size + 1, 7, none⟩ = some (.string x.v.text) ∧ w'.cell? ⟨W.heap.size + 1, 8, none⟩ = some (.slice x.v.A x.v.len x.v.cap))
    ((first
      | (refine law_keep (w1 := w7) (below_drewN (Below.refl _ _) 1) ⟨Below.refl _ _, ?_⟩; (repeat' apply And.intro) <;> assumption)
      | (refine law_keep hbk ?_; assumption)
      | go_keep))
    ((first
      | (go_at_call 20; refine (HCH.out _ ((HR.out.below (HS7.out.bel.trans ((show Below w7.heap.size w7 _ ∧ _ by assumption).1.mono HS7.out.bel.size)) fun _ h => h).2.1.all) hlc hm).mono ?_; rintro e wk ⟨rfl, hbk⟩)
      | (go_at_call 22; refine (says_any n x t _ _ (HX.out.below (HS7.out.bel.trans ((show Below w7.heap.size w7 _ ∧ _ by assumption).1.mono HS7.out.bel.size)) fun _ h => h)).mono ?_; rintro e wk ⟨y1, rfl, hy1, hbk⟩; unfold valV)
      | (go_at_call 23; refine (message_any n x t _ _ (HX.out.below (HS7.out.bel.trans ((show Below w7.heap.size w7 _ ∧ _ by assumption).1.mono HS7.out.bel.size)) fun _ h => h)).mono ?_; rintro e wk ⟨y2, rfl, hy2, hbk⟩; have hy1 := hy1.all.below hbk (fun _ h => h); unfold valV)
      | (go_at_call 21; refine (same_val n y3 x.v t.v t.v _ _ _ hy3 (HX.out.2.below (HS7.out.bel.trans ((show Below w7.heap.size w7 _ ∧ _ by assumption).1.mono HS7.out.bel.size)) fun _ h => h)).mono ?_; rintro e wk ⟨q, rfl, hq, hbk⟩; obtain rfl : q = true := hq.2 rfl)
      | (go_at_call 24; refine (own_val n x.v t.v _ _ (HX.out.2.below (HS7.out.bel.trans ((show Below w7.heap.size w7 _ ∧ _ by assumption).1.mono HS7.out.bel.size)) fun _ h => h)).mono ?_; rintro e wk ⟨y3, rfl, hy3, hbk⟩; unfold valV)
      | (go_at_call 21; refine (same_val (n + 2) y1 y2 (msgOf t) (msgOf t) _ _ _ hy1 hy2).mono ?_; rintro e wk ⟨q, rfl, hq, hbk⟩; obtain rfl : q = true := hq.2 rfl)))
  have HST := HS7.out.below (show Below w7.heap.size w7 wk ∧ _ by assumption).1
  clear a0 a1 q0 q1 q2 q3 q4 q5 q6 q7 q8 HCH HS7
  obtain ⟨a0, a1, q0, q1, q2, q3, q4, q5, q6, q7, q8, s0, s1, u0, u1⟩ := HST.cells
  by_cases h0 : f0 = 0
  case neg =>
    have bf : (f0 != 0) = true := by simp [h0]
    have HE1 := Lib.hid (show f1 = f0 by rw [← HF1.out, ← HF0.out]; unfold putF; rw [if_pos (by rw [HF0.out]; exact h0)])
    have HN1 := Lib.hid (show ts1 = [] ∧ p1 = 0 by rw [← HT1.out, ← HP1.out, HE1.out, if_neg h0, if_neg h0]; exact ⟨rfl, rfl⟩)
    have HN2 := Lib.hid (show ts2 = [] by rw [← HT2.out, if_neg h0])
    have HN3 := Lib.hid (show ts3 = [] by rw [← HT3.out, if_neg h0])
    have hl3 : l3.length = 0 := by rw [HST.r3.1, HN3.out]; rfl
    have be : (f1 == f0) = true := by simp [HE1.out]
    clear h0
    have be3 : ((l3.length : Int) == 0) = true := by rw [hl3]; rfl
    go_wp2_with fail
    refine (same_box n A1 none c1 0 l1.length 0 p1 0 l1 [] ts1 [] _ _ (· < 0) rfl rfl HST.r1 letterRow.none).mono ?_
    rintro e w8 ⟨q, rfl, hq, hb8⟩
    obtain rfl : q = true := hq.2 (by rw [HN1.out.1, HN1.out.2])
    have HST := HST.below hb8
    clear hb8 hq a0 a1 q0 q1 q2 q3 q4 q5 q6 q7 q8 s0 s1 u0 u1
    obtain ⟨a0, a1, q0, q1, q2, q3, q4, q5, q6, q7, q8, s0, s1, u0, u1⟩ := HST.cells
    go_wp2_with fail
    refine (same_box n A2 none c2 0 l2.length 0 0 0 l2 [] ts2 [] _ _ (· < 0) rfl rfl HST.r2 letterRow.none).mono ?_
    rintro e w9 ⟨q, rfl, hq, hb9⟩
    obtain rfl : q = true := hq.2 (by rw [HN2.out])
    have HW := Lib.hid (HST.below hb9).bel
    clear hb9 hq a0 a1 q0 q1 q2 q3 q4 q5 q6 q7 q8 s0 s1 u0 u1 HST
    go_wp2_with fail
    go_ret
    exact ⟨rfl, HW.out⟩
  case pos =>
    subst h0
    have HN2 := Lib.hid (show ts2 = ts by rw [← HT2.out, if_pos rfl])
    have HN3 := Lib.hid (show ts3 = fromOf who ts by rw [← HT3.out, if_pos rfl])
    have hl6 : l.length ≤ 60 := by
      have h := HF0.out
      unfold boxF at h
      split at h
      · cases h
      · omega
    have HS := Lib.hid HST
    have hWs := HST.bel.size
    clear HST
    go_wp2_with fail
    go_loopg [14, 94] l.length (fun gk ov i wr => ∃ (k : Nat) (out : List LC) (Ao : Option Addr) (co : Nat), gk = l.length - k ∧ k ≤ l.length ∧ i = .int .i64 k ∧ ov = .slice Ao out.length co ∧ out.length ≤ k ∧ letterMk wr wk.heap.size (· < W.heap.size) n Ao co out (fromOf who (ts.take k)) ∧ Below wk.heap.size wk wr)
    case atStart => exact ⟨0, [], none, 0, by omega, by omega, rfl, rfl, by simp, letterMk.nil, Below.refl _ _⟩
    case round =>
      obtain ⟨k, out, Ao, co, hgk, hk, rfl, rfl, hout, hmk, hb⟩ := hrel
      have HG := Lib.hid hgk
      have HMK := Lib.hid hmk
      clear hgk hmk a0 a1 q0 q1 q2 q3 q4 q5 q6 q7 q8 s0 s1 u0 u1
      by_cases hlt : k < l.length
      · have hrw := HR.out.below (HS.out.below hb).bel (fun b h => h)
        have HV := Lib.hid (hrw.2.2.1 k hlt)
        obtain ⟨b, o, rfl, _, hc0, hc1, hc2, hc3, hc4, hc5, hc6, hc7, hc8⟩ := hrw.2.1.all.letter hlt lc0
        have HTK := Lib.hid (fromOf_take who ts k (by rw [← HL.out]; exact hlt))
        have hfrm : (l.getD k lc0).frm = (ts.getD k let0).frm := (hrw.2.2.1 k hlt).1.2.1
        rw [← hfrm] at HTK
        clear hrw hfrm
        generalize l.getD k lc0 = y at *
        generalize ts.getD k let0 = v at *
        have hbk : (out.length + 1) * 104 ≤ 140737488355328 := by omega
        have hbw := hb.size
        by_cases hwho : y.frm = who
        · have bw : (y.frm == who) = true := by simp [hwho]
          rw [bw] at HTK
          clear hwho
          have HMK2 := Lib.hid ((HMK.out.below ((Below.refl wr.heap.size wr).alloc (Nat.le_refl _) (.cells (letterC y).toArray 29))).below ((Below.refl _ (wr.alloc (.cells (letterC y).toArray 29))).alloc (Nat.le_refl _) (.cells (letterC y).toArray 29)))
          have HBN := Lib.hid (show Below wk.heap.size wk ((wr.alloc (.cells (letterC y).toArray 29)).alloc (.cells (letterC y).toArray 29)) from (hb.alloc (by omega) _).alloc (by simp; omega) _)
          have HY := Lib.hid (off_of_mk HMK.out hWs (HV.out.below ((((Below.refl wr.heap.size wr).alloc (Nat.le_refl _) (.cells (letterC y).toArray 29)).alloc (by simp) (.cells (letterC y).toArray 29)).mono (show W.heap.size ≤ wr.heap.size by omega)) fun _ h => h))
          have HNW := Lib.hid (letter_new (wr.alloc (.cells (letterC y).toArray 29)) y)
          rw [show (wr.alloc (.cells (letterC y).toArray 29)).heap.size = wr.heap.size + 1 by simp] at HNW
          clear HMK
          go_wp2_with (at_builtin; refine wpList_mk_letter rfl (.tmp 102) (.tmp 104) rfl wk.heap.size (· < W.heap.size) n Ao co out.length out (fromOf who (ts.take k)) rfl rfl HMK2.out (wr.heap.size + 1) y v rfl HNW.out HY.out hbk (by simp; omega) ?_; intro A' c' w5 hmk5 hb5)
          have HM5 := Lib.hid hmk5
          clear hmk5
          go_roundg (l.length - (k + 1))
          case measure => have := HG.out; omega
          case rel =>
            refine ⟨k + 1, out ++ [y], A', c', rfl, by omega, by go_num, by simp, by simp; omega, ?_, HBN.out.trans hb5⟩
            rw [HTK.out]
            exact HM5.out
        · have bw : (y.frm == who) = false := by simp [hwho]
          rw [bw] at HTK
          clear hwho
          go_wp2_with fail
          go_roundg (l.length - (k + 1))
          case measure => have := HG.out; omega
          case rel =>
            refine ⟨k + 1, out, Ao, co, rfl, by omega, by go_num, rfl, by omega, ?_, hb.alloc hbw _⟩
            rw [HTK.out]
            simpa using HMK.out.below ((Below.refl wr.heap.size wr).alloc (Nat.le_refl _) _)
      · obtain rfl : k = l.length := by omega
        have HST := HS.out.below hb
        have hmk := HMK.out
        rw [HL.out, List.take_length] at hmk
        have hrf := (hmk.row (by unfold reachBytes; omega)).all
        clear HMK hmk HG
        obtain ⟨a0, a1, q0, q1, q2, q3, q4, q5, q6, q7, q8, s0, s1, u0, u1⟩ := HST.cells
        go_wp2_with fail
        refine (same_box n A2 A c2 c l2.length l.length 0 0 l2 l ts2 ts _ _ _ rfl rfl HST.r2 (HR.out.below HST.bel fun _ h => h)).mono ?_
        rintro e w9 ⟨q, rfl, hq, hb9⟩
        obtain rfl : q = true := hq.2 (by rw [HN2.out])
        have HST := HST.below hb9
        have hrf := hrf.below' hb9
        clear hb9 hq a0 a1 q0 q1 q2 q3 q4 q5 q6 q7 q8 s0 s1 u0 u1
        obtain ⟨a0, a1, q0, q1, q2, q3, q4, q5, q6, q7, q8, s0, s1, u0, u1⟩ := HST.cells
        go_wp2_with fail
        refine (same_letters n A3 Ao c3 co l3.length out.length l3 out ts3 (fromOf who ts) _ _ _ rfl rfl HST.r3 hrf).mono ?_
        rintro e w10 ⟨q, rfl, hq, hb10⟩
        obtain rfl : q = true := hq.2 HN3.out
        have HST := HST.below hb10
        clear hb10 hq hrf a0 a1 q0 q1 q2 q3 q4 q5 q6 q7 q8 s0 s1 u0 u1 hb
        obtain ⟨a0, a1, q0, q1, q2, q3, q4, q5, q6, q7, q8, s0, s1, u0, u1⟩ := HST.cells
        have HIN := Lib.hid (fun w => in_any x.kind 1 2 w)
        rw [okKind_in] at HIN
        have HPF := Lib.hid (show f1 = if okKind x.kind = false then 3 else if l.length = 60 then 6 else 0 by rw [← HF1.out]; unfold putF; rw [HF0.out]; simp)
        generalize okKind x.kind = kq at *
        go_wp2_with fail
        refine (HIN.out _).mono ?_
        rintro e w' ⟨rfl, rfl⟩
        clear HIN
        cases kq
        · have HE1 := Lib.hid (show f1 = 3 from HPF.out)
          clear HPF
          have HN1 := Lib.hid (show ts1 = [] ∧ p1 = 0 by rw [← HT1.out, ← HP1.out, HE1.out]; exact ⟨rfl, rfl⟩)
          rw [HE1.out]
          go_wp2_with fail
          refine (same_box n A1 none c1 0 l1.length 0 p1 0 l1 [] ts1 [] _ _ (· < 0) rfl rfl HST.r1 letterRow.none).mono ?_
          rintro e w11 ⟨q, rfl, hq, hb11⟩
          obtain rfl : q = true := hq.2 (by rw [HN1.out.1, HN1.out.2])
          have HW := Lib.hid (HST.below hb11).bel
          clear hb11 hq a0 a1 q0 q1 q2 q3 q4 q5 q6 q7 q8 s0 s1 u0 u1 HST
          go_wp2_with fail
          go_ret
          exact ⟨rfl, HW.out⟩
        · by_cases h60 : l.length = 60
          · have HE1 := Lib.hid (show f1 = 6 by rw [HPF.out, if_pos h60]; simp)
            have be6 : ((l.length : Int) == 60) = true := by simp [h60]
            have be7 : (l.length == 60) = true := by simp [h60]
            clear HPF h60
            have HN1 := Lib.hid (show ts1 = [] ∧ p1 = 0 by rw [← HT1.out, ← HP1.out, HE1.out]; exact ⟨rfl, rfl⟩)
            rw [HE1.out]
            go_wp2_with fail
            refine (same_box n A1 none c1 0 l1.length 0 p1 0 l1 [] ts1 [] _ _ (· < 0) rfl rfl HST.r1 letterRow.none).mono ?_
            rintro e w11 ⟨q, rfl, hq, hb11⟩
            obtain rfl : q = true := hq.2 (by rw [HN1.out.1, HN1.out.2])
            have HW := Lib.hid (HST.below hb11).bel
            clear hb11 hq a0 a1 q0 q1 q2 q3 q4 q5 q6 q7 q8 s0 s1 u0 u1 HST
            go_wp2_with fail
            go_ret
            exact ⟨rfl, HW.out⟩
          · have HE1 := Lib.hid (show f1 = 0 by rw [HPF.out, if_neg h60]; simp)
            have be6 : ((l.length : Int) == 60) = false := by simp; omega
            have be7 : (l.length == 60) = false := by simp [h60]
            have hp1 : p1 = p := by rw [← HP1.out, HE1.out]; rfl
            have HN1 := Lib.hid (show ts1 = ts ++ [t] by rw [← HT1.out, HE1.out]; rfl)
            subst hp1
            rw [HE1.out]
            clear HPF h60
            have HS10 := Lib.hid HST
            have HSK := Lib.hid (show ∀ w', Below w10.heap.size w10 w' → Below w10.heap.size w10 w' ∧ w'.cell? ⟨W.heap.size, 0, none⟩ = some (.slice A l.length c) ∧ w'.cell? ⟨W.heap.size, 1, none⟩ = some (.int .i64 p1) ∧ w'.cell? ⟨W.heap.size + 1, 0, none⟩ = some (.int .i64 x.kind) ∧ w'.cell? ⟨W.heap.size + 1, 1, none⟩ = some (.int .i64 x.frm) ∧ w'.cell? ⟨W.heap.size + 1, 2, none⟩ = some (.int .i64 x.to) ∧ w'.cell? ⟨W.heap.size + 1, 3, none⟩ = some (.int .i64 x.num) ∧ w'.cell? ⟨W.heap.size + 1, 4, none⟩ = some (.string x.text) ∧ w'.cell? ⟨W.heap.size + 1, 5, none⟩ = some (.int .i64 x.v.kind) ∧ w'.cell? ⟨W.heap.size + 1, 6, none⟩ = some (.int .i64 x.v.num) ∧ w'.cell? ⟨W.heap.size + 1, 7, none⟩ = some (.string x.v.text) ∧ w'.cell? ⟨W.heap.size + 1, 8, none⟩ = some (.slice x.v.A x.v.len x.v.cap) ∧ w'.cell? ⟨ga, 0, none⟩ = some (.slice A1 l1.length c1) ∧ w'.cell? ⟨ga, 1, none⟩ = some (.int .i64 p1) from fun w' hb => ⟨hb, ck hb a0, ck hb a1, ck hb q0, ck hb q1, ck hb q2, ck hb q3, ck hb q4, ck hb q5, ck hb q6, ck hb q7, ck hb q8, ck hb s0, ck hb s1⟩)
            have HSZ := Lib.hid HST.bel.size
            have HBY := Lib.hid (show (l.length + 1) * 104 ≤ 140737488355328 by omega)
            have HBY2 := Lib.hid (show (l ++ [x]).length * 104 ≤ reachBytes by unfold reachBytes; simp; omega)
            have HCA := Lib.hid (HR.out.2.2.2.2.2.1)
            have HBY3 := Lib.hid (show l.length * 104 ≤ 140737488355328 by omega)
            clear HST u0 u1
            go_upto_region 26 with fail
            go_region_held3 (fun w' => Below w10.heap.size w10 w' ∧ w'.cell? ⟨W.heap.size, 0, none⟩ = some (.slice A l.length c) ∧ w'.cell? ⟨W.heap.size, 1, none⟩ = some (.int .i64 p1) ∧ w'.cell? ⟨W.heap.size + 1, 0, none⟩ = some (.int .i64 x.kind) ∧ w'.cell? ⟨W.heap.size + 1, 1, none⟩ = some (.int .i64 x.frm) ∧ w'.cell? ⟨W.heap.size + 1, 2, none⟩ = some (.int .i64 x.to) ∧ w'.cell? ⟨W.heap.size + 1, 3, none⟩ = some (.int .i64 x.num) ∧ w'.cell? ⟨W.heap.size + 1, 4, none⟩ = some (.string x.text) ∧ w'.cell? ⟨W.heap.size + 1, 5, none⟩ = some (.int .i64 x.v.kind) ∧ w'.cell? ⟨W.heap.size + 1, 6, none⟩ = some (.int .i64 x.v.num) ∧ w'.cell? ⟨W.heap.size + 1, 7, none⟩ = some (.string x.v.text) ∧ w'.cell? ⟨W.heap.size + 1, 8, none⟩ = some (.slice x.v.A x.v.len x.v.cap) ∧ w'.cell? ⟨ga, 0, none⟩ = some (.slice A1 l1.length c1) ∧ w'.cell? ⟨ga, 1, none⟩ = some (.int .i64 p1))
              ((first
                | exact HSK.out _ (below_drewN (Below.refl _ _) 1)
                | exact HSK.out _ (below_drewN ((Below.refl _ _).alloc (Nat.le_refl _) _) 1)
                | exact HSK.out _ hbk
                | exact HSK.out _ ((show Below w10.heap.size w10 _ ∧ _ by assumption).1.alloc (show Below w10.heap.size w10 _ ∧ _ by assumption).1.size _)
                | go_keep))
              ((first
                | (go_at_call 28; refine (clone_letter A c l _ _ ((HR.out.below (HS10.out.bel.trans ((show Below w10.heap.size w10 _ ∧ _ by assumption).1.mono HS10.out.bel.size)) fun _ h => h).2.1.all) HCA.out HBY3.out).mono ?_; rintro e w11 ⟨v11, rfl, hown11, hb11⟩; obtain ⟨A9, c9, rfl, hown9⟩ := OwnAt.of_own hown11; have hbk := (show Below w10.heap.size w10 _ ∧ _ by assumption).1.trans (hb11.mono (show Below w10.heap.size w10 _ ∧ _ by assumption).1.size); have hmk9 := mk_of_clone (base := w10.heap.size) (HR.out.below (HS10.out.bel.trans (hbk.mono HS10.out.bel.size)) fun _ h => h) hown9 HSZ.out (show Below w10.heap.size w10 _ ∧ _ by assumption).1.size; have hx9 := HX.out.below (HS10.out.bel.trans (hbk.mono HS10.out.bel.size)) fun _ h => h)
                | (go_at_call 25; refine (same_box n A1 A12 c1 c12 l1.length (l.length + 1) p1 p1 l1 (l ++ [x]) ts1 (ts ++ [t]) _ _ _ rfl (by simp) (HS10.out.below hbk).r1 (hmk12.row HBY2.out)).mono ?_; rintro e w13 ⟨q, rfl, hq, hb13⟩; obtain rfl : q = true := hq.2 (by rw [HN1.out]); clear hq; have hbk := hbk.trans (hb13.mono hbk.size); clear hb13 hmk12 hmk9 hx9 hown9 hown11)
                | (refine step_mk_letter rfl (.tmp 150) (.tmp 152) rfl w10.heap.size (· < W.heap.size) n A9 c9 l.length l ts rfl rfl (hmk9.below ((Below.refl _ _).alloc (Nat.le_refl _) _)) w11.heap.size x t rfl (letter_new w11 x) (off_of_mk hmk9 HSZ.out (hx9.below ((Below.refl W.heap.size w11).alloc (Nat.le_trans HSZ.out hbk.size) _) fun _ h => h)) HBY.out (show Below w10.heap.size w10 _ ∧ _ by assumption).1.size ?_; intro A12 c12 w12 hmk12 hb12; have hbk := (show Below w10.heap.size w10 _ ∧ _ by assumption).1.trans hb12)
                | (refine step_mk_letter rfl (.tmp 150) (.tmp 152) rfl w10.heap.size (· < W.heap.size) n A9 c9 l.length l ts rfl rfl hmk9 w10.heap.size x t rfl (fun j u hj => ck hb11 (letter_new w10 x j u hj)) (off_of_mk hmk9 HSZ.out hx9) HBY.out (show Below w10.heap.size w10 _ ∧ _ by assumption).1.size ?_; intro A12 c12 w12 hmk12 hb12; have hbk := (show Below w10.heap.size w10 _ ∧ _ by assumption).1.trans hb12)))
            all_goals (
              have HW := Lib.hid (HS10.out.bel.trans (hbk.mono HS10.out.bel.size))
              clear hbk
              go_wp2_with fail
              go_ret
              exact ⟨rfl, HW.out⟩)
end Go.Proofs.Ytaecgapoaagjfaa
