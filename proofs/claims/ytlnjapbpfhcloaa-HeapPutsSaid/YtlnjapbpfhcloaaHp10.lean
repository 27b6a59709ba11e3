/-
  HeapPuts' own walk.
-/
import Derived.Test.YtlnjapbpfhcloaaHp9
import Derived.Deep.CutBlock
import Derived.Deep.DeepCutAuto
import Derived.Deep.RegionLaw
namespace Go.Proofs.Ytlnjapbpfhcloaa
open Go.RowKit

theorem rdF_out {h : List Nat} {p : Int} (hp : p < 0 ∨ (h.length : Int) ≤ p) : rdF h p = (oc0.o, 0, 4) ∧ raF h p = none := by
  unfold rdF raF
  rw [if_pos hp, if_pos hp]
  exact ⟨rfl, rfl⟩
theorem rdF_none {h : List Nat} {p : Int} (hp : ¬ (p < 0 ∨ (h.length : Int) ≤ p)) (e : raF h p = none) : rdF h p = (oc0.o, 0, 3) := by
  unfold raF at e
  rw [if_neg hp] at e
  unfold rdF
  rw [if_neg hp, e]
theorem rdF_some {h : List Nat} {p : Int} {o : Ob} (hp : ¬ (p < 0 ∨ (h.length : Int) ≤ p)) (e : raF h p = some o) : rdF h p = (o, (((wordsF o).length : Nat) : Int), 0) := by
  unfold raF at e
  rw [if_neg hp] at e
  unfold rdF
  rw [if_neg hp, e]

theorem objsF_ok (h : List Nat) : ∀ (f p : Nat) (os : List Ob), objsF h f p = some os → ∀ o ∈ os, OkO o := by
  intro f
  induction f with
  | zero =>
    intro p os e o ho
    simp only [objsF] at e
    split at e
    · injection e with e
      subst e
      cases ho
    · cases e
  | succ f ih =>
    intro p os e o ho
    simp only [objsF] at e
    split at e
    · injection e with e
      subst e
      cases ho
    · split at e
      · cases e
      · rename_i o' hq
        cases hr : objsF h f (p + (wordsF o').length) with
        | none => rw [hr] at e; cases e
        | some r =>
          rw [hr] at e
          injection e with e
          subst e
          rcases List.mem_cons.1 ho with rfl | ho
          · exact (progF_ok hq).1
          · exact ih _ _ hr o ho
theorem allR_ok {h : List Nat} {ys : List OC} {er : Int} (e : allR h = (ys.map (·.o), er)) {i : Nat} (hi : i < ys.length) : OkO (ys.getD i oc0).o := by
  have hmem : (ys.getD i oc0).o ∈ ys.map (·.o) := by
    rw [List.getD_eq_getElem?_getD, List.getElem?_eq_getElem hi]
    exact List.mem_map.2 ⟨_, List.getElem_mem hi, rfl⟩
  unfold allR at e
  split at e
  · injection e with e1 e2
    rw [← e1] at hmem
    cases hmem
  · split at e
    · injection e with e1 e2
      rw [← e1] at hmem
      cases hmem
    · rename_i os hos
      injection e with e1 e2
      rw [← e1] at hmem
      exact objsF_ok h _ _ _ hos _ hmem
theorem allR_same {h : List Nat} {l1 l2 : List OC} {e1 e2 : Int} (h1 : allR h = (l1.map (·.o), e1)) (h2 : allR h = (l2.map (·.o), e2)) : e1 = e2 ∧ l1.length = l2.length ∧ ∀ i, i < l1.length → (l1.getD i oc0).o = (l2.getD i oc0).o := by
  rw [h1] at h2
  injection h2 with h3 h4
  have hl := congrArg List.length h3
  rw [List.length_map, List.length_map] at hl
  refine ⟨h4, hl, fun i hi => ?_⟩
  have := congrArg (fun l => l[i]?) h3
  simp only [List.getElem?_map, List.getElem?_eq_getElem hi, List.getElem?_eq_getElem (hl ▸ hi), Option.map_some, Option.some.injEq] at this
  simpa [List.getD_eq_getElem?_getD, hi, hl ▸ hi] using this

/-- The row of objects at an element. -/
theorem ObMk.at {w : World} {base : Nat} {A : Option Addr} {c : Nat} {ys : List OC} (h : ObMk w base A c ys) {i : Nat} (hi : i < ys.length) :
    ∃ b o, A = some ⟨b, o, none⟩
      ∧ w.cell? ⟨b, o + i * 5, none⟩ = some (.int .i64 (ys.getD i oc0).o.at_)
      ∧ w.cell? ⟨b, o + i * 5 + 1, none⟩ = some (.int .i64 (ys.getD i oc0).o.kind)
      ∧ w.cell? ⟨b, o + i * 5 + 2, none⟩ = some (.int .i64 (ys.getD i oc0).o.num)
      ∧ w.cell? ⟨b, o + i * 5 + 3, none⟩ = some (.string ⟨(ys.getD i oc0).o.text.toArray⟩)
      ∧ w.cell? ⟨b, o + i * 5 + 4, none⟩ = some (.slice (ys.getD i oc0).A (ys.getD i oc0).o.parts.length (ys.getD i oc0).c)
      ∧ Row w w.heap.size (ys.getD i oc0).A (flat huC (ys.getD i oc0).o.parts) := by
  obtain ⟨b, o, e, _, h0, h1, h2, h3, h4⟩ := Row.oc h.own.row hi oc0
  refine ⟨b, o, e, h0, h1, h2, h3, h4, (h.all _ ?_).row⟩
  rw [List.getD_eq_getElem?_getD, List.getElem?_eq_getElem hi]
  exact List.getElem_mem hi

theorem UOwn.at {w : World} {base n c : Nat} {A : Option Addr} {zs : List Nat} (h : UOwn w base (.slice A n c) zs) : OwnAt w base 67 1 A zs.length c (flat huC zs) := by
  obtain ⟨A1, c1, hv, hoa⟩ := OwnAt.of_own h
  injection hv with e1 e2 e3
  subst e1 e3
  exact hoa
def LawP (w : World) (e : Ending) (w' : World) : Prop := e = .returned (.bool true) ∧ Below w.heap.size w w'
set_option maxRecDepth 100000 in
set_option maxHeartbeats 8000000 in
theorem heapPuts_walk (A : Option Addr) (c : Nat) (h : List Nat) (x : OC) (p : Int) (w : World) (hh : HpIn w A c h) (hm : h.length * 8 ≤ 140737488355328) (hr : Row w w.heap.size x.A (flat huC x.o.parts)) (hn : x.A = none → x.c = 0) :
    Calls Try.prog 4 #[.slice A h.length c, ocV x, .int .i64 p] w (LawP w) := by
  have hb1 := (Below.refl w.heap.size w).alloc (Nat.le_refl _) (.cells #[.int .i64 x.o.at_, .int .i64 x.o.kind, .int .i64 x.o.num, .string ⟨x.o.text.toArray⟩, .slice x.A x.o.parts.length x.c] 50)
  have hbx : ObBox (w.alloc (.cells #[.int .i64 x.o.at_, .int .i64 x.o.kind, .int .i64 x.o.num, .string ⟨x.o.text.toArray⟩, .slice x.A x.o.parts.length x.c] 50)) w.heap.size x.o.at_ x.o.kind x.o.num x.o.text x.A x.o.parts.length x.c := Box.new w 50 #[.int .i64 x.o.at_, .int .i64 x.o.kind, .int .i64 x.o.num, .string ⟨x.o.text.toArray⟩, .slice x.A x.o.parts.length x.c]
  have HPU : Hid (∀ w', Below w.heap.size w w' → Calls Try.prog 26 #[.slice A h.length c, ocV x] w' fun e w'' => Below w'.heap.size w' w'' ∧ PutPost w'.heap.size h x.o e w'') := Lib.hid (fun w' hb => Put_any A c h x w' (hh.below hb) hm ((hr.below hb).more hb.size) hn)
  have HHH := Lib.hid hh
  have HM := Lib.hid hm
  have HR := Lib.hid hr
  have HN := Lib.hid hn
  have hcap := hh.cap
  have hle := hh.le
  unfold maxLen at hcap
  have hsz : (w.alloc (.cells #[.int .i64 x.o.at_, .int .i64 x.o.kind, .int .i64 x.o.num, .string ⟨x.o.text.toArray⟩, .slice x.A x.o.parts.length x.c] 50)).heap.size = w.heap.size + 1 := by simp
  have HOI : Hid (∀ w', Calls Try.prog 33 #[ocV x] w' fun e w'' => e = .returned (.bool (decide (OkO x.o))) ∧ Below w'.heap.size w' w'') := Lib.hid (fun w' => objectIs_any x w')
  have HOW : Hid (∀ w', OkO x.o → Below w.heap.size w w' → Calls Try.prog 34 #[ocV x] w' (huPost (wordsF x.o) w')) := Lib.hid (fun w' ho hb => objectWords_any x w' ho ((hr.below hb).more hb.size) hn)
  unfold ocV at *
  generalize hx0 : x.o.at_ = x0 at *
  generalize hx1 : x.o.kind = x1 at *
  generalize hx2 : x.o.num = x2 at *
  generalize hx3 : x.o.text = x3 at *
  generalize hx4 : x.o.parts.length = x4 at *
  clear hx0 hx1 hx2 hx3 hx4 hr hn hh
  go_enter Try.func4, Try.ntmps4
  go_upto_region 1 with fail
  generalize w.alloc (.cells #[.int .i64 x0, .int .i64 x1, .int .i64 x2, .string ⟨x3.toArray⟩, .slice x.A x4 x.c] 50) = w1 at *
  obtain ⟨c0, c1, c2, c3, c4⟩ := ObBox.cells hbx
  have HP1 := Lib.hid (HPU.out w1 hb1)
  have HB1 := Lib.hid hb1
  have HX1 := Lib.hid hbx
  clear hb1 hbx HPU
  go_upto_region 2 with (go_at_call 26; refine HP1.out.mono ?_; rintro e w2 ⟨hb2, AP, nP, cP, kP, eP, rfl, hput⟩)
  have HB2 := Lib.hid (HB1.out.trans (hb2.mono (by omega)))
  have HX2 := Lib.hid (HX1.out.below hb2 HX1.out.lt)
  have HPUT := Lib.hid hput
  have HAT := Lib.hid (at_any A c h p w2 (HHH.out.below HB2.out))
  clear c0 c1 c2 c3 c4 HP1 HX1 hb2 hput
  go_upto_region 3 with (go_at_call 27; refine HAT.out.mono ?_; rintro e w3 ⟨hb3, y, erA, rfl, hyo, hye, hyp⟩; unfold ocV; have HYE := Lib.hid hye; clear hye; obtain ⟨⟨y1, y2, y3, y4, y5⟩, B, d⟩ := y; dsimp only at hyo)
  have HYO := Lib.hid hyo
  generalize hy6 : y5.length = y6 at *
  have HYL := Lib.hid hy6
  have hal := (Below.refl w3.heap.size w3).alloc (Nat.le_refl _) (.cells #[.int .i64 y1, .int .i64 y2, .int .i64 y3, .string ⟨y4.toArray⟩, .slice B y6 d] 50)
  have HB4 := Lib.hid (HB2.out.trans ((hb3.trans (hal.mono hb3.size)).mono HB2.out.size))
  have HX4 := Lib.hid ((HX2.out.below hb3 HX2.out.lt).below hal (Nat.lt_of_lt_of_le HX2.out.lt hb3.size))
  have HY4 : Hid (ObBox (w3.alloc (.cells #[.int .i64 y1, .int .i64 y2, .int .i64 y3, .string ⟨y4.toArray⟩, .slice B y6 d] 50)) w3.heap.size y1 y2 y3 y4 B y6 d) := Lib.hid (Box.new w3 50 #[.int .i64 y1, .int .i64 y2, .int .i64 y3, .string ⟨y4.toArray⟩, .slice B y6 d])
  have HYP := Lib.hid (hyp.below hal)
  have HPUT4 : Hid (∀ w', Below w3.heap.size w3 w' → PutIs w.heap.size h x.o AP nP cP kP eP w') := Lib.hid (fun w' hb => by
    refine putPost_lower (base := w1.heap.size) ?_ (by omega)
    rcases HPUT.out with h1 | h1 | ⟨h1, h2, h3, h4, h5, h6⟩
    · exact .inl h1
    · exact .inr (.inl h1)
    · exact .inr (.inr ⟨h1, h2, h3, h4, h5, (UOwn.below h6 hb3).below hb⟩))
  have HPUT5 : Hid (∀ w', Below (w3.alloc (.cells #[.int .i64 y1, .int .i64 y2, .int .i64 y3, .string ⟨y4.toArray⟩, .slice B y6 d] 50)).heap.size (w3.alloc (.cells #[.int .i64 y1, .int .i64 y2, .int .i64 y3, .string ⟨y4.toArray⟩, .slice B y6 d] 50)) w' → PutIs w.heap.size h x.o AP nP cP kP eP w') := Lib.hid (fun w' hb => HPUT4.out w' (hal.trans (hb.mono hal.size)))
  clear hb3 hyo hyp hal HX2 HPUT HPUT4 hy6 HAT
  generalize w3.alloc (.cells #[.int .i64 y1, .int .i64 y2, .int .i64 y3, .string ⟨y4.toArray⟩, .slice B y6 d] 50) = w4 at *
  generalize w3.heap.size = g3 at *
  have HO1 := Lib.hid (objects_any A c h w4 (HHH.out.below HB4.out))
  go_upto_region 4 with (go_at_call 28; refine HO1.out.mono ?_; rintro e w5 ⟨hb5, A1, n1, c1, l1, er1, rfl, hn1, hmk1, hall1⟩; have HN1 := Lib.hid hn1; clear hn1)
  have HO2 := Lib.hid (heapObjects_any A c h w5 (HHH.out.below (HB4.out.trans (hb5.mono HB4.out.size))))
  have HMK1 := Lib.hid hmk1
  have HALL1 := Lib.hid hall1
  have HB5 := Lib.hid hb5
  clear hmk1 hall1 hb5 HO1
  go_upto_region 5 with (go_at_call 29; refine HO2.out.mono ?_; rintro e w6 ⟨hb6, A2, n2, c2, l2, er2, rfl, hn2, hmk2, hall2⟩; obtain rfl : er1 = er2 := (allR_same HALL1.out hall2).1; obtain rfl : n1 = n2 := HN1.out.trans ((allR_same HALL1.out hall2).2.1.trans hn2.symm); clear hn2)
  have hb46 := HB5.out.trans (hb6.mono HB5.out.size)
  have HB6 := Lib.hid (HB4.out.trans (hb46.mono HB4.out.size))
  have HX6 := Lib.hid (HX4.out.below hb46 HX4.out.lt)
  have HY6 := Lib.hid (HY4.out.below hb46 HY4.out.lt)
  have HYP6 := Lib.hid (HYP.out.below hb46)
  have HPUT6 : Hid (∀ w', Below w6.heap.size w6 w' → PutIs w.heap.size h x.o AP nP cP kP eP w') := Lib.hid (fun w' hb => HPUT5.out w' (hb46.trans (hb.mono hb46.size)))
  have HMK16 := Lib.hid (HMK1.out.below hb6)
  have HMK26 := Lib.hid hmk2
  have HSAME := Lib.hid (allR_same HALL1.out hall2).2.2
  have hn4000 : n1 ≤ 9223372036854775807 := by have := HMK1.out.own.cap_le; rw [← HN1.out] at this; unfold maxLen at this; omega
  have HL2 := Lib.hid ((allR_same HALL1.out hall2).2.1)
  clear hb46 hb6 hmk2 hall2 HX4 HY4 HYP HPUT5 HMK1 HB5 HB4 HO2
  go_wp2_with fail
  go_loopg [16, 55] n1 (fun gk _k iv wr => ∃ (i : Nat), gk = n1 - i ∧ i ≤ n1 ∧ iv = .int .i64 i ∧ Below w6.heap.size w6 wr)
  case atStart => exact ⟨0, by omega, by omega, rfl, Below.refl _ _⟩
  case round =>
    obtain ⟨i, hgk, hi, rfl, hbr⟩ := hrel
    have HGK := Lib.hid hgk
    clear hgk
    by_cases hlt : i < n1
    · obtain ⟨b1, o1, rfl, e0, e1, e2, e3, e4, hru⟩ := (HMK16.out.below hbr).at (i := i) (by rw [← HN1.out]; exact hlt)
      obtain ⟨b2, o2, rfl, f0, f1, f2, f3, f4, hrv⟩ := (HMK26.out.below hbr).at (i := i) (by rw [← HL2.out, ← HN1.out]; exact hlt)
      have hok := allR_ok HALL1.out (i := i) (by rw [← HN1.out]; exact hlt)
      have hsame := HSAME.out i (by rw [← HN1.out]; exact hlt)
      generalize l1.getD i oc0 = u at *
      generalize l2.getD i oc0 = v at *
      obtain ⟨⟨u1, u2, u3, u4, u5⟩, UA, uc⟩ := u
      obtain ⟨vo, VA, vc⟩ := v
      dsimp only at hsame
      subst hsame
      dsimp only at e0 e1 e2 e3 e4 f0 f1 f2 f3 f4 hru hrv
      have HSO : Hid (∀ w', Below wr.heap.size wr w' → Calls Try.prog 30 #[.agg #[.int .i64 u1, .int .i64 u2, .int .i64 u3, .string ⟨u4.toArray⟩, .slice UA u5.length uc], .agg #[.int .i64 u1, .int .i64 u2, .int .i64 u3, .string ⟨u4.toArray⟩, .slice VA u5.length vc]] w' fun e w'' => e = .returned (.bool true) ∧ Below w'.heap.size w' w'') :=
        Lib.hid (fun w' hb => sameObject_same ⟨⟨u1, u2, u3, u4, u5⟩, UA, uc⟩ ⟨⟨u1, u2, u3, u4, u5⟩, VA, vc⟩ w' wr.heap.size wr.heap.size rfl (hru.below hb) (hrv.below hb) (Nat.le_trans hok.2.2.2.1 (by unfold maxLen; decide)) hb.size hb.size)
      generalize u5.length = u6 at *
      have hlt1 := lt_of_cell e0
      have hlt2 := lt_of_cell f0
      dsimp only at hlt1 hlt2
      have HSK : Hid (∀ w', Below wr.heap.size wr w' → Below wr.heap.size wr w' ∧ w'.cell? ⟨b1, o1 + i * 5, none⟩ = some (.int .i64 u1) ∧ w'.cell? ⟨b1, o1 + i * 5 + 1, none⟩ = some (.int .i64 u2) ∧ w'.cell? ⟨b1, o1 + i * 5 + 2, none⟩ = some (.int .i64 u3) ∧ w'.cell? ⟨b1, o1 + i * 5 + 3, none⟩ = some (.string ⟨u4.toArray⟩) ∧ w'.cell? ⟨b1, o1 + i * 5 + 4, none⟩ = some (.slice UA u6 uc) ∧ w'.cell? ⟨b2, o2 + i * 5, none⟩ = some (.int .i64 u1) ∧ w'.cell? ⟨b2, o2 + i * 5 + 1, none⟩ = some (.int .i64 u2) ∧ w'.cell? ⟨b2, o2 + i * 5 + 2, none⟩ = some (.int .i64 u3) ∧ w'.cell? ⟨b2, o2 + i * 5 + 3, none⟩ = some (.string ⟨u4.toArray⟩) ∧ w'.cell? ⟨b2, o2 + i * 5 + 4, none⟩ = some (.slice VA u6 vc)) := fun w' h =>
        ⟨h, (h.cell (p := ⟨b1, _, none⟩) hlt1).trans e0, (h.cell (p := ⟨b1, _, none⟩) hlt1).trans e1, (h.cell (p := ⟨b1, _, none⟩) hlt1).trans e2, (h.cell (p := ⟨b1, _, none⟩) hlt1).trans e3, (h.cell (p := ⟨b1, _, none⟩) hlt1).trans e4, (h.cell (p := ⟨b2, _, none⟩) hlt2).trans f0, (h.cell (p := ⟨b2, _, none⟩) hlt2).trans f1, (h.cell (p := ⟨b2, _, none⟩) hlt2).trans f2, (h.cell (p := ⟨b2, _, none⟩) hlt2).trans f3, (h.cell (p := ⟨b2, _, none⟩) hlt2).trans f4⟩
      have HBR := Lib.hid hbr
      have hbk0 := Below.refl wr.heap.size wr
      clear hru hrv hok hbr
      go_wp2_with fail
      go_region_held3 (fun w' => Below wr.heap.size wr w' ∧ w'.cell? ⟨b1, o1 + i * 5, none⟩ = some (.int .i64 u1) ∧ w'.cell? ⟨b1, o1 + i * 5 + 1, none⟩ = some (.int .i64 u2) ∧ w'.cell? ⟨b1, o1 + i * 5 + 2, none⟩ = some (.int .i64 u3) ∧ w'.cell? ⟨b1, o1 + i * 5 + 3, none⟩ = some (.string ⟨u4.toArray⟩) ∧ w'.cell? ⟨b1, o1 + i * 5 + 4, none⟩ = some (.slice UA u6 uc) ∧ w'.cell? ⟨b2, o2 + i * 5, none⟩ = some (.int .i64 u1) ∧ w'.cell? ⟨b2, o2 + i * 5 + 1, none⟩ = some (.int .i64 u2) ∧ w'.cell? ⟨b2, o2 + i * 5 + 2, none⟩ = some (.int .i64 u3) ∧ w'.cell? ⟨b2, o2 + i * 5 + 3, none⟩ = some (.string ⟨u4.toArray⟩) ∧ w'.cell? ⟨b2, o2 + i * 5 + 4, none⟩ = some (.slice VA u6 vc))
        ((first
          | exact HSK.out _ hbk
          | exact HSK.out _ (below_drewX hbk0)
          | go_keep))
        ((first
          | (go_at_call 30; refine (HSO.out _ (show Below wr.heap.size wr _ ∧ _ by assumption).1).mono ?_; rintro e wk ⟨rfl, hbn⟩; have hX := (show Below wr.heap.size wr _ ∧ _ by assumption); have hbk := hX.1.trans (hbn.mono hX.1.size); clear hbn hX)))
      all_goals (
        go_wp2_with fail
        go_roundg (n1 - (i + 1))
        case measure => have := HGK.out; omega
        case rel => exact ⟨i + 1, rfl, by omega, by go_num, HBR.out.trans (hbk.mono HBR.out.size)⟩)
    · obtain rfl : i = n1 := by omega
      have HX7 := Lib.hid (HX6.out.below hbr HX6.out.lt)
      have HY7 := Lib.hid (HY6.out.below hbr HY6.out.lt)
      have HYP7 := Lib.hid (HYP6.out.below hbr)
      have HB7 := Lib.hid (HB6.out.trans (hbr.mono HB6.out.size))
      have HPUT7 : Hid (∀ w', Below wr.heap.size wr w' → PutIs w.heap.size h x.o AP nP cP kP eP w') := Lib.hid (fun w' hb => HPUT6.out w' (hbr.trans (hb.mono hbr.size)))
      have HRA := Lib.hid (objectAt_any A c h p wr (HHH.out.below HB7.out))
      clear HX6 HY6 HYP6 HB6 HPUT6 hbr HMK16 HMK26 HSAME HL2 HALL1
      go_upto_region 14 with (go_at_call 31; refine HRA.out.mono ?_; rintro e w7 ⟨hb7, z, zb, rfl, hz1, _, hz3⟩; unfold ocV; have HZ1 := Lib.hid hz1; clear hz1; obtain ⟨⟨z1, z2, z3, z4, z5⟩, ZA, zc⟩ := z; dsimp only at *)
      generalize hz6 : z5.length = z6 at *
      have HZL := Lib.hid hz6
      have hal := (Below.refl w7.heap.size w7).alloc (Nat.le_refl _) (.cells #[.int .i64 z1, .int .i64 z2, .int .i64 z3, .string ⟨z4.toArray⟩, .slice ZA z6 zc] 50)
      have HZ8 : Hid (ObBox (w7.alloc (.cells #[.int .i64 z1, .int .i64 z2, .int .i64 z3, .string ⟨z4.toArray⟩, .slice ZA z6 zc] 50)) w7.heap.size z1 z2 z3 z4 ZA z6 zc) := Lib.hid (Box.new w7 50 #[.int .i64 z1, .int .i64 z2, .int .i64 z3, .string ⟨z4.toArray⟩, .slice ZA z6 zc])
      have HZP := Lib.hid (hz3.below hal)
      have hb8 := hb7.trans (hal.mono hb7.size)
      have HX8 := Lib.hid (HX7.out.below hb8 HX7.out.lt)
      have HY8 := Lib.hid (HY7.out.below hb8 HY7.out.lt)
      have HYP8 := Lib.hid (HYP7.out.below hb8)
      have HB8 := Lib.hid (HB7.out.trans (hb8.mono HB7.out.size))
      have HPUT8 : Hid (∀ w', Below (w7.alloc (.cells #[.int .i64 z1, .int .i64 z2, .int .i64 z3, .string ⟨z4.toArray⟩, .slice ZA z6 zc] 50)).heap.size (w7.alloc (.cells #[.int .i64 z1, .int .i64 z2, .int .i64 z3, .string ⟨z4.toArray⟩, .slice ZA z6 zc] 50)) w' → PutIs w.heap.size h x.o AP nP cP kP eP w') := Lib.hid (fun w' hb => HPUT7.out w' (hb8.trans (hb.mono hb8.size)))
      clear HX7 HY7 HYP7 HB7 HPUT7 HRA hb7 hal hb8 hz3 hz6
      generalize w7.alloc (.cells #[.int .i64 z1, .int .i64 z2, .int .i64 z3, .string ⟨z4.toArray⟩, .slice ZA z6 zc] 50) = w8 at *
      generalize w7.heap.size = g7 at *
      obtain ⟨q, hqe⟩ : ∃ q, q = decide ((0 : Int) ≤ p ∧ p ≤ (h.length : Int) - 1) := ⟨_, rfl⟩
      have hin := in_any p 0 ((h.length : Int) - 1)
      rw [← hqe] at hin
      have HI := Lib.hid hin
      have HQ : Hid ((q = true → ¬ (p < 0 ∨ (h.length : Int) ≤ p)) ∧ (q = false → (p < 0 ∨ (h.length : Int) ≤ p))) := Lib.hid (by
        constructor
        · intro e
          rw [e] at hqe
          have := of_decide_eq_true hqe.symm
          omega
        · intro e
          rw [e] at hqe
          have := of_decide_eq_false hqe.symm
          omega)
      clear hin hqe
      go_upto_if 75 with (go_at_call 32; refine (HI.out _).mono ?_; rintro e wk ⟨rfl, rfl⟩)
      rcases HPUT8.out w8 (Below.refl _ _) with ⟨hno, rfl, rfl, rfl, rfl, rfl⟩ | ⟨hok, hbig, rfl, rfl, rfl, rfl, rfl⟩ | ⟨hok, hbig, rfl, rfl, rfl, hup⟩
      · have hd : decide (OkO x.o) = false := decide_eq_false hno
        rw [hd] at HOI
        clear hd
        cases q with
        | false =>
          have hq := HQ.out.2 rfl
          have he : rdF h p = (oc0.o, 0, 4) := (rdF_out hq).1
          have hY : (⟨y1, y2, y3, y4, y5⟩ : Ob) = oc0.o := by rw [HYO.out, he]
          have h4 : erA = 4 := by rw [HYE.out, he]
          subst h4
          have hso : ∀ w', Below w8.heap.size w8 w' → Calls Try.prog 30 #[.agg #[.int .i64 y1, .int .i64 y2, .int .i64 y3, .string ⟨y4.toArray⟩, .slice B y6 d], .agg #[.int .i64 0, .int .i64 0, .int .i64 0, .string ⟨#[]⟩, .slice none 0 0]] w' fun e w'' => e = .returned (.bool true) ∧ Below w'.heap.size w' w'' := fun w' hb => by
            rw [← HYL.out]
            exact sameObject_same ⟨⟨y1, y2, y3, y4, y5⟩, B, d⟩ oc0 w' w8.heap.size w8.heap.size hY (HYP8.out.row.below hb) (Row.nil) (Nat.le_trans HYP8.out.le HYP8.out.cap) hb.size hb.size
          have HSO := Lib.hid hso
          obtain ⟨r0, r1, r2, r3, r4⟩ := ObBox.cells HY8.out
          clear he hY hso
          go_upto_region 22 with (go_at_call 30; refine (HSO.out _ (Below.refl _ _)).mono ?_; rintro e w9 ⟨rfl, hb9⟩)
          clear r0 r1 r2 r3 r4
          obtain ⟨c0, c1, c2', c3, c4⟩ := ObBox.cells (HX8.out.below hb9 HX8.out.lt)
          have HB9 := Lib.hid (HB8.out.trans (hb9.mono HB8.out.size))
          have HB89 := Lib.hid hb9
          clear hb9
          go_wp2_with (go_at_call 33; refine (HOI.out _).mono ?_; rintro e w10 ⟨rfl, hb10⟩)
          go_ret
          exact ⟨rfl, HB9.out.trans (hb10.mono HB9.out.size)⟩
        | true =>
          have hq := HQ.out.1 rfl
          cases zb with
          | false =>
            have he : rdF h p = (oc0.o, 0, 3) := rdF_none hq (by rw [HZ1.out]; rfl)
            have hY : (⟨y1, y2, y3, y4, y5⟩ : Ob) = oc0.o := by rw [HYO.out, he]
            have h4 : erA = 3 := by rw [HYE.out, he]
            subst h4
            have hso : ∀ w', Below w8.heap.size w8 w' → Calls Try.prog 30 #[.agg #[.int .i64 y1, .int .i64 y2, .int .i64 y3, .string ⟨y4.toArray⟩, .slice B y6 d], .agg #[.int .i64 0, .int .i64 0, .int .i64 0, .string ⟨#[]⟩, .slice none 0 0]] w' fun e w'' => e = .returned (.bool true) ∧ Below w'.heap.size w' w'' := fun w' hb => by
              rw [← HYL.out]
              exact sameObject_same ⟨⟨y1, y2, y3, y4, y5⟩, B, d⟩ oc0 w' w8.heap.size w8.heap.size hY (HYP8.out.row.below hb) (Row.nil) (Nat.le_trans HYP8.out.le HYP8.out.cap) hb.size hb.size
            have HSO := Lib.hid hso
            obtain ⟨r0, r1, r2, r3, r4⟩ := ObBox.cells HY8.out
            clear he hY hso
            go_upto_region 22 with (go_at_call 30; refine (HSO.out _ (Below.refl _ _)).mono ?_; rintro e w9 ⟨rfl, hb9⟩)
            clear r0 r1 r2 r3 r4
            obtain ⟨c0, c1, c2', c3, c4⟩ := ObBox.cells (HX8.out.below hb9 HX8.out.lt)
            have HB9 := Lib.hid (HB8.out.trans (hb9.mono HB8.out.size))
            have HB89 := Lib.hid hb9
            clear hb9
            go_wp2_with (go_at_call 33; refine (HOI.out _).mono ?_; rintro e w10 ⟨rfl, hb10⟩)
            go_ret
            exact ⟨rfl, HB9.out.trans (hb10.mono HB9.out.size)⟩
          | true =>
            have he := rdF_some hq HZ1.out
            have hY : (⟨y1, y2, y3, y4, y5⟩ : Ob) = ⟨z1, z2, z3, z4, z5⟩ := by rw [HYO.out, he]
            have h4 : erA = 0 := by rw [HYE.out, he]
            subst h4
            have hso : ∀ w', Below w8.heap.size w8 w' → Calls Try.prog 30 #[.agg #[.int .i64 y1, .int .i64 y2, .int .i64 y3, .string ⟨y4.toArray⟩, .slice B y6 d], .agg #[.int .i64 z1, .int .i64 z2, .int .i64 z3, .string ⟨z4.toArray⟩, .slice ZA z6 zc]] w' fun e w'' => e = .returned (.bool true) ∧ Below w'.heap.size w' w'' := fun w' hb => by
              rw [← HYL.out]
              rw [← HZL.out]
              exact sameObject_same ⟨⟨y1, y2, y3, y4, y5⟩, B, d⟩ ⟨⟨z1, z2, z3, z4, z5⟩, ZA, zc⟩ w' w8.heap.size w8.heap.size hY (HYP8.out.row.below hb) (HZP.out.row.below hb) (Nat.le_trans HYP8.out.le HYP8.out.cap) hb.size hb.size
            have HSO := Lib.hid hso
            obtain ⟨r0, r1, r2, r3, r4⟩ := ObBox.cells HY8.out
            obtain ⟨t0, t1, t2, t3, t4⟩ := ObBox.cells HZ8.out
            clear he hY hso
            go_upto_region 22 with (go_at_call 30; refine (HSO.out _ (Below.refl _ _)).mono ?_; rintro e w9 ⟨rfl, hb9⟩)
            clear r0 r1 r2 r3 r4 t0 t1 t2 t3 t4
            obtain ⟨c0, c1, c2', c3, c4⟩ := ObBox.cells (HX8.out.below hb9 HX8.out.lt)
            have HB9 := Lib.hid (HB8.out.trans (hb9.mono HB8.out.size))
            have HB89 := Lib.hid hb9
            clear hb9
            go_wp2_with (go_at_call 33; refine (HOI.out _).mono ?_; rintro e w10 ⟨rfl, hb10⟩)
            go_ret
            exact ⟨rfl, HB9.out.trans (hb10.mono HB9.out.size)⟩
      · have hd : decide (OkO x.o) = true := decide_eq_true hok
        rw [hd] at HOI
        have hRle := wordsF_le hok
        generalize wordsF x.o = R at *
        have hmm := HM.out
        have d8 : 4000 < (h.length : Int) + (R.length : Int) := by omega
        clear hd
        cases q with
        | false =>
          have hq := HQ.out.2 rfl
          have he : rdF h p = (oc0.o, 0, 4) := (rdF_out hq).1
          have hY : (⟨y1, y2, y3, y4, y5⟩ : Ob) = oc0.o := by rw [HYO.out, he]
          have h4 : erA = 4 := by rw [HYE.out, he]
          subst h4
          have hso : ∀ w', Below w8.heap.size w8 w' → Calls Try.prog 30 #[.agg #[.int .i64 y1, .int .i64 y2, .int .i64 y3, .string ⟨y4.toArray⟩, .slice B y6 d], .agg #[.int .i64 0, .int .i64 0, .int .i64 0, .string ⟨#[]⟩, .slice none 0 0]] w' fun e w'' => e = .returned (.bool true) ∧ Below w'.heap.size w' w'' := fun w' hb => by
            rw [← HYL.out]
            exact sameObject_same ⟨⟨y1, y2, y3, y4, y5⟩, B, d⟩ oc0 w' w8.heap.size w8.heap.size hY (HYP8.out.row.below hb) (Row.nil) (Nat.le_trans HYP8.out.le HYP8.out.cap) hb.size hb.size
          have HSO := Lib.hid hso
          obtain ⟨r0, r1, r2, r3, r4⟩ := ObBox.cells HY8.out
          clear he hY hso
          go_upto_region 22 with (go_at_call 30; refine (HSO.out _ (Below.refl _ _)).mono ?_; rintro e w9 ⟨rfl, hb9⟩)
          clear r0 r1 r2 r3 r4
          obtain ⟨c0, c1, c2', c3, c4⟩ := ObBox.cells (HX8.out.below hb9 HX8.out.lt)
          have HB9 := Lib.hid (HB8.out.trans (hb9.mono HB8.out.size))
          have HB89 := Lib.hid hb9
          clear hb9
          go_upto_region 24 with (go_at_call 33; refine (HOI.out _).mono ?_; rintro e w10 ⟨rfl, hb10⟩)
          have hb10' := HB9.out.trans (hb10.mono HB9.out.size)
          have HB10 := Lib.hid hb10'
          obtain ⟨d0, d1, d2, d3, d4⟩ := ObBox.cells (HX8.out.below (HB89.out.trans (hb10.mono HB89.out.size)) HX8.out.lt)
          clear c0 c1 c2' c3 c4
          have HW10 := Lib.hid (HOW.out w10 hok hb10')
          clear hb10'
          go_upto_region 25 with (go_at_call 34; refine HW10.out.mono ?_; rintro e w11 ⟨v, rfl, hown, hb11⟩; obtain ⟨AR, cR, rfl, hoa⟩ := OwnAt.of_own hown)
          have HB11 := Lib.hid (HB10.out.trans (hb11.mono HB10.out.size))
          clear d0 d1 d2 d3 d4
          go_wp2_with fail
          go_ret
          exact ⟨rfl, HB11.out⟩
        | true =>
          have hq := HQ.out.1 rfl
          cases zb with
          | false =>
            have he : rdF h p = (oc0.o, 0, 3) := rdF_none hq (by rw [HZ1.out]; rfl)
            have hY : (⟨y1, y2, y3, y4, y5⟩ : Ob) = oc0.o := by rw [HYO.out, he]
            have h4 : erA = 3 := by rw [HYE.out, he]
            subst h4
            have hso : ∀ w', Below w8.heap.size w8 w' → Calls Try.prog 30 #[.agg #[.int .i64 y1, .int .i64 y2, .int .i64 y3, .string ⟨y4.toArray⟩, .slice B y6 d], .agg #[.int .i64 0, .int .i64 0, .int .i64 0, .string ⟨#[]⟩, .slice none 0 0]] w' fun e w'' => e = .returned (.bool true) ∧ Below w'.heap.size w' w'' := fun w' hb => by
              rw [← HYL.out]
              exact sameObject_same ⟨⟨y1, y2, y3, y4, y5⟩, B, d⟩ oc0 w' w8.heap.size w8.heap.size hY (HYP8.out.row.below hb) (Row.nil) (Nat.le_trans HYP8.out.le HYP8.out.cap) hb.size hb.size
            have HSO := Lib.hid hso
            obtain ⟨r0, r1, r2, r3, r4⟩ := ObBox.cells HY8.out
            clear he hY hso
            go_upto_region 22 with (go_at_call 30; refine (HSO.out _ (Below.refl _ _)).mono ?_; rintro e w9 ⟨rfl, hb9⟩)
            clear r0 r1 r2 r3 r4
            obtain ⟨c0, c1, c2', c3, c4⟩ := ObBox.cells (HX8.out.below hb9 HX8.out.lt)
            have HB9 := Lib.hid (HB8.out.trans (hb9.mono HB8.out.size))
            have HB89 := Lib.hid hb9
            clear hb9
            go_upto_region 24 with (go_at_call 33; refine (HOI.out _).mono ?_; rintro e w10 ⟨rfl, hb10⟩)
            have hb10' := HB9.out.trans (hb10.mono HB9.out.size)
            have HB10 := Lib.hid hb10'
            obtain ⟨d0, d1, d2, d3, d4⟩ := ObBox.cells (HX8.out.below (HB89.out.trans (hb10.mono HB89.out.size)) HX8.out.lt)
            clear c0 c1 c2' c3 c4
            have HW10 := Lib.hid (HOW.out w10 hok hb10')
            clear hb10'
            go_upto_region 25 with (go_at_call 34; refine HW10.out.mono ?_; rintro e w11 ⟨v, rfl, hown, hb11⟩; obtain ⟨AR, cR, rfl, hoa⟩ := OwnAt.of_own hown)
            have HB11 := Lib.hid (HB10.out.trans (hb11.mono HB10.out.size))
            clear d0 d1 d2 d3 d4
            go_wp2_with fail
            go_ret
            exact ⟨rfl, HB11.out⟩
          | true =>
            have he := rdF_some hq HZ1.out
            have hY : (⟨y1, y2, y3, y4, y5⟩ : Ob) = ⟨z1, z2, z3, z4, z5⟩ := by rw [HYO.out, he]
            have h4 : erA = 0 := by rw [HYE.out, he]
            subst h4
            have hso : ∀ w', Below w8.heap.size w8 w' → Calls Try.prog 30 #[.agg #[.int .i64 y1, .int .i64 y2, .int .i64 y3, .string ⟨y4.toArray⟩, .slice B y6 d], .agg #[.int .i64 z1, .int .i64 z2, .int .i64 z3, .string ⟨z4.toArray⟩, .slice ZA z6 zc]] w' fun e w'' => e = .returned (.bool true) ∧ Below w'.heap.size w' w'' := fun w' hb => by
              rw [← HYL.out]
              rw [← HZL.out]
              exact sameObject_same ⟨⟨y1, y2, y3, y4, y5⟩, B, d⟩ ⟨⟨z1, z2, z3, z4, z5⟩, ZA, zc⟩ w' w8.heap.size w8.heap.size hY (HYP8.out.row.below hb) (HZP.out.row.below hb) (Nat.le_trans HYP8.out.le HYP8.out.cap) hb.size hb.size
            have HSO := Lib.hid hso
            obtain ⟨r0, r1, r2, r3, r4⟩ := ObBox.cells HY8.out
            obtain ⟨t0, t1, t2, t3, t4⟩ := ObBox.cells HZ8.out
            clear he hY hso
            go_upto_region 22 with (go_at_call 30; refine (HSO.out _ (Below.refl _ _)).mono ?_; rintro e w9 ⟨rfl, hb9⟩)
            clear r0 r1 r2 r3 r4 t0 t1 t2 t3 t4
            obtain ⟨c0, c1, c2', c3, c4⟩ := ObBox.cells (HX8.out.below hb9 HX8.out.lt)
            have HB9 := Lib.hid (HB8.out.trans (hb9.mono HB8.out.size))
            have HB89 := Lib.hid hb9
            clear hb9
            go_upto_region 24 with (go_at_call 33; refine (HOI.out _).mono ?_; rintro e w10 ⟨rfl, hb10⟩)
            have hb10' := HB9.out.trans (hb10.mono HB9.out.size)
            have HB10 := Lib.hid hb10'
            obtain ⟨d0, d1, d2, d3, d4⟩ := ObBox.cells (HX8.out.below (HB89.out.trans (hb10.mono HB89.out.size)) HX8.out.lt)
            clear c0 c1 c2' c3 c4
            have HW10 := Lib.hid (HOW.out w10 hok hb10')
            clear hb10'
            go_upto_region 25 with (go_at_call 34; refine HW10.out.mono ?_; rintro e w11 ⟨v, rfl, hown, hb11⟩; obtain ⟨AR, cR, rfl, hoa⟩ := OwnAt.of_own hown)
            have HB11 := Lib.hid (HB10.out.trans (hb11.mono HB10.out.size))
            clear d0 d1 d2 d3 d4
            go_wp2_with fail
            go_ret
            exact ⟨rfl, HB11.out⟩
      · have hd : decide (OkO x.o) = true := decide_eq_true hok
        rw [hd] at HOI
        have hRle := wordsF_le hok
        have HUP := Lib.hid hup
        generalize wordsF x.o = R at *
        have d8 : ¬ 4000 < (h.length : Int) + (R.length : Int) := by omega
        clear hd hup
        cases q with
        | false =>
          have hq := HQ.out.2 rfl
          have he : rdF h p = (oc0.o, 0, 4) := (rdF_out hq).1
          have hY : (⟨y1, y2, y3, y4, y5⟩ : Ob) = oc0.o := by rw [HYO.out, he]
          have h4 : erA = 4 := by rw [HYE.out, he]
          subst h4
          have hso : ∀ w', Below w8.heap.size w8 w' → Calls Try.prog 30 #[.agg #[.int .i64 y1, .int .i64 y2, .int .i64 y3, .string ⟨y4.toArray⟩, .slice B y6 d], .agg #[.int .i64 0, .int .i64 0, .int .i64 0, .string ⟨#[]⟩, .slice none 0 0]] w' fun e w'' => e = .returned (.bool true) ∧ Below w'.heap.size w' w'' := fun w' hb => by
            rw [← HYL.out]
            exact sameObject_same ⟨⟨y1, y2, y3, y4, y5⟩, B, d⟩ oc0 w' w8.heap.size w8.heap.size hY (HYP8.out.row.below hb) (Row.nil) (Nat.le_trans HYP8.out.le HYP8.out.cap) hb.size hb.size
          have HSO := Lib.hid hso
          obtain ⟨r0, r1, r2, r3, r4⟩ := ObBox.cells HY8.out
          clear he hY hso
          go_upto_region 22 with (go_at_call 30; refine (HSO.out _ (Below.refl _ _)).mono ?_; rintro e w9 ⟨rfl, hb9⟩)
          clear r0 r1 r2 r3 r4
          obtain ⟨c0, c1, c2', c3, c4⟩ := ObBox.cells (HX8.out.below hb9 HX8.out.lt)
          have HB9 := Lib.hid (HB8.out.trans (hb9.mono HB8.out.size))
          have HB89 := Lib.hid hb9
          clear hb9
          go_upto_region 24 with (go_at_call 33; refine (HOI.out _).mono ?_; rintro e w10 ⟨rfl, hb10⟩)
          have hb10' := HB9.out.trans (hb10.mono HB9.out.size)
          have HB10 := Lib.hid hb10'
          obtain ⟨d0, d1, d2, d3, d4⟩ := ObBox.cells (HX8.out.below (HB89.out.trans (hb10.mono HB89.out.size)) HX8.out.lt)
          clear c0 c1 c2' c3 c4
          have HW10 := Lib.hid (HOW.out w10 hok hb10')
          clear hb10'
          go_upto_region 25 with (go_at_call 34; refine HW10.out.mono ?_; rintro e w11 ⟨v, rfl, hown, hb11⟩; obtain ⟨AR, cR, rfl, hoa⟩ := OwnAt.of_own hown)
          have HB11 := Lib.hid (HB10.out.trans (hb11.mono HB10.out.size))
          clear d0 d1 d2 d3 d4
          have hb811 := (HB89.out.trans (hb10.mono HB89.out.size)).trans (hb11.mono (Nat.le_trans HB89.out.size hb10.size))
          have hal := (Below.refl w11.heap.size w11).alloc (Nat.le_refl _) (.cells #[.slice A h.length c, .slice AR R.length cR] 48)
          have HCAT := Lib.hid (concat_hu w11.heap.size A AR c cR h R (w11.alloc (.cells #[.slice A h.length c, .slice AR R.length cR] 48)) ⟨(Box.new w11 48 #[.slice A h.length c, .slice AR R.length cR]).cell 0, (Box.new w11 48 #[.slice A h.length c, .slice AR R.length cR]).cell 1, ((HHH.out.row.below HB11.out).below (hal.mono HB11.out.size)).more (Nat.le_trans HB11.out.size hal.size), (hoa.row.below hal).more hal.size, HHH.out.none, (fun e => by rcases hoa.form with ⟨_, _, h3⟩ | ⟨g, o, h3⟩; exact h3; rw [h3] at e; cases e), by simp⟩ (by omega) (by omega))
          have HU11 := Lib.hid ((HUP.out.below hb811).below hal)
          have HBA := Lib.hid (HB11.out.trans (hal.mono HB11.out.size))
          have hRl : h.length + R.length ≤ 4000 := by omega
          clear hal hoa hown hb811
          go_wp2_with (first
            | (go_at_call 36; refine HCAT.out.mono ?_; rintro e w12 ⟨v2, rfl, hown2, hb12⟩; obtain ⟨AC, cC, rfl, hoa2⟩ := OwnAt.of_own hown2; have HSW := Lib.hid (sameWords_same AP AC cP cC (h ++ R) _ _ w12 (OwnAt.row (UOwn.at (HU11.out.below hb12))) hoa2.row (by rw [List.length_append]; unfold maxLen; omega)); rw [List.length_append] at HSW ⊢)
            | (go_at_call 35; refine HSW.out.mono ?_; rintro e w13 ⟨rfl, hb13⟩))
          go_ret
          exact ⟨rfl, (HBA.out.trans (hb12.mono HBA.out.size)).trans (hb13.mono (Nat.le_trans HBA.out.size hb12.size))⟩
        | true =>
          have hq := HQ.out.1 rfl
          cases zb with
          | false =>
            have he : rdF h p = (oc0.o, 0, 3) := rdF_none hq (by rw [HZ1.out]; rfl)
            have hY : (⟨y1, y2, y3, y4, y5⟩ : Ob) = oc0.o := by rw [HYO.out, he]
            have h4 : erA = 3 := by rw [HYE.out, he]
            subst h4
            have hso : ∀ w', Below w8.heap.size w8 w' → Calls Try.prog 30 #[.agg #[.int .i64 y1, .int .i64 y2, .int .i64 y3, .string ⟨y4.toArray⟩, .slice B y6 d], .agg #[.int .i64 0, .int .i64 0, .int .i64 0, .string ⟨#[]⟩, .slice none 0 0]] w' fun e w'' => e = .returned (.bool true) ∧ Below w'.heap.size w' w'' := fun w' hb => by
              rw [← HYL.out]
              exact sameObject_same ⟨⟨y1, y2, y3, y4, y5⟩, B, d⟩ oc0 w' w8.heap.size w8.heap.size hY (HYP8.out.row.below hb) (Row.nil) (Nat.le_trans HYP8.out.le HYP8.out.cap) hb.size hb.size
            have HSO := Lib.hid hso
            obtain ⟨r0, r1, r2, r3, r4⟩ := ObBox.cells HY8.out
            clear he hY hso
            go_upto_region 22 with (go_at_call 30; refine (HSO.out _ (Below.refl _ _)).mono ?_; rintro e w9 ⟨rfl, hb9⟩)
            clear r0 r1 r2 r3 r4
            obtain ⟨c0, c1, c2', c3, c4⟩ := ObBox.cells (HX8.out.below hb9 HX8.out.lt)
            have HB9 := Lib.hid (HB8.out.trans (hb9.mono HB8.out.size))
            have HB89 := Lib.hid hb9
            clear hb9
            go_upto_region 24 with (go_at_call 33; refine (HOI.out _).mono ?_; rintro e w10 ⟨rfl, hb10⟩)
            have hb10' := HB9.out.trans (hb10.mono HB9.out.size)
            have HB10 := Lib.hid hb10'
            obtain ⟨d0, d1, d2, d3, d4⟩ := ObBox.cells (HX8.out.below (HB89.out.trans (hb10.mono HB89.out.size)) HX8.out.lt)
            clear c0 c1 c2' c3 c4
            have HW10 := Lib.hid (HOW.out w10 hok hb10')
            clear hb10'
            go_upto_region 25 with (go_at_call 34; refine HW10.out.mono ?_; rintro e w11 ⟨v, rfl, hown, hb11⟩; obtain ⟨AR, cR, rfl, hoa⟩ := OwnAt.of_own hown)
            have HB11 := Lib.hid (HB10.out.trans (hb11.mono HB10.out.size))
            clear d0 d1 d2 d3 d4
            have hb811 := (HB89.out.trans (hb10.mono HB89.out.size)).trans (hb11.mono (Nat.le_trans HB89.out.size hb10.size))
            have hal := (Below.refl w11.heap.size w11).alloc (Nat.le_refl _) (.cells #[.slice A h.length c, .slice AR R.length cR] 48)
            have HCAT := Lib.hid (concat_hu w11.heap.size A AR c cR h R (w11.alloc (.cells #[.slice A h.length c, .slice AR R.length cR] 48)) ⟨(Box.new w11 48 #[.slice A h.length c, .slice AR R.length cR]).cell 0, (Box.new w11 48 #[.slice A h.length c, .slice AR R.length cR]).cell 1, ((HHH.out.row.below HB11.out).below (hal.mono HB11.out.size)).more (Nat.le_trans HB11.out.size hal.size), (hoa.row.below hal).more hal.size, HHH.out.none, (fun e => by rcases hoa.form with ⟨_, _, h3⟩ | ⟨g, o, h3⟩; exact h3; rw [h3] at e; cases e), by simp⟩ (by omega) (by omega))
            have HU11 := Lib.hid ((HUP.out.below hb811).below hal)
            have HBA := Lib.hid (HB11.out.trans (hal.mono HB11.out.size))
            have hRl : h.length + R.length ≤ 4000 := by omega
            clear hal hoa hown hb811
            go_wp2_with (first
              | (go_at_call 36; refine HCAT.out.mono ?_; rintro e w12 ⟨v2, rfl, hown2, hb12⟩; obtain ⟨AC, cC, rfl, hoa2⟩ := OwnAt.of_own hown2; have HSW := Lib.hid (sameWords_same AP AC cP cC (h ++ R) _ _ w12 (OwnAt.row (UOwn.at (HU11.out.below hb12))) hoa2.row (by rw [List.length_append]; unfold maxLen; omega)); rw [List.length_append] at HSW ⊢)
              | (go_at_call 35; refine HSW.out.mono ?_; rintro e w13 ⟨rfl, hb13⟩))
            go_ret
            exact ⟨rfl, (HBA.out.trans (hb12.mono HBA.out.size)).trans (hb13.mono (Nat.le_trans HBA.out.size hb12.size))⟩
          | true =>
            have he := rdF_some hq HZ1.out
            have hY : (⟨y1, y2, y3, y4, y5⟩ : Ob) = ⟨z1, z2, z3, z4, z5⟩ := by rw [HYO.out, he]
            have h4 : erA = 0 := by rw [HYE.out, he]
            subst h4
            have hso : ∀ w', Below w8.heap.size w8 w' → Calls Try.prog 30 #[.agg #[.int .i64 y1, .int .i64 y2, .int .i64 y3, .string ⟨y4.toArray⟩, .slice B y6 d], .agg #[.int .i64 z1, .int .i64 z2, .int .i64 z3, .string ⟨z4.toArray⟩, .slice ZA z6 zc]] w' fun e w'' => e = .returned (.bool true) ∧ Below w'.heap.size w' w'' := fun w' hb => by
              rw [← HYL.out]
              rw [← HZL.out]
              exact sameObject_same ⟨⟨y1, y2, y3, y4, y5⟩, B, d⟩ ⟨⟨z1, z2, z3, z4, z5⟩, ZA, zc⟩ w' w8.heap.size w8.heap.size hY (HYP8.out.row.below hb) (HZP.out.row.below hb) (Nat.le_trans HYP8.out.le HYP8.out.cap) hb.size hb.size
            have HSO := Lib.hid hso
            obtain ⟨r0, r1, r2, r3, r4⟩ := ObBox.cells HY8.out
            obtain ⟨t0, t1, t2, t3, t4⟩ := ObBox.cells HZ8.out
            clear he hY hso
            go_upto_region 22 with (go_at_call 30; refine (HSO.out _ (Below.refl _ _)).mono ?_; rintro e w9 ⟨rfl, hb9⟩)
            clear r0 r1 r2 r3 r4 t0 t1 t2 t3 t4
            obtain ⟨c0, c1, c2', c3, c4⟩ := ObBox.cells (HX8.out.below hb9 HX8.out.lt)
            have HB9 := Lib.hid (HB8.out.trans (hb9.mono HB8.out.size))
            have HB89 := Lib.hid hb9
            clear hb9
            go_upto_region 24 with (go_at_call 33; refine (HOI.out _).mono ?_; rintro e w10 ⟨rfl, hb10⟩)
            have hb10' := HB9.out.trans (hb10.mono HB9.out.size)
            have HB10 := Lib.hid hb10'
            obtain ⟨d0, d1, d2, d3, d4⟩ := ObBox.cells (HX8.out.below (HB89.out.trans (hb10.mono HB89.out.size)) HX8.out.lt)
            clear c0 c1 c2' c3 c4
            have HW10 := Lib.hid (HOW.out w10 hok hb10')
            clear hb10'
            go_upto_region 25 with (go_at_call 34; refine HW10.out.mono ?_; rintro e w11 ⟨v, rfl, hown, hb11⟩; obtain ⟨AR, cR, rfl, hoa⟩ := OwnAt.of_own hown)
            have HB11 := Lib.hid (HB10.out.trans (hb11.mono HB10.out.size))
            clear d0 d1 d2 d3 d4
            have hb811 := (HB89.out.trans (hb10.mono HB89.out.size)).trans (hb11.mono (Nat.le_trans HB89.out.size hb10.size))
            have hal := (Below.refl w11.heap.size w11).alloc (Nat.le_refl _) (.cells #[.slice A h.length c, .slice AR R.length cR] 48)
            have HCAT := Lib.hid (concat_hu w11.heap.size A AR c cR h R (w11.alloc (.cells #[.slice A h.length c, .slice AR R.length cR] 48)) ⟨(Box.new w11 48 #[.slice A h.length c, .slice AR R.length cR]).cell 0, (Box.new w11 48 #[.slice A h.length c, .slice AR R.length cR]).cell 1, ((HHH.out.row.below HB11.out).below (hal.mono HB11.out.size)).more (Nat.le_trans HB11.out.size hal.size), (hoa.row.below hal).more hal.size, HHH.out.none, (fun e => by rcases hoa.form with ⟨_, _, h3⟩ | ⟨g, o, h3⟩; exact h3; rw [h3] at e; cases e), by simp⟩ (by omega) (by omega))
            have HU11 := Lib.hid ((HUP.out.below hb811).below hal)
            have HBA := Lib.hid (HB11.out.trans (hal.mono HB11.out.size))
            have hRl : h.length + R.length ≤ 4000 := by omega
            clear hal hoa hown hb811
            go_wp2_with (first
              | (go_at_call 36; refine HCAT.out.mono ?_; rintro e w12 ⟨v2, rfl, hown2, hb12⟩; obtain ⟨AC, cC, rfl, hoa2⟩ := OwnAt.of_own hown2; have HSW := Lib.hid (sameWords_same AP AC cP cC (h ++ R) _ _ w12 (OwnAt.row (UOwn.at (HU11.out.below hb12))) hoa2.row (by rw [List.length_append]; unfold maxLen; omega)); rw [List.length_append] at HSW ⊢)
              | (go_at_call 35; refine HSW.out.mono ?_; rintro e w13 ⟨rfl, hb13⟩))
            go_ret
            exact ⟨rfl, (HBA.out.trans (hb12.mono HBA.out.size)).trans (hb13.mono (Nat.le_trans HBA.out.size hb12.size))⟩
end Go.Proofs.Ytlnjapbpfhcloaa
