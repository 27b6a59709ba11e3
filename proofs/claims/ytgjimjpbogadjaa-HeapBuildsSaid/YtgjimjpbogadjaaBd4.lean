
/-
  A value built in a heap (roadref3.Built).
-/
import Derived.Test.YtgjimjpbogadjaaBd3
import Derived.Test.YtgjimjpbogadjaaBdMap
namespace Go.Proofs.Ytgjimjpbogadjaa
open Go.RowKit

/-- A heap built anew, handed back. -/
def RBl (r : Except Int (List Nat × Nat)) (T : Nat → Prop) (w : World) (e : Ending) (w' : World) : Prop := Below w.heap.size w w' ∧ match r with
  | .error er => e = .returned (.tuple #[.slice none 0 0, .int .u64 0, .int .i64 er])
  | .ok (h', u) => ∃ A' c', e = .returned (.tuple #[.slice A' h'.length c', .int .u64 (u : Int), .int .i64 0]) ∧ RowS w' (fun b => T b ∨ w.heap.size ≤ b) A' (flat huC h') ∧ (A' = none → c' = 0) ∧ h'.length ≤ c' ∧ c' ≤ maxLen
def RBuildsAt (n : Nat) : Prop := ∀ (x : VC) (v : Val) (h : List Nat) (A : Option Addr) (c : Nat) (w : World) (S T : Nat → Prop), VIn w S n x v → (∀ b, S b → b < w.heap.size) → RowS w T A (flat huC h) → (A = none → c = 0) → h.length ≤ c → c ≤ maxLen → h.length ≤ 4000 → Calls Try.prog 14 #[.slice A h.length c, valV x] w (RBl (buildN n h v) T w)
theorem RBl.ok {T : Nat → Prop} {A' : Option Addr} {c' : Nat} {h' : List Nat} {n : Nat} {w w' : World} {r : Except Int (List Nat × Nat)} (hr : r = .ok (h', n)) (hb : Below w.heap.size w w') (h1 : RowS w' (fun b => T b ∨ w.heap.size ≤ b) A' (flat huC h')) (h2 : A' = none → c' = 0) (h3 : h'.length ≤ c') (h4 : c' ≤ maxLen) : RBl r T w (.returned (.tuple #[.slice A' h'.length c', .int .u64 (n : Int), .int .i64 0])) w' := by
  subst hr
  exact ⟨hb, A', c', rfl, h1, h2, h3, h4⟩
theorem RBl.err {T : Nat → Prop} {er : Int} {w w' : World} {r : Except Int (List Nat × Nat)} (hr : r = .error er) (hb : Below w.heap.size w w') : RBl r T w (.returned (.tuple #[.slice none 0 0, .int .u64 0, .int .i64 er])) w' := by
  subst hr
  exact ⟨hb, rfl⟩
theorem HOwn.rowS {w : World} {base : Nat} {A : Option Addr} {c : Nat} {h : List Nat} {T : Nat → Prop} (s : HOwn w base A c h) : RowS w (fun b => T b ∨ base ≤ b) A (flat huC h) := fun hp => by
  obtain ⟨b, o, e, _, hc⟩ := s.row hp
  subst e
  exact ⟨b, o, rfl, .inr s.lt.1, hc⟩
/-- The state of Built's loop: the heap, the object that is being made (block g), its parts. -/
structure RbSt (w wr : World) (T : Nat → Prop) (g : Nat) (ki m : Int) (tx : List UInt8) (Aj : Option Addr) (cj : Nat) (hj : List Nat) (Ap : Option Addr) (cp : Nat) (us : List Nat) : Prop where
  row : RowS wr (fun b => b < wr.heap.size ∧ b ≠ g ∧ Ap.map (·.block) ≠ some b ∧ (T b ∨ w.heap.size ≤ b)) Aj (flat huC hj)
  nz : Aj = none → cj = 0
  le : hj.length ≤ cj
  cm : cj ≤ maxLen
  below : Below w.heap.size w wr
  box : ObBox wr g 0 ki m tx Ap us.length cp
  parts : HOwn wr w.heap.size Ap cp us
  sepP : Ap.map (·.block) ≠ some g
  glt : w.heap.size ≤ g
section
variable {w wr w' : World} {T : Nat → Prop} {g : Nat} {Aj Ap : Option Addr} {ki m : Int} {tx : List UInt8} {cj cp : Nat} {hj us : List Nat}
theorem RbSt.alloc (s : RbSt w wr T g ki m tx Aj cj hj Ap cp us) (o : Obj) : RbSt w (wr.alloc o) T g ki m tx Aj cj hj Ap cp us :=
  ⟨s.row.keep (fun p hp => World.cell?_alloc_lt wr o p hp.1) (fun b hb => ⟨by simp; omega, hb.2⟩), s.nz, s.le, s.cm, s.below.alloc s.below.size o, s.box.alloc o, s.parts.alloc o, s.sepP, s.glt⟩
theorem RbSt.call (s : RbSt w wr T g ki m tx Aj cj hj Ap cp us) (hb : Below wr.heap.size wr w') {A' : Option Addr} {c' : Nat} {h' : List Nat} (hr : RowS w' (fun b => (b < wr.heap.size ∧ b ≠ g ∧ Ap.map (·.block) ≠ some b ∧ (T b ∨ w.heap.size ≤ b)) ∨ wr.heap.size ≤ b) A' (flat huC h')) (h1 : A' = none → c' = 0) (h2 : h'.length ≤ c') (h3 : c' ≤ maxLen) : RbSt w w' T g ki m tx A' c' h' Ap cp us :=
  ⟨hr.lt.keep (fun _ _ => rfl) (fun b hb => ⟨hb.2, by
      rcases hb.1 with h4 | h4
      · exact h4.2.1
      · have := s.box.lt; omega, fun e => by
      rcases hb.1 with h4 | h4
      · exact h4.2.2.1 e
      · have := (s.parts.blk b e).2; omega, by
      rcases hb.1 with h4 | h4
      · exact h4.2.2.2
      · have := s.below.size; exact .inr (by omega)⟩), h1, h2, h3, s.below.trans (hb.mono s.below.size), s.box.below hb s.box.lt, s.parts.below hb, s.sepP, s.glt⟩
theorem RbSt.push (s : RbSt w wr T g ki m tx Aj cj hj Ap cp us) {A' : Option Addr} {c' u : Nat} (ho : HOwn w' w.heap.size A' c' (us ++ [u])) (hg : Grew Ap A' wr w') : RbSt w (w'.setCell ⟨g, 4, none⟩ (.slice A' (us.length + 1) c')) T g ki m tx Aj cj hj A' c' (us ++ [u]) := by
  have hfar : A'.map (·.block) ≠ some g := fun e => by
    rcases hg.at' g e with h1 | h1
    · exact s.sepP h1
    · have := s.box.lt; omega
  have hb : Below w.heap.size wr w' := hg.below (Below.refl _ _) s.below.size (fun b hb => (s.parts.blk b hb).1)
  have hbx := (hg.only.box s.box s.sepP).set 4 (.slice A' (us.length + 1) c')
  refine ⟨s.row.keep (fun p hp => ?_) (fun b hb => ⟨by have := hg.only.size; simp; omega, hb.2.1, fun e => ?_, hb.2.2.2⟩), s.nz, s.le, s.cm, (s.below.trans hb).setCell (p := ⟨g, 4, none⟩) s.glt _, ?_, ho.far (p := ⟨g, 4, none⟩) (fun g1 o1 e h => hfar (by rw [e]; exact congrArg some h)) _, hfar, s.glt⟩
  · rw [cell_far (q := ⟨g, 4, none⟩) hp.2.1]
    simp only [World.cell?, hg.only.block p.block hp.1 hp.2.2.1]
  · rcases hg.at' b e with h1 | h1
    · exact hb.2.2.1 h1
    · omega
  · rw [List.length_append]
    exact hbx
end

set_option maxRecDepth 100000 in
set_option maxHeartbeats 4000000 in
theorem built_any : ∀ n, RBuildsAt n
  | 0 => fun _ _ _ _ _ _ _ _ hx => hx.elim
  | n + 1 => by
    intro x v h A c w S T hx hS hrow0 hnz0 hle0 hcm0 hlen
    have ih := built_any n
    obtain ⟨k, m, text, VA, len, vcap⟩ := x
    obtain ⟨tx, rfl⟩ : ∃ tx : List UInt8, text = ⟨tx.toArray⟩ := ⟨text.data.toList, rfl⟩
    obtain ⟨l, rfl, hrow⟩ := row_of_VIn hx
    have hk : k = v.kind := hx.1.1
    have hm : m = v.num := hx.1.2.1
    have ht : (⟨tx.toArray⟩ : ByteArray) = v.text := hx.1.2.2.1
    have hl : l.length = v.args.length := hrow.1
    have hcap := hrow.2.2.2.2.1
    have hlc := hrow.2.2.2.1
    have hby := hrow.2.2.2.2.2.2
    unfold maxLen at hcap
    unfold reachBytes at hby
    have HBN := Lib.hid (show buildN (n + 1) h v = if ofB k m ⟨tx.toArray⟩ l.length = true then .ok (h, tagW (tagOf k) m)
      else if kindIx k = 0 ∨ (m ≠ 0 ∧ isNum (kindIx k) = false) then .error 1
      else match foldW (buildN n) h v.args with
        | .error e => .error e
        | .ok (h', us) => match putF h' ⟨0, kindIx k, m, tx, us⟩ with
          | .error e => .error e
          | .ok (h'', p) => .ok (h'', tagW 4 p) by
      rw [buildN]
      unfold wordV
      rw [← hk, ← hm, ← ht, ← hl]
      rfl)
    have HOF := Lib.hid (fun w' => wordOf_any k m ⟨tx.toArray⟩ VA l.length vcap w' (by unfold maxLen; omega))
    have HROW0 := Lib.hid hrow0
    have HNZ0 := Lib.hid hnz0
    have hi64 : I64 k := hx.1.2.2.2.2.2.1
    have HROW := Lib.hid hrow
    have HIH := Lib.hid ih
    have HS := Lib.hid hS
    have HCM0 := Lib.hid hcm0
    unfold maxLen at hcm0
    have HI64 := Lib.hid hi64
    generalize ofB k m ⟨tx.toArray⟩ l.length = q at *
    have hb1 := (Below.refl w.heap.size w).alloc (Nat.le_refl _) (.cells #[.int .i64 k, .int .i64 m, .string ⟨tx.toArray⟩, .slice VA l.length vcap] 26)
    have hbx := Box.new w 26 #[.int .i64 k, .int .i64 m, .string ⟨tx.toArray⟩, .slice VA l.length vcap]
    have hsz : (w.alloc (.cells #[.int .i64 k, .int .i64 m, .string ⟨tx.toArray⟩, .slice VA l.length vcap] 26)).heap.size = w.heap.size + 1 := by simp
    clear hx hrow hk hm ht hl ih hrow0 hnz0 hS hi64
    unfold valV
    dsimp only
    go_enter Try.func14, Try.ntmps14
    go_upto_region 1 with fail
    generalize w.alloc (.cells #[.int .i64 k, .int .i64 m, .string ⟨tx.toArray⟩, .slice VA l.length vcap] 26) = w1 at *
    obtain ⟨c0, c1, c2, c3⟩ := own_cells4 hbx
    have HB1 := Lib.hid hb1
    have HX1 := Lib.hid hbx
    clear hb1 hbx
    go_upto_if 22 with (go_at_call 70; refine (HOF.out _).mono ?_; rintro e w2 ⟨rfl, hb2⟩)
    have HB2 := Lib.hid (HB1.out.trans (hb2.mono (by omega)))
    have HX2 := Lib.hid (HX1.out.below hb2 HX1.out.lt)
    clear c0 c1 c2 c3 hb2 HX1 HB1 HOF
    cases q with
    | true =>
      have HOK := Lib.hid (RBl.ok (T := T) (w := w) (w' := w2) (HBN.out.trans (if_pos rfl)) HB2.out (HROW0.out.lt.keep (fun p hp => HB2.out.cell hp.2) (fun b hb => .inl hb.1)) HNZ0.out hle0 HCM0.out)
      rw [tagW_int] at HOK
      go_wp2_with fail
      go_ret3
      exact HOK.out
    | false =>
      have hbn := HBN.out
      rw [if_neg (by decide)] at hbn
      have HBN := Lib.hid hbn
      clear hbn
      rw [if_neg (show ¬ (false = true) by decide)]
      go_upto_region 4 with fail
      have hbx2 := HX2.out
      have hgx : w.heap.size < w2.heap.size := HX2.out.lt
      clear HX2
      obtain ⟨m1, m2, m3, m4, m5, r1, r2, r3, r4, r5, hb5, hlook⟩ := map5 w2 2 1 4 2 5 3 7 4 8 5 (by unfold I64; omega) (by unfold I64; omega) (by unfold I64; omega) (by unfold I64; omega) (by unfold I64; omega)
      have hlk := hlook k HI64.out
      have HX5 := Lib.hid (hbx2.below hb5 hbx2.lt)
      have HB5 := Lib.hid (HB2.out.trans (hb5.mono HB2.out.size))
      have hkd : (if k = 8 then (5 : Int) else if k = 7 then 4 else if k = 5 then 3 else if k = 4 then 2 else if k = 2 then 1 else 0) = kindIx k := by
        unfold kindIx
        by_cases e2 : k = 2
        · subst e2; rfl
        by_cases e4 : k = 4
        · subst e4; rfl
        by_cases e5 : k = 5
        · subst e5; rfl
        by_cases e7 : k = 7
        · subst e7; rfl
        · simp [e2, e4, e5, e7]
      rw [hkd] at hlk
      have HKB := Lib.hid (show 0 ≤ kindIx k ∧ kindIx k ≤ 5 by unfold kindIx; (repeat' split) <;> omega)
      generalize kindIx k = ki at *
      obtain ⟨c0, c1, c2, c3⟩ := own_cells4 HX5.out
      have hmm := @run_makeMap_plain Try.prog
      clear hlook hkd hbx2 hb5
      go_upto_region 5 with fail
      have hki5 := HKB.out.2
      have hki0 := HKB.out.1
      clear r1 r2 r3 r4 r5 hlk hmm
      obtain ⟨bad, hbad⟩ : ∃ bad, bad = decide (ki = 0 ∨ (m ≠ 0 ∧ isNum ki = false)) := ⟨_, rfl⟩
      have HBAD := Lib.hid hbad
      clear hbad
      go_cut [44] (fun v wx => v = .bool bad ∧ m5 = wx)
      case first =>
        by_cases hkx : ki = 0
        · subst hkx
          have e : bad = true := by rw [HBAD.out, decide_eq_true_iff]; exact .inl rfl
          subst e
          go_wp2_with fail
          go_meet
          exact ⟨rfl, rfl⟩
        · have d1 : (ki == 0) = false := by simp [hkx]
          by_cases hm0 : m = 0
          · have e : bad = false := by rw [HBAD.out, decide_eq_false_iff_not]; simp [hkx, hm0]
            subst e
            have d2 : (m != 0) = false := by simp [hm0]
            have HM0 := Lib.hid hm0
            have HKX := Lib.hid hkx
            clear hm0 hkx
            go_wp2_with fail
            go_meet
            exact ⟨rfl, rfl⟩
          · have d2 : (m != 0) = true := by simp [hm0]
            by_cases h1 : ki = 1
            · subst h1
              have e : bad = false := by rw [HBAD.out, decide_eq_false_iff_not]; simp [isNum]
              subst e
              clear hm0
              go_wp2_with fail
              go_meet
              exact ⟨rfl, rfl⟩
            · by_cases h4 : ki = 4
              · subst h4
                have e : bad = false := by rw [HBAD.out, decide_eq_false_iff_not]; simp [isNum]
                subst e
                clear hm0
                go_wp2_with fail
                go_meet
                exact ⟨rfl, rfl⟩
              · have d3 : (ki != 1) = true := by simp [h1]
                have d4 : (ki != 4) = true := by simp [h4]
                have e : bad = true := by rw [HBAD.out, decide_eq_true_iff]; exact .inr ⟨hm0, by simp [isNum, h1, h4]⟩
                subst e
                clear hm0 hkx h1 h4
                go_wp2_with fail
                go_meet
                exact ⟨rfl, rfl⟩
      obtain ⟨rfl, rfl⟩ := hcut
      cases bad with
      | true =>
        have HER := Lib.hid (RBl.err (T := T) (HBN.out.trans (if_pos (of_decide_eq_true HBAD.out.symm))) HB5.out)
        go_wp2_with fail
        go_ret3
        exact HER.out
      | false =>
        have hgood := of_decide_eq_false HBAD.out.symm
        have hbn := HBN.out
        rw [if_neg hgood] at hbn
        have HBN := Lib.hid hbn
        clear hbn hgood HBAD
        go_upto_region 8 with fail
        have hs50 := HB5.out.size
        have HST := Lib.hid (show RbSt w (m5.alloc (.cells #[.int .i64 0, .int .i64 ki, .int .i64 m, .string ⟨tx.toArray⟩, .slice none 0 0] 139)) T m5.heap.size ki m tx A c h none 0 [] from
          ⟨HROW0.out.lt.keep (fun p hp => (World.cell?_alloc_lt m5 _ p (Nat.lt_of_lt_of_le hp.2 hs50)).trans (HB5.out.cell hp.2)) (fun b hb => ⟨by simp; omega, by omega, (fun e => by cases e), .inl hb.1⟩), HNZ0.out, hle0, HCM0.out, HB5.out.alloc hs50 _, Box.new m5 139 #[.int .i64 0, .int .i64 ki, .int .i64 m, .string ⟨tx.toArray⟩, .slice none 0 0], OwnAt.nil, (fun e => by cases e), hs50⟩)
        have hbx6 := HX5.out.alloc (.cells #[.int .i64 0, .int .i64 ki, .int .i64 m, .string ⟨tx.toArray⟩, .slice none 0 0] 139)
        generalize m5.alloc (.cells #[.int .i64 0, .int .i64 ki, .int .i64 m, .string ⟨tx.toArray⟩, .slice none 0 0] 139) = w6 at *
        generalize m5.heap.size = g6 at *
        clear c0 c1 c2 c3 HX5 HB5
        obtain ⟨c0, c1, c2, c3⟩ := own_cells4 hbx6
        clear hbx6
        go_wp2_with fail
        clear c0 c1 c2 c3
        go_loopg [0, 12, 13, 14, 15, 54] l.length (fun gk hv _a _z _b _c iv wr => ∃ (j : Nat) (Aj : Option Addr) (cj nj : Nat) (hj : List Nat) (Ap : Option Addr) (cp : Nat) (us : List Nat), gk = l.length - j ∧ hv = .slice Aj nj cj ∧ nj = hj.length ∧ iv = .int .i64 j ∧ hj.length ≤ 4000 ∧ FoldSt (buildN n) h v.args j hj us ∧ RbSt w wr T g6 ki m tx Aj cj hj Ap cp us)
        case atStart => exact ⟨0, A, c, h.length, h, none, 0, [], by omega, rfl, rfl, rfl, hlen, FoldSt.nil _ _ _, HST.out⟩
        case round =>
          clear HST
          obtain ⟨j, Aj, cj, nj, hj, Ap, cp, us, hgk, rfl, rfl, rfl, hj4, hfs, hst⟩ := hrel
          have HGK := Lib.hid hgk
          have HFS := Lib.hid hfs
          have HST := Lib.hid hst
          have hcapj := hst.cm
          have hcaple := hst.le
          have hcapp := hst.parts.cap_le
          have HUJ := Lib.hid hfs.1
          have hjl : j ≤ l.length := by have := hfs.2.1; have := HROW.out.1; omega
          have hwr := hst.below.size
          have hbb := hst.below
          unfold maxLen at hcapj hcapp
          clear hgk hfs hst
          by_cases hlt : j < l.length
          · have hrw := HROW.out.below hbb HS.out
            have HV := Lib.hid (hrw.2.2.1 j hlt)
            have hlt' : j < v.args.length := by have := HROW.out.1; omega
            obtain ⟨b, o, rfl, _, e0, e1, e2, e3⟩ := hrw.2.1.all.val hlt vc0
            have HFAIL := Lib.hid (fun e he => HFS.out.fail (e := e) hlt' he)
            have HSTEP := Lib.hid (fun h' u he => HFS.out.step (h' := h') (u := u) hlt' he)
            clear hrw
            generalize l.getD j vc0 = y at *
            generalize v.args.getD j val0 = vy at *
            obtain ⟨yk, ym, yt, yA, yl, yc⟩ := y
            dsimp only at e0 e1 e2 e3
            have hal := (Below.refl wr.heap.size wr).alloc (Nat.le_refl _) (.cells #[.int .i64 yk, .int .i64 ym, .string yt, .slice yA yl yc] 26)
            have hst1 := HST.out.alloc (.cells #[.int .i64 yk, .int .i64 ym, .string yt, .slice yA yl yc] 26)
            have hcall := HIH.out ⟨yk, ym, yt, yA, yl, yc⟩ vy hj Aj cj (wr.alloc (.cells #[.int .i64 yk, .int .i64 ym, .string yt, .slice yA yl yc] 26)) S _ (HV.out.below (hal.mono hwr) HS.out) (fun b hb => Nat.lt_of_lt_of_le (HS.out b hb) (Nat.le_trans hwr hal.size)) hst1.row hst1.nz hst1.le hst1.cm hj4
            unfold valV at hcall
            dsimp only at hcall
            unfold RBl at hcall
            have HST1 := Lib.hid hst1
            have HY := Lib.hid (Box.new wr 26 #[.int .i64 yk, .int .i64 ym, .string yt, .slice yA yl yc])
            clear hst1
            cases hr : buildN n hj vy with
            | error er =>
              rw [hr] at hcall
              dsimp only at hcall
              have HC := Lib.hid hcall
              have HER := Lib.hid (HFAIL.out er hr)
              have hne := buildN_err n hj vy er hr
              have b3 : (er != 0) = true := by simp [hne]
              clear hcall hr
              go_wp2_with (go_at_call 14; refine HC.out.mono ?_; rintro e w2 ⟨ho2, rfl⟩)
              go_ret3
              exact RBl.err (HBN.out.trans (by rw [HER.out])) (HST1.out.below.trans (ho2.mono HST1.out.below.size))
            | ok p =>
              obtain ⟨h', u⟩ := p
              rw [hr] at hcall
              dsimp only at hcall
              have HC := Lib.hid hcall
              have HSTEP2 := Lib.hid (HSTEP.out h' u hr)
              have hl4 := buildN_len n hj vy h' u hj4 hr
              clear hcall hr HSTEP HFAIL
              go_upto_region 14 with (go_at_call 14; refine HC.out.mono ?_; rintro e w2 ⟨hb2, A', c', rfl, hr2, hn2, hl2, hm2⟩)
              have hst2 := HST1.out.call hb2 hr2 hn2 hl2 hm2
              have HST2 := Lib.hid hst2
              have hs2 := hst2.below.size
              obtain ⟨k0, k1, k2, k3, k4⟩ := ObBox.cells hst2.box
              have g4 := hst2.box.frozen 4
              have HROWU : Hid (Row (w2.alloc (.cells #[.int .u64 (u : Int)] 27)) (w2.heap.size + 1) (some ⟨w2.heap.size, 0, none⟩) (flat huC [u])) := Lib.hid (fun _ => ⟨w2.heap.size, 0, rfl, by omega, fun i v hv => by rw [Nat.zero_add]; exact hu_new1 w2 u i v (by simpa [flat] using hv)⟩)
              have HLU := Lib.hid (show (us.length + [u].length) * 8 ≤ 140737488355328 by have := HUJ.out; simp; omega)
              clear hst2 hb2 hr2 hn2 HC
              go_wp2_with (at_builtin; go_loud (refine wpList_append_hq rfl (.tmp 70) (.tmp 72) 22 22 rfl Try.underlying22 Try.underlying22 w.heap.size Ap cp us rfl (HST2.out.parts.alloc _) (some ⟨w2.heap.size, 0, none⟩) 1 _ [u] rfl HROWU.out (by simp) HLU.out (by simp; omega) ?_; intro A5 c5 w4 hown5 hg5; have hst4 := ((HST2.out.alloc _).push hown5 hg5); have HST4 := Lib.hid hst4; clear hst4; have hbx4 := hg5.only.box (HST2.out.box.alloc _) HST2.out.sepP; obtain ⟨n0, n1, n2, n3, n4⟩ := ObBox.cells hbx4; have gg4 := hbx4.frozen 4))
              go_roundg (l.length - (j + 1))
              case measure => have := HGK.out; omega
              case rel => exact ⟨j + 1, A', c', _, h', A5, c5, us ++ [u], rfl, rfl, rfl, by go_num, hl4, HSTEP2.out, HST4.out⟩
          · obtain rfl : j = l.length := by omega
            have hdone := HFS.out.done (by have := HROW.out.1; omega)
            have hbn := HBN.out
            rw [hdone] at hbn
            dsimp only at hbn
            unfold putF at hbn
            obtain ⟨k0, k1, k2, k3, k4⟩ := ObBox.cells HST.out.box
            have hoi := objectIs_any ⟨⟨0, ki, m, tx, us⟩, Ap, cp⟩ wr
            unfold ocV at hoi
            dsimp only at hoi
            by_cases hok : OkO ⟨0, ki, m, tx, us⟩
            · rw [if_pos hok] at hbn
              rw [decide_eq_true hok] at hoi
              have HOI := Lib.hid hoi
              have hRle := wordsF_le hok
              have HOW := Lib.hid (fun w' hb => objectWords_any ⟨⟨0, ki, m, tx, us⟩, Ap, cp⟩ w' hok ((HST.out.parts.row.below hb).more hb.size) HST.out.parts.nz)
              unfold ocV at HOW
              dsimp only at HOW
              generalize wordsF ⟨0, ki, m, tx, us⟩ = R at *
              clear hoi hdone
              go_upto_region 18 with (go_at_call 71; refine HOI.out.mono ?_; rintro e w2 ⟨rfl, hb2⟩)
              have HBX2 := Lib.hid (HST.out.box.below hb2 HST.out.box.lt)
              have HW2 := Lib.hid (HOW.out w2 hb2)
              have HB2' := Lib.hid hb2
              clear k0 k1 k2 k3 k4 hb2
              obtain ⟨k0, k1, k2, k3, k4⟩ := ObBox.cells HBX2.out
              go_upto_region 19 with (go_at_call 72; refine HW2.out.mono ?_; rintro e w3 ⟨vR, rfl, hown3, hb3⟩; obtain ⟨AR, cR, rfl, hoaR⟩ := OwnAt.of_own hown3)
              have hb23 := HB2'.out.trans (hb3.mono HB2'.out.size)
              have HB3 := Lib.hid (HST.out.below.trans (hb23.mono hwr))
              have HRJ := Lib.hid (HST.out.row.all.below hb23)
              have HRR := Lib.hid hoaR.row
              have HRN := Lib.hid (HOwn.nz hoaR)
              clear k0 k1 k2 k3 k4 hb3 hown3 hoaR hb23
              by_cases hbig : 4000 < hj.length + R.length
              · rw [if_pos hbig] at hbn
                have HBN2 := Lib.hid hbn
                have d8 : 4000 < (hj.length : Int) + (R.length : Int) := by omega
                clear hbn
                go_wp2_with fail
                go_ret3
                exact RBl.err HBN2.out HB3.out
              · rw [if_neg hbig] at hbn
                dsimp only at hbn
                have HBN2 := Lib.hid hbn
                have d8 : ¬ 4000 < (hj.length : Int) + (R.length : Int) := by omega
                have hs3 := HB3.out.size
                have hmaxj : hj.length * 8 ≤ 140737488355328 := by omega
                clear hbn
                go_wp2_with (first
                  | (at_builtin; refine wpList_append_hu rfl (.const (.slice none 0 0)) (.tmp 87) 22 22 rfl Try.underlying22 Try.underlying22 w.heap.size (.slice none 0 0) [] rfl (World.ownsRow_nil _ _ _ _) Aj cj _ hj rfl HRJ.out HST.out.nz (by simp; omega) hs3 ?_; intro v4 w4 hown4 hg4; have hr4 := HRR.out.below ((Below.refl w3.heap.size w3).grown hg4 (Nat.le_refl _) (fun q hq => by cases hq)); have hb4 := HB3.out.grown hg4 hs3 (fun q hq => by cases hq); have hs4 := Nat.le_trans hs3 hg4.size)
                  | (at_builtin; go_loud (refine wpList_append_hu rfl (.tmp 88) (.tmp 89) 22 22 rfl Try.underlying22 Try.underlying22 w.heap.size v4 ([] ++ hj) rfl hown4 AR cR _ R rfl hr4 HRN.out (by simp; omega) hs4 ?_; intro v5 w5 hown5 hg5; have hb5 := hb4.grown hg5 hs4 (fun q hq => (World.ownsRow.lt hown4 q hq).1); rw [List.nil_append] at hown5; obtain ⟨A5, c5, rfl, hq5⟩ := OwnAt.of_own hown5))
                  | (go_at_call 73; refine (tagWord_any 4 _ _ (by omega) (by omega)).mono ?_; rintro e wk ⟨rfl, rfl⟩))
                go_ret3
                have hfin := RBl.ok (T := T) HBN2.out hb5 (HOwn.rowS (T := T) hq5) (HOwn.nz hq5) hq5.cap_le.1 hq5.cap_le.2
                rw [tagW_int, List.length_append] at hfin
                first
                  | exact hfin
                  | (rw [List.length_append]; exact hfin)
            · rw [if_neg hok] at hbn
              rw [decide_eq_false hok] at hoi
              have HOI := Lib.hid hoi
              have HBN2 := Lib.hid hbn
              clear hoi hdone hbn
              go_wp2_with (go_at_call 71; refine HOI.out.mono ?_; rintro e w2 ⟨rfl, hb2⟩)
              go_ret3
              exact RBl.err HBN2.out (HST.out.below.trans (hb2.mono hwr))
end Go.Proofs.Ytgjimjpbogadjaa
