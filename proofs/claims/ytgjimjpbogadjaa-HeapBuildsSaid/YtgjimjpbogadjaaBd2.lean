
/-
  A value built in a heap (heap.build).
-/
import Derived.Test.YtgjimjpbogadjaaBd1
import Derived.Deep.CutBlock
import Derived.Deep.DeepCutAuto
import Derived.Deep.RegionHeld3
import Derived.Deep.LoopGhost
namespace Go.Proofs.Ytgjimjpbogadjaa
open Go.RowKit

def BuildsAt (n : Nat) : Prop := ∀ (x : VC) (v : Val) (h : List Nat) (base : Nat) (A : Option Addr) (c : Nat) (w : World) (S : Nat → Prop), VIn w S n x v → (∀ b, S b → b < base) → HOwn w base A c h → base ≤ w.heap.size → h.length ≤ 4000 → Calls Try.prog 64 #[.slice A h.length c, valV x] w (HRes base A (buildN n h v) .u64 w)
theorem HRes.ok {base : Nat} {A A' : Option Addr} {c' : Nat} {k : IntKind} {h' : List Nat} {n : Nat} {w w' : World} {r : Except Int (List Nat × Nat)} (hr : r = .ok (h', n)) (h1 : HOwn w' base A' c' h') (h2 : Grew A A' w w') : HRes base A r k w (.returned (.tuple #[.slice A' h'.length c', .int k (n : Int), .int .i64 0])) w' := by
  subst hr
  exact ⟨A', c', rfl, h1, h2⟩
theorem HRes.err {base : Nat} {A : Option Addr} {k : IntKind} {er : Int} {w w' : World} {r : Except Int (List Nat × Nat)} (hr : r = .error er) (h1 : Only (fun b => A.map (·.block) = some b) w w') : HRes base A r k w (.returned (.tuple #[.slice none 0 0, .int k 0, .int .i64 er])) w' := by
  subst hr
  exact ⟨h1, rfl⟩

theorem Only.under {S : Nat → Prop} {w w' w'' : World} (h : Only S w w') (k : Below w.heap.size w' w'') : Only S w w'' :=
  ⟨k.os.trans h.os, k.tape.trans h.tape, k.output.trans h.output, Nat.le_trans h.size k.size, fun i hi hne => (k.block i hi).trans (h.block i hi hne)⟩
/-- The state of build's loop: the heap, the object that is being made (block g), its parts. -/
structure BdSt (w wr : World) (base : Nat) (A : Option Addr) (g : Nat) (ki m : Int) (tx : List UInt8) (Aj : Option Addr) (cj : Nat) (hj : List Nat) (Ap : Option Addr) (cp : Nat) (us : List Nat) : Prop where
  own : HOwn wr base Aj cj hj
  grew : Grew A Aj w wr
  box : ObBox wr g 0 ki m tx Ap us.length cp
  parts : HOwn wr w.heap.size Ap cp us
  sepH : ∀ b, Aj.map (·.block) = some b → b ≠ g ∧ Ap.map (·.block) ≠ some b
  sepP : Ap.map (·.block) ≠ some g
  glt : w.heap.size ≤ g
section
variable {w wr w' : World} {base g : Nat} {A Aj Ap : Option Addr} {ki m : Int} {tx : List UInt8} {cj cp : Nat} {hj us : List Nat}
theorem BdSt.alloc (s : BdSt w wr base A g ki m tx Aj cj hj Ap cp us) (o : Obj) : BdSt w (wr.alloc o) base A g ki m tx Aj cj hj Ap cp us :=
  ⟨s.own.alloc o, s.grew.alloc o, s.box.alloc o, s.parts.alloc o, s.sepH, s.sepP, s.glt⟩
theorem BdSt.call (s : BdSt w wr base A g ki m tx Aj cj hj Ap cp us) {A' : Option Addr} {c' : Nat} {h' : List Nat} (ho : HOwn w' base A' c' h') (hg : Grew Aj A' wr w') : BdSt w w' base A g ki m tx A' c' h' Ap cp us :=
  ⟨ho, s.grew.trans hg, hg.only.box s.box (fun e => (s.sepH _ e).1 rfl), s.parts.only hg.only (fun _ hb e => (s.sepH _ e).2 hb), fun b hb => by
    rcases hg.at' b hb with h1 | h1
    · exact s.sepH b h1
    · exact ⟨fun e => by have := s.box.lt; omega, fun e => by have := (s.parts.blk b e).2; omega⟩, s.sepP, s.glt⟩
theorem BdSt.fail (s : BdSt w wr base A g ki m tx Aj cj hj Ap cp us) {o : Obj} (ho : Only (fun b => Aj.map (·.block) = some b) (wr.alloc o) w') : Only (fun b => A.map (·.block) = some b) w w' :=
  (s.grew.trans (A2 := Aj) ⟨((Only.refl _ wr).alloc o).trans ho, fun _ hb => .inl hb⟩).only
theorem BdSt.push (s : BdSt w wr base A g ki m tx Aj cj hj Ap cp us) {A' : Option Addr} {c' u : Nat} (ho : HOwn w' w.heap.size A' c' (us ++ [u])) (hg : Grew Ap A' wr w') : BdSt w (w'.setCell ⟨g, 4, none⟩ (.slice A' (us.length + 1) c')) base A g ki m tx Aj cj hj A' c' (us ++ [u]) := by
  have hfar : A'.map (·.block) ≠ some g := fun e => by
    rcases hg.at' g e with h1 | h1
    · exact s.sepP h1
    · have := s.box.lt; omega
  have hb : Below w.heap.size wr w' := hg.below (Below.refl _ _) s.grew.only.size (fun b hb => (s.parts.blk b hb).1)
  have hbx := (hg.only.box s.box s.sepP).set 4 (.slice A' (us.length + 1) c')
  refine ⟨(s.own.only hg.only (fun b hb e => (s.sepH b hb).2 e)).far (p := ⟨g, 4, none⟩) (fun g1 o1 e => (s.sepH g1 (by rw [e]; rfl)).1) _, ⟨s.grew.only.under (hb.setCell (p := ⟨g, 4, none⟩) s.glt _), fun b hb => s.grew.at' b hb⟩, ?_, ho.far (p := ⟨g, 4, none⟩) (fun g1 o1 e h => hfar (by rw [e]; exact congrArg some h)) _, fun b hb => ⟨(s.sepH b hb).1, fun e => ?_⟩, hfar, s.glt⟩
  · rw [List.length_append]
    exact hbx
  · rcases hg.at' b e with h1 | h1
    · exact (s.sepH b hb).2 h1
    · have := (s.own.blk b hb).2; omega
end

set_option maxRecDepth 100000 in
set_option maxHeartbeats 4000000 in
theorem build_any : ∀ n, BuildsAt n
  | 0 => fun _ _ _ _ _ _ _ _ hx => hx.elim
  | n + 1 => by
    intro x v h base A c w S hx hS hown hbase hlen
    have ih := build_any n
    obtain ⟨k, m, text, VA, len, vcap⟩ := x
    obtain ⟨tx, rfl⟩ : ∃ tx : List UInt8, text = ⟨tx.toArray⟩ := ⟨text.data.toList, rfl⟩
    obtain ⟨l, rfl, hrow⟩ := row_of_VIn hx
    have hk : k = v.kind := hx.1.1
    have hm : m = v.num := hx.1.2.1
    have ht : (⟨tx.toArray⟩ : ByteArray) = v.text := hx.1.2.2.1
    have hl : l.length = v.args.length := hrow.1
    have hcap := hrow.2.2.2.2.1
    have hlc := hrow.2.2.2.1
    have hby := hrow.2.2.2.2.2.2
    unfold maxLen at hcap
    unfold reachBytes at hby
    have HBN := Lib.hid (show buildN (n + 1) h v = if ofB k m ⟨tx.toArray⟩ l.length = true then .ok (h, tagW (tagOf k) m)
      else if kindIx k = 0 ∨ (m ≠ 0 ∧ isNum (kindIx k) = false) then .error 1
      else match foldW (buildN n) h v.args with
        | .error e => .error e
        | .ok (h', us) => match putF h' ⟨0, kindIx k, m, tx, us⟩ with
          | .error e => .error e
          | .ok (h'', p) => .ok (h'', tagW 4 p) by
      rw [buildN]
      unfold wordV
      rw [← hk, ← hm, ← ht, ← hl]
      rfl)
    have HOF := Lib.hid (fun w' => of_any k m ⟨tx.toArray⟩ VA l.length vcap w' (by unfold maxLen; omega))
    have HOWN := Lib.hid hown
    have HROW := Lib.hid hrow
    have HIH := Lib.hid ih
    have HS := Lib.hid hS
    have hcapA := hown.cap_le
    unfold maxLen at hcapA
    generalize ofB k m ⟨tx.toArray⟩ l.length = q at *
    have hb1 := (Below.refl w.heap.size w).alloc (Nat.le_refl _) (.cells #[.int .i64 k, .int .i64 m, .string ⟨tx.toArray⟩, .slice VA l.length vcap] 26)
    have hbx := Box.new w 26 #[.int .i64 k, .int .i64 m, .string ⟨tx.toArray⟩, .slice VA l.length vcap]
    have hsz : (w.alloc (.cells #[.int .i64 k, .int .i64 m, .string ⟨tx.toArray⟩, .slice VA l.length vcap] 26)).heap.size = w.heap.size + 1 := by simp
    clear hx hrow hk hm ht hl ih hown hS
    unfold valV
    dsimp only
    go_enter Try.func64, Try.ntmps64
    go_upto_region 1 with fail
    generalize w.alloc (.cells #[.int .i64 k, .int .i64 m, .string ⟨tx.toArray⟩, .slice VA l.length vcap] 26) = w1 at *
    obtain ⟨c0, c1, c2, c3⟩ := own_cells4 hbx
    have HB1 := Lib.hid hb1
    have HX1 := Lib.hid hbx
    clear hb1 hbx
    go_upto_if 24 with (go_at_call 113; refine (HOF.out _).mono ?_; rintro e w2 ⟨rfl, hb2⟩)
    have HB2 := Lib.hid (HB1.out.trans (hb2.mono (by omega)))
    have HX2 := Lib.hid (HX1.out.below hb2 HX1.out.lt)
    clear c0 c1 c2 c3 hb2 HX1 HB1 HOF
    cases q with
    | true =>
      have HOK := Lib.hid (HRes.ok (base := base) (A := A) (A' := A) (c' := c) (k := .u64) (HBN.out.trans (if_pos rfl)) (HOWN.out.below HB2.out) ((Grew.refl A w).only.below HB2.out |> fun o => ⟨o, fun b hb => .inl hb⟩))
      rw [tagW_int] at HOK
      go_wp2_with fail
      go_ret3
      exact HOK.out
    | false =>
      have hbn := HBN.out
      rw [if_neg (by decide)] at hbn
      have HBN := Lib.hid hbn
      clear hbn
      go_upto_region 5 with (go_at_call 114; refine (hkinds_any _).mono ?_; rintro e w3 ⟨rfl, hb3⟩)
      have hbx3 := HX2.out.below hb3 HX2.out.lt
      have hal := (Below.refl w3.heap.size w3).alloc (Nat.le_refl _) (.cells #[.int .i64 0, .int .i64 2, .int .i64 4, .int .i64 5, .int .i64 7, .int .i64 8] 193)
      have HX4 := Lib.hid (hbx3.alloc (.cells #[.int .i64 0, .int .i64 2, .int .i64 4, .int .i64 5, .int .i64 7, .int .i64 8] 193))
      have HK4 := Lib.hid (Box.new w3 193 #[.int .i64 0, .int .i64 2, .int .i64 4, .int .i64 5, .int .i64 7, .int .i64 8])
      have HB4 := Lib.hid (HB2.out.trans ((hb3.trans (hal.mono hb3.size)).mono HB2.out.size))
      have hg4 : w3.heap.size < (w3.alloc (.cells #[.int .i64 0, .int .i64 2, .int .i64 4, .int .i64 5, .int .i64 7, .int .i64 8] 193)).heap.size := by simp
      generalize w3.alloc (.cells #[.int .i64 0, .int .i64 2, .int .i64 4, .int .i64 5, .int .i64 7, .int .i64 8] 193) = w4 at *
      generalize w3.heap.size = g3 at *
      clear hb3 hbx3 hal HX2 HB2
      have HIX : Hid (∀ w', Below w4.heap.size w4 w' → Calls Try.prog 115 #[.slice (some ⟨g3, 0, none⟩) 6 6, .int .i64 k] w' fun e w'' => e = .returned (.int .i64 (kIdx k)) ∧ w' = w'') := Lib.hid (fun w' hb => index_kinds g3 k w' (HK4.out.below hb hg4))
      have HKI := Lib.hid (kIdx_is k)
      generalize kIdx k = kx at *
      generalize kindIx k = ki at *
      have HSK : Hid (∀ w', Below w4.heap.size w4 w' → Below w4.heap.size w4 w' ∧ w'.cell? ⟨w.heap.size, 0, none⟩ = some (.int .i64 k)) := fun w' hb => ⟨hb, (HX4.out.below hb HX4.out.lt).cell 0⟩
      have hbk0 := Below.refl w4.heap.size w4
      go_region_held3 (fun w' => Below w4.heap.size w4 w' ∧ w'.cell? ⟨w.heap.size, 0, none⟩ = some (.int .i64 k))
        ((first
          | exact HSK.out _ (below_drewX hbk0)
          | go_keep))
        ((first
          | (go_at_call 115; refine (HIX.out _ (show Below w4.heap.size w4 _ ∧ _ by assumption).1).mono ?_; rintro e wk ⟨rfl, rfl⟩)))
      have HX5 := Lib.hid (HX4.out.drew)
      have HB5 := Lib.hid (below_drewX HB4.out)
      have hs5 : g3 < w4.drew.heap.size := hg4
      clear HSK hbk0 HIX HX4 HB4 HK4
      generalize w4.drew = w5 at *
      obtain ⟨c0, c1, c2, c3⟩ := own_cells4 HX5.out
      obtain ⟨bad, hbad⟩ : ∃ bad, bad = decide (kx < 1 ∨ (m ≠ 0 ∧ isNum kx = false)) := ⟨_, rfl⟩
      have HBAD := Lib.hid hbad
      have HK := HKI.out
      have hk5 : kx ≤ 5 := HK.2.2.2
      have hkm : -1 ≤ kx := HK.2.2.1
      clear hbad HK
      go_upto_region 6 with fail
      go_cut [43] (fun v wx => v = .bool bad ∧ w5 = wx)
      case first =>
        by_cases hkx : kx < 1
        · have e : bad = true := by rw [HBAD.out, decide_eq_true_iff]; exact .inl hkx
          subst e
          have d1 : decide (kx < 1) = true := decide_eq_true hkx
          go_wp2_with fail
          go_meet
          exact ⟨rfl, rfl⟩
        · have d1 : decide (kx < 1) = false := decide_eq_false hkx
          by_cases hm0 : m = 0
          · have e : bad = false := by rw [HBAD.out, decide_eq_false_iff_not]; simp [hkx, hm0]
            subst e
            have d2 : (m != 0) = false := by simp [hm0]
            have HM0 := Lib.hid hm0
            clear hm0
            go_wp2_with fail
            go_meet
            exact ⟨rfl, rfl⟩
          · have d2 : (m != 0) = true := by simp [hm0]
            have HM0 := Lib.hid hm0
            clear hm0
            cases hN : isNum kx with
            | true =>
              have e : bad = false := by rw [HBAD.out, decide_eq_false_iff_not]; simp [hkx, hN]
              subst e
              go_wp2_with (go_at_call 116; refine (hasNum_any kx _).mono ?_; rintro e wk ⟨rfl, rfl⟩; rw [hN])
              go_meet
              exact ⟨rfl, rfl⟩
            | false =>
              have e : bad = true := by rw [HBAD.out, decide_eq_true_iff]; exact .inr ⟨HM0.out, hN⟩
              subst e
              go_wp2_with (go_at_call 116; refine (hasNum_any kx _).mono ?_; rintro e wk ⟨rfl, rfl⟩; rw [hN])
              go_meet
              exact ⟨rfl, rfl⟩
      obtain ⟨rfl, rfl⟩ := hcut
      cases bad with
      | true =>
        have HER := Lib.hid (HRes.err (base := base) (A := A) (k := .u64) (HBN.out.trans (if_pos (by
          rcases of_decide_eq_true HBAD.out.symm with h1 | ⟨h1, h2⟩
          · exact .inl (HKI.out.1 h1)
          · rcases Int.lt_or_le kx 1 with h3 | h3
            · exact .inl (HKI.out.1 h3)
            · exact .inr ⟨h1, by rw [HKI.out.2.1 h3]; exact h2⟩))) (Only.of_below HB5.out))
        go_wp2_with fail
        go_ret3
        exact HER.out
      | false =>
        have hgood := of_decide_eq_false HBAD.out.symm
        have hkx : 1 ≤ kx := by omega
        have hki := HKI.out.2.1 hkx
        subst hki
        have hbn := HBN.out
        rw [if_neg (by
          rintro (h1 | h1)
          · omega
          · exact hgood (.inr h1))] at hbn
        have HBN := Lib.hid hbn
        clear hbn hgood HBAD HKI
        go_upto_region 9 with fail
        have hs50 := HB5.out.size
        have hlt6 : w5.heap.size < (w5.alloc (.cells #[.int .i64 0, .int .i64 ki, .int .i64 m, .string ⟨tx.toArray⟩, .slice none 0 0] 139)).heap.size := by simp
        have HST := Lib.hid (show BdSt w (w5.alloc (.cells #[.int .i64 0, .int .i64 ki, .int .i64 m, .string ⟨tx.toArray⟩, .slice none 0 0] 139)) base A w5.heap.size ki m tx A c h none 0 [] from
          ⟨(HOWN.out.below HB5.out).alloc _, ⟨(Only.of_below HB5.out).alloc _, fun b hb => .inl hb⟩, Box.new w5 139 #[.int .i64 0, .int .i64 ki, .int .i64 m, .string ⟨tx.toArray⟩, .slice none 0 0], OwnAt.nil, fun b hb => ⟨by have := (HOWN.out.blk b hb).2; omega, fun e => by cases e⟩, (fun e => by cases e), hs50⟩)
        have hbx6 := HX5.out.alloc (.cells #[.int .i64 0, .int .i64 ki, .int .i64 m, .string ⟨tx.toArray⟩, .slice none 0 0] 139)
        generalize w5.alloc (.cells #[.int .i64 0, .int .i64 ki, .int .i64 m, .string ⟨tx.toArray⟩, .slice none 0 0] 139) = w6 at *
        generalize w5.heap.size = g6 at *
        clear c0 c1 c2 c3 HX5 HB5
        obtain ⟨c0, c1, c2, c3⟩ := own_cells4 hbx6
        clear hbx6
        go_wp2_with fail
        clear c0 c1 c2 c3
        go_loopg [0, 13, 14, 15, 53] l.length (fun gk hv _a _b _c iv wr => ∃ (j : Nat) (Aj : Option Addr) (cj nj : Nat) (hj : List Nat) (Ap : Option Addr) (cp : Nat) (us : List Nat), gk = l.length - j ∧ hv = .slice Aj nj cj ∧ nj = hj.length ∧ iv = .int .i64 j ∧ hj.length ≤ 4000 ∧ FoldSt (buildN n) h v.args j hj us ∧ BdSt w wr base A g6 ki m tx Aj cj hj Ap cp us)
        case atStart => exact ⟨0, A, c, h.length, h, none, 0, [], by omega, rfl, rfl, rfl, hlen, FoldSt.nil _ _ _, HST.out⟩
        case round =>
          clear HST
          obtain ⟨j, Aj, cj, nj, hj, Ap, cp, us, hgk, rfl, rfl, rfl, hj4, hfs, hst⟩ := hrel
          have HGK := Lib.hid hgk
          have HFS := Lib.hid hfs
          have HST := Lib.hid hst
          have hcapj := hst.own.cap_le
          have hcapp := hst.parts.cap_le
          have HUJ := Lib.hid hfs.1
          have hjl : j ≤ l.length := by have := hfs.2.1; have := HROW.out.1; omega
          have hwr := hst.grew.only.size
          have hbb : Below base w wr := hst.grew.below (Below.refl _ _) hbase (fun b hb => (HOWN.out.blk b hb).1)
          unfold maxLen at hcapj hcapp
          clear hgk hfs hst
          by_cases hlt : j < l.length
          · have hrw := HROW.out.below hbb HS.out
            have HV := Lib.hid (hrw.2.2.1 j hlt)
            have hlt' : j < v.args.length := by have := HROW.out.1; omega
            obtain ⟨b, o, rfl, _, e0, e1, e2, e3⟩ := hrw.2.1.all.val hlt vc0
            have HFAIL := Lib.hid (fun e he => HFS.out.fail (e := e) hlt' he)
            have HSTEP := Lib.hid (fun h' u he => HFS.out.step (h' := h') (u := u) hlt' he)
            clear hrw
            generalize l.getD j vc0 = y at *
            generalize v.args.getD j val0 = vy at *
            obtain ⟨yk, ym, yt, yA, yl, yc⟩ := y
            dsimp only at e0 e1 e2 e3
            have hal := (Below.refl wr.heap.size wr).alloc (Nat.le_refl _) (.cells #[.int .i64 yk, .int .i64 ym, .string yt, .slice yA yl yc] 26)
            have hcall := HIH.out ⟨yk, ym, yt, yA, yl, yc⟩ vy hj base Aj cj (wr.alloc (.cells #[.int .i64 yk, .int .i64 ym, .string yt, .slice yA yl yc] 26)) S (HV.out.below (hal.mono (Nat.le_trans hbase hwr)) HS.out) HS.out (HST.out.own.alloc _) (Nat.le_trans hbase (Nat.le_trans hwr hal.size)) hj4
            unfold valV at hcall
            dsimp only at hcall
            unfold HRes at hcall
            have HY := Lib.hid (Box.new wr 26 #[.int .i64 yk, .int .i64 ym, .string yt, .slice yA yl yc])
            cases hr : buildN n hj vy with
            | error er =>
              rw [hr] at hcall
              dsimp only at hcall
              have HC := Lib.hid hcall
              have HER := Lib.hid (HFAIL.out er hr)
              have hne := buildN_err n hj vy er hr
              have b3 : (er != 0) = true := by simp [hne]
              clear hcall hr
              go_wp2_with (go_at_call 64; refine HC.out.mono ?_; rintro e w2 ⟨ho2, rfl⟩)
              go_ret3
              exact HRes.err (HBN.out.trans (by rw [HER.out])) (HST.out.fail ho2)
            | ok p =>
              obtain ⟨h', u⟩ := p
              rw [hr] at hcall
              dsimp only at hcall
              have HC := Lib.hid hcall
              have HSTEP2 := Lib.hid (HSTEP.out h' u hr)
              have hl4 := buildN_len n hj vy h' u hj4 hr
              clear hcall hr HSTEP HFAIL
              go_upto_region 17 with (go_at_call 64; refine HC.out.mono ?_; rintro e w2 ⟨A', c', rfl, ho2, hg2⟩)
              have hst2 := (HST.out.alloc _).call ho2 hg2
              have HST2 := Lib.hid hst2
              have hs2 := hst2.grew.only.size
              obtain ⟨k0, k1, k2, k3, k4⟩ := ObBox.cells hst2.box
              have g4 := hst2.box.frozen 4
              have HROWU : Hid (Row (w2.alloc (.cells #[.int .u64 (u : Int)] 27)) (w2.heap.size + 1) (some ⟨w2.heap.size, 0, none⟩) (flat huC [u])) := Lib.hid (fun _ => ⟨w2.heap.size, 0, rfl, by omega, fun i v hv => by rw [Nat.zero_add]; exact hu_new1 w2 u i v (by simpa [flat] using hv)⟩)
              have HLU := Lib.hid (show (us.length + [u].length) * 8 ≤ 140737488355328 by have := HUJ.out; simp; omega)
              clear hst2 ho2 hg2 HC
              go_wp2_with (at_builtin; go_loud (refine wpList_append_hq rfl (.tmp 68) (.tmp 70) 22 22 rfl Try.underlying22 Try.underlying22 w.heap.size Ap cp us rfl (HST2.out.parts.alloc _) (some ⟨w2.heap.size, 0, none⟩) 1 _ [u] rfl HROWU.out (by simp) HLU.out (by simp; omega) ?_; intro A5 c5 w4 hown5 hg5; have hst4 := ((HST2.out.alloc _).push hown5 hg5); have HST4 := Lib.hid hst4; clear hst4; have hbx4 := hg5.only.box (HST2.out.box.alloc _) HST2.out.sepP; obtain ⟨n0, n1, n2, n3, n4⟩ := ObBox.cells hbx4; have gg4 := hbx4.frozen 4))
              go_roundg (l.length - (j + 1))
              case measure => have := HGK.out; omega
              case rel => exact ⟨j + 1, A', c', _, h', A5, c5, us ++ [u], rfl, rfl, rfl, by go_num, hl4, HSTEP2.out, HST4.out⟩
          · obtain rfl : j = l.length := by omega
            have hdone := HFS.out.done (by have := HROW.out.1; omega)
            have hbn := HBN.out
            rw [hdone] at hbn
            dsimp only at hbn
            have hput := put_q hj ⟨⟨0, ki, m, tx, us⟩, Ap, cp⟩ base Aj cj wr HST.out.own (by omega) (Nat.le_trans hbase hwr) HST.out.parts.row HST.out.parts.nz
            unfold ocV HRes at hput
            dsimp only at hput
            obtain ⟨k0, k1, k2, k3, k4⟩ := ObBox.cells HST.out.box
            cases hp : putF hj ⟨0, ki, m, tx, us⟩ with
            | error er =>
              rw [hp] at hput hbn
              dsimp only at hput hbn
              have HC := Lib.hid hput
              have HBN2 := Lib.hid hbn
              have hne := putF_err hp
              have b3 : (er != 0) = true := by simp [hne]
              clear hput hbn hp hdone
              go_wp2_with (go_at_call 117; refine HC.out.mono ?_; rintro e w2 ⟨ho2, rfl⟩)
              go_ret3
              exact HRes.err HBN2.out (HST.out.grew.trans (A2 := Aj) ⟨ho2, fun _ hb => .inl hb⟩).only
            | ok pp =>
              obtain ⟨h', pw⟩ := pp
              rw [hp] at hput hbn
              dsimp only at hput hbn
              have HC := Lib.hid hput
              have HBN2 := Lib.hid hbn
              have hpl := (putF_len hp).1
              have hval : validB 4 (pw : Int) = true := by
                unfold validB
                rw [if_neg (by decide), if_neg (by decide), if_neg (by decide), decide_eq_true_iff]
                omega
              have HWO := Lib.hid (fun w' => word_ok 4 (pw : Int) w' (by decide) (by decide) hval)
              clear hput hbn hp hdone hval hpl
              go_wp2_with (first
                | (go_at_call 117; refine HC.out.mono ?_; rintro e w2 ⟨A', c', rfl, ho2, hg2⟩)
                | (go_at_call 118; refine (HWO.out _).mono ?_; rintro e wk ⟨rfl, rfl⟩))
              go_ret3
              rw [← tagW_int]
              exact HRes.ok HBN2.out ho2 (HST.out.grew.trans hg2)
end Go.Proofs.Ytgjimjpbogadjaa
