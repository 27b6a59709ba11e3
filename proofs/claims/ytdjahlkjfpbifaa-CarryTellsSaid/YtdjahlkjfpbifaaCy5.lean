
/-
  A word copied between heaps, the reference's way (roadref3.Carried).
-/
import Derived.Test.YtdjahlkjfpbifaaCy4
import Derived.Test.YtdjahlkjfpbifaaHp3
import Derived.IntWalk
import Derived.Deep.CutBlock
import Derived.Deep.DeepCutAuto
import Derived.Deep.RegionHeld3
import Derived.Deep.RegionLaw
import Derived.Deep.LoopGhost
namespace Go.Proofs.Ytdjahlkjfpbifaa
open Go.RowKit

set_option maxRecDepth 100000 in
set_option maxHeartbeats 4000000 in
theorem carried_early (f : Nat → CSt → Except Int (Nat × CSt)) (deep : Bool) (u : Nat) (s : CSt) (gm gc : Nat) (Af : Option Addr) (cf : Nat) (g : List Nat) (At : Option Addr) (ct : Nat) (level : Int) (w : World) (hu : u < 18446744073709551616) (hst : RSt w gm gc Af cf g At ct s)
    (hE : readB (u : Int) = false ∨ (u : Int) % 8 ≠ 4 ∨ ∃ c, s.mv (readN (u : Int)) = some c) :
    Calls Try.prog 40 #[.slice Af g.length cf, .slice At s.h.length ct, .int .u64 (u : Int), .int .i64 level, .map (some gm), .map (some gc)] w (CrPost gm gc Af cf g At (carStep g f deep u s) w) := by
  have hform := carStep_form g f deep u s
  have hmp := hst.mp
  have HST := Lib.hid hst
  have hrd := fun w' => tagRead_any (u : Int) w' (nat_u64 hu).1 (nat_u64 hu).2
  have hni := readN_i64 (u : Int)
  generalize carStep g f deep u s = r at *
  clear hst
  cases hrb : readB (u : Int) with
  | false =>
    rw [hrb, if_pos rfl] at hform
    rw [hrb] at hrd
    simp only [Bool.false_eq_true, if_false] at hrd
    have HRD := Lib.hid hrd
    have HF := Lib.hid hform
    clear hrd hform hE hmp hrb hni
    go_enter Try.func40, Try.ntmps40
    go_wp2_with fail
    refine (HRD.out _).mono ?_
    rintro e w1 ⟨rfl, rfl⟩
    go_wp2_with fail
    go_ret3
    exact CrPost.err HF.out (Only.refl _ _)
  | true =>
    rw [hrb, if_neg (by decide)] at hform
    rw [hrb] at hrd hE
    simp only [if_true] at hrd
    by_cases h4 : (u : Int) % 8 ≠ 4
    · rw [if_pos h4] at hform
      have b4 : ((u : Int) % 8 != 4) = true := by simpa using h4
      have HRD := Lib.hid hrd
      have HF := Lib.hid hform
      clear hrd hform hE hmp hrb hni h4
      generalize (u : Int) % 8 = t at *
      go_enter Try.func40, Try.ntmps40
      go_wp2_with fail
      refine (HRD.out _).mono ?_
      rintro e w1 ⟨rfl, rfl⟩
      go_wp2_with fail
      go_ret3
      exact CrPost.same HF.out HST.out
    · rw [if_neg h4] at hform
      have h4' : (u : Int) % 8 = 4 := by simpa using h4
      rw [h4'] at hrd
      obtain ⟨c, hc⟩ : ∃ c, s.mv (readN (u : Int)) = some c := by
        rcases hE with h | h | h
        · cases h
        · exact absurd h h4
        · exact h
      rw [hc] at hform
      dsimp only at hform
      generalize readN (u : Int) = n at *
      have hlk := hmp.look_ok ints_keyed Try.underlying99 (zero_u64C w) (int_key hni)
      unfold mvM at hlk
      rw [hc] at hlk
      simp only [Option.map_some, Option.getD_some, Option.isSome_some] at hlk
      have HRD := Lib.hid hrd
      have HF := Lib.hid hform
      clear hrd hform hE hmp hrb hni h4 h4' hc
      go_enter Try.func40, Try.ntmps40
      go_wp2_with fail
      refine (HRD.out _).mono ?_
      rintro e w1 ⟨rfl, rfl⟩
      go_wp2_with fail
      go_ret3
      exact CrPost.same HF.out HST.out

set_option maxRecDepth 100000 in
set_option maxHeartbeats 4000000 in
theorem carried_deep (u : Nat) (s : CSt) (gm gc : Nat) (Af : Option Addr) (cf : Nat) (g : List Nat) (At : Option Addr) (ct : Nat) (w : World) (hu : u < 18446744073709551616) (hst : RSt w gm gc Af cf g At ct s)
    (hrb : readB (u : Int) = true) (h4 : (u : Int) % 8 = 4) (hm : s.mv (readN (u : Int)) = none) :
    Calls Try.prog 40 #[.slice Af g.length cf, .slice At s.h.length ct, .int .u64 (u : Int), .int .i64 41, .map (some gm), .map (some gc)] w (CrPost gm gc Af cf g At (carF g 0 u s) w) := by
  rw [carF_zero]
  have hform := carStep_form g (fun _ _ => .error 2) true u s
  rw [hrb, if_neg (by decide), if_neg (by simpa using h4), hm] at hform
  dsimp only at hform
  rw [if_pos rfl] at hform
  have hrd := fun w' => tagRead_any (u : Int) w' (nat_u64 hu).1 (nat_u64 hu).2
  rw [hrb] at hrd
  simp only [if_true] at hrd
  rw [h4] at hrd
  have hni := readN_i64 (u : Int)
  have hlk := hst.mp.look_ok ints_keyed Try.underlying99 (zero_u64C w) (int_key hni)
  unfold mvM at hlk
  rw [hm] at hlk
  simp only [Option.map_none, Option.getD_none, Option.isSome_none] at hlk
  generalize readN (u : Int) = n at *
  generalize carStep g (fun _ _ => .error 2) true u s = r at *
  have HRD := Lib.hid hrd
  have HF := Lib.hid hform
  clear hrd hform hst hrb h4 hm hni
  go_enter Try.func40, Try.ntmps40
  go_wp2_with fail
  refine (HRD.out _).mono ?_
  rintro e w1 ⟨rfl, rfl⟩
  go_wp2_with fail
  go_ret3
  exact CrPost.err HF.out (Only.refl _ _)

set_option maxRecDepth 100000 in
set_option maxHeartbeats 8000000 in
theorem carried_main (d : Nat) (IH : CarriesAt d) (u : Nat) (s : CSt) (gm gc : Nat) (Af : Option Addr) (cf : Nat) (g : List Nat) (At : Option Addr) (ct : Nat) (level : Int) (w : World) (hu : u < 18446744073709551616) (hst : RSt w gm gc Af cf g At ct s)
    (hl : level + ((d + 1 : Nat) : Int) = 41) (hd : d + 1 ≤ 40) (hrb : readB (u : Int) = true) (h4 : (u : Int) % 8 = 4) (hm : s.mv (readN (u : Int)) = none) :
    Calls Try.prog 40 #[.slice Af g.length cf, .slice At s.h.length ct, .int .u64 (u : Int), .int .i64 level, .map (some gm), .map (some gc)] w (CrPost gm gc Af cf g At (carF g (d + 1) u s) w) := by
  rw [carF_succ]
  have hform := carStep_form g (carF g d) false u s
  rw [hrb, if_neg (by decide), if_neg (by simpa using h4), hm] at hform
  dsimp only at hform
  rw [if_neg (by decide)] at hform
  have hrd := fun w' => tagRead_any (u : Int) w' (nat_u64 hu).1 (nat_u64 hu).2
  rw [hrb] at hrd
  simp only [if_true] at hrd
  rw [h4] at hrd
  have hni := readN_i64 (u : Int)
  have hn0 : 0 ≤ readN (u : Int) := by
    have h := hrb
    unfold readB at h
    rw [h4] at h
    unfold validB at h
    simp at h
    exact h.1
  have hlk := hst.mp.look_ok ints_keyed Try.underlying99 (zero_u64C w) (int_key hni)
  unfold mvM at hlk
  rw [hm] at hlk
  simp only [Option.map_none, Option.getD_none, Option.isSome_none] at hlk
  generalize readN (u : Int) = n at *
  generalize hr : carStep g (carF g d) false u s = r at *
  have hgl : g.length ≤ 9223372036854775807 := by have h1 := hst.hf.le; have h2 := hst.hf.cap; unfold maxLen at h2; omega
  have HAT := Lib.hid (objectAt_any Af cf g n w hst.hf)
  have HPX := Lib.hid (parts_fit (h := g) (p := n) hst.hf.fit)
  have HGOOD := Lib.hid (carF_good hst.hf.fit (d + 1) u s)
  rw [carF_succ, hr] at HGOOD
  have HGD := Lib.hid (carF_good hst.hf.fit d)
  have HRD := Lib.hid hrd
  have HST0 := Lib.hid hst
  have HNI := Lib.hid hni
  have dl : decide (40 < level) = false := by simp; omega
  have hlv1 : 0 < level := by omega
  have hlv2 : level < 41 := by omega
  by_cases hin : (g.length : Int) ≤ n
  · obtain ⟨e1, _⟩ := rdF_out (h := g) (p := n) (.inr hin)
    rw [e1] at hform
    dsimp only at hform
    rw [if_pos (by decide)] at hform
    have HF := Lib.hid hform
    have d2 : decide ((g.length : Int) ≤ n) = true := decide_eq_true hin
    clear hrd hform hst hrb h4 hm hni hr e1 hin
    go_enter Try.func40, Try.ntmps40
    go_wp2_with fail
    refine (HRD.out _).mono ?_
    rintro e w1 ⟨rfl, rfl⟩
    go_wp2_with fail
    go_ret3
    exact CrPost.err HF.out (Only.refl _ _)
  have hio : ¬ (n < 0 ∨ (g.length : Int) ≤ n) := by omega
  have d2 : decide ((g.length : Int) ≤ n) = false := decide_eq_false hin
  have HF := Lib.hid hform
  have HNO := Lib.hid (fun e => rdF_none (h := g) hio e)
  have HSO := Lib.hid (fun o e => rdF_some (h := g) (o := o) hio e)
  have HOKF := Lib.hid (fun e => rdF_ok' (h := g) (p := n) e)
  clear hrd hform hst hrb h4 hm hni hr hin hio
  go_enter Try.func40, Try.ntmps40
  go_upto_region 14 with (first
    | (go_at_call 53; refine (HRD.out _).mono ?_; rintro e wk ⟨rfl, rfl⟩)
    | (go_at_call 49; refine HAT.out.mono ?_; rintro e w2 ⟨hb2, y, b, rfl, hyo, _, hyp⟩; unfold ocV; have HYO := Lib.hid hyo; have HYP := Lib.hid hyp; have HB2 := Lib.hid hb2; clear hyo hyp hb2; obtain ⟨⟨y1, y2, y3, y4, y5⟩, PA, pc⟩ := y; dsimp only))
  have hyo := HYO.out
  clear HYO HAT HRD hlk
  generalize hlen5 : y5.length = n5 at *
  have HL5 := Lib.hid hlen5
  have hal := (Below.refl w2.heap.size w2).alloc (Nat.le_refl _) (.cells #[.int .i64 y1, .int .i64 y2, .int .i64 y3, .string ⟨y4.toArray⟩, .slice PA n5 pc] 113)
  have HST3 := Lib.hid ((HST0.out.on HB2.out).on hal)
  have HOB3 : Hid (ObBox (w2.alloc (.cells #[.int .i64 y1, .int .i64 y2, .int .i64 y3, .string ⟨y4.toArray⟩, .slice PA n5 pc] 113)) w2.heap.size y1 y2 y3 y4 PA n5 pc) := Box.new w2 113 #[.int .i64 y1, .int .i64 y2, .int .i64 y3, .string ⟨y4.toArray⟩, .slice PA n5 pc]
  have HPN3 := Lib.hid (HYP.out.below hal)
  have HB3 := Lib.hid (HB2.out.trans (hal.mono HB2.out.size))
  have hw23 : w.heap.size ≤ w2.heap.size := HB2.out.size
  generalize w2.alloc (.cells #[.int .i64 y1, .int .i64 y2, .int .i64 y3, .string ⟨y4.toArray⟩, .slice PA n5 pc] 113) = w3 at *
  have hg3 : w2.heap.size < w3.heap.size := HOB3.out.lt
  have HFAR := Lib.hid HYP.out.far
  generalize w2.heap.size = g2 at *
  clear hal hlen5 HYP HB2
  cases b with
  | false =>
    have e1 := HNO.out hyo
    have hf := HF.out
    rw [e1] at hf
    dsimp only at hf
    rw [if_pos (by decide)] at hf
    have HFE := Lib.hid hf
    clear hf HF e1 hyo
    go_wp2_with fail
    go_ret3
    exact CrPost.err HFE.out (Only.of_below HB3.out)
  | true =>
  have e1 := HSO.out _ hyo
  rw [e1] at HF HOKF HPX
  dsimp only at HF HOKF HPX
  rw [if_neg (by simp)] at HF
  have hoko := HOKF.out rfl
  have hps : n5 ≤ 400 := by have := hoko.2.2.2.1; rw [← HL5.out]; exact this
  have HOKO := Lib.hid hoko
  clear hoko HOKF HNO HSO e1 hyo
  obtain ⟨c0, c1, c2, c3, c4⟩ := ObBox.cells HOB3.out
  go_upto_region 18 with fail
  have HW0 : Hid (WRp w w3 w3 gm gc Af cf g At g2 y1 y2 y3 y4 PA n5 pc y5 none 0 [] At ct s) := Lib.hid ⟨HST3.out, Only.of_below HB3.out, HOB3.out, by have := HPN3.out.own; rw [show (_ : OC).o.parts.length = n5 from HL5.out] at this; exact this, OwnAt.nil, fun _ h => .inl h, fun _ _ h => blkO_none _ h, Nat.le_refl _, HST0.out.lt, fun b hb => (HST0.out.ft b hb).2, fun b hb => (HST0.out.ff b hb).2, hw23, hg3, HFAR.out⟩
  clear c0 c1 c2 c3 c4
  go_loopg [1, 21, 66] n5 (fun gk hv pv iv wr => ∃ (j : Nat) (sj : CSt) (xs : List Nat) (At' : Option Addr) (ct' : Nat) (PP : Option Addr) (pk : Nat), gk = n5 - j ∧ j ≤ n5 ∧ hv = .slice At' sj.h.length ct' ∧ pv = .slice PP j pk ∧ iv = .int .i64 j ∧ FoldCSt (carF g d) s y5 j sj xs ∧ WRp w w3 wr gm gc Af cf g At g2 y1 y2 y3 y4 PA n5 pc y5 PP pk xs At' ct' sj)
  case atStart => exact ⟨0, s, [], At, ct, none, 0, by omega, by omega, rfl, rfl, rfl, FoldCSt.nil _ _ _, HW0.out⟩
  case round =>
    clear HW0 HST3 HOB3 HPN3 HB3
    obtain ⟨j, sj, xs, At', ct', PP, pk, hgk, hj, rfl, rfl, rfl, hfs, hw⟩ := hrel
    have HGK := Lib.hid hgk
    have HFS := Lib.hid hfs
    have HW := Lib.hid hw
    clear hgk hfs hw
    by_cases hlt : j < n5
    · have hlt5 : j < y5.length := by rw [HL5.out]; exact hlt
      obtain rfl : xs.length = j := HFS.out.1
      obtain ⟨pb, po, rfl, hpb, hpc⟩ := Row.hu HW.out.pr.row hlt5 0
      rw [Nat.mul_one] at hpc
      have hx64 := HPX.out (y5.getD xs.length 0) (by rw [List.getD_eq_getElem?_getD, List.getElem?_eq_getElem hlt5]; exact List.getElem_mem hlt5)
      have HFAIL := Lib.hid (fun e he => HFS.out.fail (e := e) hlt5 he)
      have HSTEP := Lib.hid (fun x s' he => HFS.out.step (x := x) (s' := s') hlt5 he)
      generalize y5.getD xs.length 0 = x at *
      have hcall := IH x sj gm gc Af cf g At' ct' (level + 1) wr hx64 HW.out.st (by omega) (by omega)
      unfold CrPost at hcall
      have hjn0 : (xs.length : Int) < (n5 : Int) := by omega
      have hj0 : (0 : Int) ≤ (xs.length : Int) := by omega
      have d1 : decide ((xs.length : Int) < (n5 : Int)) = true := decide_eq_true hjn0
      have d1' : decide (xs.length < n5) = true := decide_eq_true hlt
      rcases hrc : carF g d x sj with er | ⟨x', s'⟩
      · rw [hrc] at hcall
        dsimp only at hcall
        have HC := Lib.hid hcall
        have hne := carF_err g d x sj er hrc
        have b3 : (er != 0) = true := by simp [hne]
        have HRE := Lib.hid (HFAIL.out er hrc)
        have HRR := Lib.hid (show r = .error er by rw [HF.out, HRE.out])
        clear hcall hrc HSTEP HFAIL hne
        go_upto_region 21 with (go_at_call 40; refine HC.out.mono ?_; rintro e w8 ⟨ho8, rfl⟩)
        go_wp2_with fail
        go_ret3
        exact CrPost.err HRR.out (HW.out.on.trans ho8)
      · rw [hrc] at hcall
        dsimp only at hcall
        have HC := Lib.hid hcall
        have HS2 := Lib.hid (HSTEP.out x' s' hrc)
        clear hcall hrc HSTEP HFAIL
        go_upto_region 23 with (go_at_call 40; refine HC.out.mono ?_; rintro e w8 ⟨ho8, At8, ct8, rfl, hst8, hA8⟩; have HW8 := Lib.hid (HW.out.call ho8 hst8 hA8); clear hpc ho8 hst8 hA8)
        have HPP := Lib.hid (HW8.out.pp.below ((Below.refl w8.heap.size w8).alloc (Nat.le_refl _) (.cells #[.int .u64 (x' : Int)] 90)))
        have HSZ := Lib.hid (show w3.heap.size ≤ (w8.alloc (.cells #[.int .u64 (x' : Int)] 90)).heap.size from Nat.le_trans HW8.out.sz (by simp))
        have HNR := Lib.hid (new_hu_row w8 x')
        go_wp2_with (at_builtin; go_loud (refine wpList_append_hq rfl (.tmp 86) (.tmp 88) 88 88 rfl Try.underlying88 Try.underlying88 w3.heap.size PP pk xs rfl HPP.out (some ⟨w8.heap.size, 0, none⟩) 1 _ [x'] rfl HNR.out Nat.zero_lt_one (by simp only [List.length_cons, List.length_nil]; omega) HSZ.out ?_; intro PP9 pk9 w9 hown9 hg9; have HW9 := Lib.hid (HW8.out.push hg9 hown9); clear hown9 hg9))
        go_roundg (n5 - (xs.length + 1))
        case measure => have := HGK.out; omega
        case rel => exact ⟨xs.length + 1, s', xs ++ [x'], At8, ct8, PP9, pk9, rfl, by omega, rfl, rfl, by go_num, HS2.out, HW9.out⟩
    · obtain rfl : j = n5 := by omega
      obtain rfl : xs.length = j := HFS.out.1
      have hdone := HFS.out.done (by rw [HL5.out]; exact Nat.le_refl _)
      obtain ⟨hxf, hin, _⟩ := foldC_good HGD.out y5 s xs sj HPX.out HST0.out.inv hdone
      have HR2 := Lib.hid (show r = putC sj n (withP ⟨y1, y2, y3, y4, y5⟩ xs) by rw [HF.out, hdone])
      have d1 : decide ((xs.length : Int) < (xs.length : Int)) = false := by simp
      have d1' : decide (xs.length < xs.length) = false := by simp
      have hokw : OkO (withP ⟨y1, y2, y3, y4, y5⟩ xs) := withP_ok HOKO.out HL5.out.symm
      have HOKW := Lib.hid hokw
      have hlen4 := hin.len
      obtain ⟨st9, on9, pp9⟩ := HW.out.store (.slice PP xs.length pk)
      have hbx9 := HW.out.ob.set 4 (.slice PP xs.length pk)
      have z4 := HW.out.ob.frozen 4
      have c4 := (ObBox.cells HW.out.ob).2.2.2.2
      clear hdone hxf hin hokw HF HGK
      go_upto_region 26 with fail
      generalize wr.setCell ⟨g2, 4, none⟩ (.slice PP xs.length pk) = w9 at *
      have hob9 : ObBox w9 g2 y1 y2 y3 y4 PP xs.length pk := hbx9
      clear c4 z4 hbx9
      have hwd := objectWords_any ⟨withP ⟨y1, y2, y3, y4, y5⟩ xs, PP, pk⟩ w9 HOKW.out pp9.row (HOwn.nz pp9)
      unfold ocV withP huPost at hwd
      dsimp only at hwd
      obtain ⟨WS, hWS⟩ : ∃ WS, wordsF (withP ⟨y1, y2, y3, y4, y5⟩ xs) = WS := ⟨_, rfl⟩
      unfold withP at hWS
      rw [hWS] at hwd
      have hwl : WS.length ≤ 410 := by rw [← hWS]; exact wordsF_le HOKW.out
      have HWD := Lib.hid hwd
      have HST9 := Lib.hid st9
      have HON9 := Lib.hid on9
      have HOB9 := Lib.hid hob9
      have HWS := Lib.hid hWS
      clear hwd st9 on9 pp9 hWS
      obtain ⟨c0, c1, c2, c3, c4⟩ := ObBox.cells hob9
      clear hob9
      go_upto_region 27 with (go_at_call 94; refine HWD.out.mono ?_; rintro e w10 ⟨v, rfl, hownW, hb10⟩; obtain ⟨AW, cW, rfl, hoaW⟩ := OwnAt.of_own hownW; have HOAW := Lib.hid hoaW; have HB10 := Lib.hid hb10; have HST10 := Lib.hid (HST9.out.on hb10); have HON10 := Lib.hid (HON9.out.below hb10); have HOB10 := Lib.hid (HOB9.out.below hb10 HOB9.out.lt); clear hownW hoaW hb10)
      clear c0 c1 c2 c3 c4 HWD
      have hposW : 0 < WS.length := by rw [← HWS.out]; exact wordsF_pos _
      by_cases hfull : 4000 < sj.h.length + WS.length
      · have HRR := Lib.hid (show r = .error 6 by rw [HR2.out]; unfold putC withP; rw [HWS.out, if_pos hfull])
        have hfi : (4000 : Int) < (sj.h.length : Int) + (WS.length : Int) := by omega
        have d3 : decide ((4000 : Int) < (sj.h.length : Int) + (WS.length : Int)) = true := decide_eq_true hfi
        clear hfull
        go_wp2_with fail
        go_ret3
        exact CrPost.err HRR.out HON10.out
      · have hfi : ¬ (4000 : Int) < (sj.h.length : Int) + (WS.length : Int) := by omega
        have d3 : decide ((4000 : Int) < (sj.h.length : Int) + (WS.length : Int)) = false := decide_eq_false hfi
        obtain ⟨c, hc⟩ : ∃ c, 8 * sj.h.length + 4 = c := ⟨_, rfl⟩
        have hrr : r = .ok (c, ⟨sj.h ++ WS, fun y => if y = n then some c else sj.mv y, if y2 = 5 ∧ 0 < xs.length then sj.cs ++ [n] else sj.cs⟩) := by rw [HR2.out]; unfold putC withP; rw [HWS.out, if_neg hfull, hc]
        have hinv := (HGOOD.out _ _ hu HST0.out.inv hrr).2.1
        have hwo := fun w' => tagWord_any 4 (sj.h.length : Int) w' (by decide) (by decide)
        rw [tagWord_four _ hlen4, hc] at hwo
        have HWO := Lib.hid hwo
        have HRR := Lib.hid hrr
        have HINV := Lib.hid hinv
        have HFN := Lib.hid hfull
        clear hfull hrr hinv hwo hc HR2
        obtain ⟨c0, c1, c2, c3, c4⟩ := ObBox.cells HOB10.out
        clear c0 c2 c3 c4
        obtain ⟨cs', hcs⟩ : ∃ cs', (if y2 = 5 ∧ 0 < xs.length then sj.cs ++ [n] else sj.cs) = cs' := ⟨_, rfl⟩
        rw [hcs] at HRR HINV
        have HCS := Lib.hid hcs
        obtain ⟨q, hq⟩ : ∃ q : Bool, q = decide (y2 = 5 ∧ 0 < xs.length) := ⟨_, rfl⟩
        have HQ := Lib.hid hq
        clear hcs hq
        go_upto_region 29 with fail
        go_cut [108] from 101 to 108 (fun v wx => v = .bool q ∧ w10 = wx)
        case first =>
          by_cases h5 : y2 = 5
          · subst h5
            by_cases h0 : 0 < xs.length
            · obtain rfl : q = true := by rw [HQ.out]; exact decide_eq_true ⟨rfl, h0⟩
              have dj : decide ((0 : Int) < (xs.length : Int)) = true := decide_eq_true (by omega)
              have dj' : decide (0 < xs.length) = true := decide_eq_true h0
              clear h0 HQ
              go_wp2_with fail
              go_meet
              exact ⟨rfl, rfl⟩
            · obtain rfl : q = false := by rw [HQ.out]; exact decide_eq_false (fun h => h0 h.2)
              have dj : decide ((0 : Int) < (xs.length : Int)) = false := decide_eq_false (by omega)
              have dj' : decide (0 < xs.length) = false := decide_eq_false h0
              clear h0 HQ
              go_wp2_with fail
              go_meet
              exact ⟨rfl, rfl⟩
          · obtain rfl : q = false := by rw [HQ.out]; exact decide_eq_false (fun h => h5 h.1)
            have b5 : (y2 == 5) = false := by simpa using h5
            clear h5 HQ
            go_wp2_with fail
            go_meet
            exact ⟨rfl, rfl⟩
        case rest =>
        obtain ⟨rfl, rfl⟩ := hcut
        clear c1
        go_upto_if 108 with fail
        go_cut [] from 109 to 110 (fun wx => Only (fun b => b = gc) w10 wx ∧ IntMap wx gc (sj.h.length + 1) (csM ⟨sj.h ++ WS, fun y => if y = n then some c else sj.mv y, cs'⟩))
        case first =>
          cases q with
          | true =>
            have hcs := HCS.out
            rw [if_pos (of_decide_eq_true HQ.out.symm)] at hcs
            subst hcs
            obtain ⟨w11, hup, ho11, hm11⟩ := HST10.out.mark HNI.out
            have HO11 := Lib.hid ho11
            have HM11 := Lib.hid hm11
            clear ho11 hm11
            go_wp2_with fail
            go_meet
            exact ⟨HO11.out, by rw [← csM_put]; exact HM11.out⟩
          | false =>
            have hcs := HCS.out
            rw [if_neg (of_decide_eq_false HQ.out.symm)] at hcs
            subst hcs
            go_wp2_with fail
            go_meet
            exact ⟨Only.refl _ _, HST10.out.mc.mono (Nat.le_succ _)⟩
        case rest =>
        obtain ⟨ho11, hm11⟩ := hcut
        obtain ⟨w12, hup, ho12, hon12, hm12, hc12⟩ := HST10.out.last HNI.out c ho11 hm11
        rw [mvM_put (ws := WS) (cs := cs')] at hm12
        have HO12 := Lib.hid ho12
        have HM12 := Lib.hid hm12
        have HC12 := Lib.hid hc12
        have hwo2 := HWO.out
        clear ho11 hm11 ho12 hm12 hc12 hon12
        go_upto_region 32 with (go_at_call 95; refine (HWO.out _).mono ?_; rintro e wk ⟨rfl, rfl⟩)
        have HHT := Lib.hid (HST10.out.ht.only HO12.out (fun b hb => (HST10.out.ft b hb).1))
        have HWR := Lib.hid (HOAW.out.only HO12.out (fun b hb e => by
          have h1 := (blkO_own HOAW.out hb).1
          have h2 := HST9.out.lt b e
          omega))
        have HLK : Hid (∀ w', Below w12.heap.size w12 w' → (Instr.lookup 99 (.map (some gm)) (.int .i64 n) false).run Try.prog w' = .ok (.int .u64 (c : Int)) w') := Lib.hid (fun w' hb => by
          have h1 := (HM12.out.under hb).look ints_keyed Try.underlying99 (zero_u64C w') (int_key HNI.out)
          have h2 : mvM ⟨sj.h ++ WS, fun y => if y = n then some c else sj.mv y, cs'⟩ n = some (.int .u64 (c : Int)) := by unfold mvM; dsimp only; rw [if_pos rfl]; rfl
          rw [h2] at h1
          exact h1)
        have hlk0 := HLK.out w12.drew (below_drewX (Below.refl _ _))
        have HSW := Lib.hid (show sj.h.length + WS.length ≤ 4000 by have := HFN.out; omega)
        clear hup hfi d3 d1 d1' dl hwo2 HW
        go_region_law (first
          | (refine step_cat_hu rfl (.const (.slice none 0 0)) (.tmp 116) rfl w12.heap.size (.slice none 0 0) [] rfl (World.ownsRow_nil _ _ _ _) At' ct' sj.h rfl ((HHT.out.row.below (below_drewX (Below.refl _ _))).more (Nat.le_refl _)) HHT.out.none (by have := HSW.out; simp only [List.length_nil]; omega) (Nat.le_refl _) ?_; intro v1 wA hown1 hg1; have HO1 := Lib.hid hown1; have HB1 := Lib.hid ((below_drewX (Below.refl w12.heap.size w12)).grown hg1 (Nat.le_refl _) (fun b hb => by cases hb)); have hlk1 := HLK.out wA HB1.out; clear hown1 hg1)
          | (refine step_cat_hu rfl (.tmp 117) (.tmp 118) rfl w12.heap.size v1 ([] ++ sj.h) rfl HO1.out AW cW WS rfl ((HWR.out.row.below HB1.out).more HB1.out.size) (HOwn.nz HWR.out) (by have := HSW.out; simp only [List.nil_append]; omega) HB1.out.size ?_; intro v2 wB hown2 hg2; have HO2 := Lib.hid hown2; have HB2 := Lib.hid (HB1.out.grown hg2 HB1.out.size (fun b hb => (World.ownsRow.lt HO1.out b hb).1)); have hlk2 := HLK.out wB HB2.out; clear hown2 hg2))
        all_goals (
          have hown6 := HO2.out
          obtain ⟨A6, c6, rfl, hoa6⟩ := OwnAt.of_own hown6
          have HOA6 := Lib.hid hoa6
          clear hown6 hoa6
          go_wp2_with fail
          go_ret3
          rw [HRR.out]
          exact ⟨(HON10.out.trans HO12.out).below (HB2.out), A6, c6, rfl, HST10.out.fin HO12.out HM12.out HC12.out HB2.out HOA6.out (by have := hposW; dsimp only; rw [List.length_append]; omega) HINV.out, fun b hb => .inr (by have h1 := (blkO_own HOA6.out hb).1; have h2 := HON10.out.size; have h3 := HO12.out.size; omega)⟩)

theorem carries_any : ∀ d, CarriesAt d := by
  intro d
  induction d with
  | zero =>
    intro u s gm gc Af cf g At ct level w hu hst hl _
    obtain rfl : level = 41 := by omega
    by_cases hE : readB (u : Int) = false ∨ (u : Int) % 8 ≠ 4 ∨ ∃ c, s.mv (readN (u : Int)) = some c
    · exact carried_early _ true u s gm gc Af cf g At ct 41 w hu hst hE
    · simp only [not_or, not_exists] at hE
      exact carried_deep u s gm gc Af cf g At ct w hu hst (by simpa using hE.1) (by simpa using hE.2.1) (by
        cases h : s.mv (readN (u : Int)) with
        | none => rfl
        | some c => exact absurd h (hE.2.2 c))
  | succ d ih =>
    intro u s gm gc Af cf g At ct level w hu hst hl hd
    by_cases hE : readB (u : Int) = false ∨ (u : Int) % 8 ≠ 4 ∨ ∃ c, s.mv (readN (u : Int)) = some c
    · exact carried_early _ false u s gm gc Af cf g At ct level w hu hst hE
    · simp only [not_or, not_exists] at hE
      exact carried_main d ih u s gm gc Af cf g At ct level w hu hst hl hd (by simpa using hE.1) (by simpa using hE.2.1) (by
        cases h : s.mv (readN (u : Int)) with
        | none => rfl
        | some c => exact absurd h (hE.2.2 c))
end Go.Proofs.Ytdjahlkjfpbifaa
