
/-
  A word copied between heaps ((*carry.transfer).word).
-/
import Derived.Test.YtdjahlkjfpbifaaCy2
import Derived.IntWalk
namespace Go.Proofs.Ytdjahlkjfpbifaa
open Go.RowKit

set_option maxRecDepth 100000 in
set_option maxHeartbeats 8000000 in
theorem word_main (d : Nat) (IH : CopiesAt d) (base u : Nat) (s : CSt) (gt gm : Nat) (Af : Option Addr) (cf : Nat) (g : List Nat) (At : Option Addr) (ct : Nat) (Ac : Option Addr) (cc : Nat) (level : Int) (w : World) (hu : u < 18446744073709551616) (hst : TSt base w gt gm Af cf g At ct Ac cc s)
    (hl : level + ((d + 1 : Nat) : Int) = 41) (hd : d + 1 ≤ 40) (hbase : base ≤ w.heap.size) (hrb : readB (u : Int) = true) (h4 : (u : Int) % 8 = 4) (hm : s.mv (readN (u : Int)) = none) :
    Calls Try.prog 92 #[.pointer (some ⟨gt, 0, none⟩), .int .u64 (u : Int), .int .i64 level] w (CyPost base gt gm Af cf g At Ac (carF g (d + 1) u s) w) := by
  rw [carF_succ]
  have hform := carStep_form g (carF g d) false u s
  rw [hrb, if_neg (by decide), if_neg (by simpa using h4), hm] at hform
  dsimp only at hform
  rw [if_neg (by decide)] at hform
  obtain ⟨l0, l1, l2, l3, z0, z1, z2, z3⟩ := own_cells4 hst.bx
  have hrd := fun w' => read_any (u : Int) w' (nat_u64 hu).1 (nat_u64 hu).2
  rw [hrb] at hrd
  simp only [if_true] at hrd
  rw [h4] at hrd
  have hni := readN_i64 (u : Int)
  have hlk := hst.mp.look_ok ints_keyed Try.underlying99 (zero_u64C w) (int_key hni)
  rw [hm] at hlk
  simp only [Option.map_none, Option.getD_none, Option.isSome_none] at hlk
  generalize readN (u : Int) = n at *
  generalize hr : carStep g (carF g d) false u s = r at *
  have HAT := Lib.hid (at_any Af cf g n w hst.hf)
  have HOKF := Lib.hid (fun e => rdF_ok' (h := g) (p := n) e)
  have HPX := Lib.hid (parts_fit (h := g) (p := n) hst.hf.fit)
  have HGOOD := Lib.hid (carF_good hst.hf.fit (d + 1) u s)
  rw [carF_succ, hr] at HGOOD
  have HGD := Lib.hid (carF_good hst.hf.fit d)
  have HRD := Lib.hid hrd
  have HF := Lib.hid hform
  have HST := Lib.hid hst
  have HNI := Lib.hid hni
  have HBS := Lib.hid hbase
  have HST0 := Lib.hid hst
  have dl : decide (40 < level) = false := by simp; omega
  have hlv1 : 0 < level := by omega
  have hlv2 : level < 41 := by omega
  clear hrd hform hst hrb h4 hm hni hr hbase
  go_enter Try.func92, Try.ntmps92
  go_upto_region 12 with (first
    | (go_at_call 99; refine (HRD.out _).mono ?_; rintro e wk ⟨rfl, rfl⟩)
    | (go_at_call 100; refine HAT.out.mono ?_; rintro e w2 ⟨hb2, y, er, rfl, hyo, hye, hyp⟩; unfold ocV; have HYE := Lib.hid hye; have HYO := Lib.hid hyo; have HYP := Lib.hid hyp; have HB2 := Lib.hid hb2; clear hye hyo hyp hb2; obtain ⟨⟨y1, y2, y3, y4, y5⟩, PA, pc⟩ := y; dsimp only))
  have hyo := HYO.out
  have hye := HYE.out
  clear HYE HYO HAT HRD hlk
  generalize rdF g n = rr at *
  obtain ⟨ro, nw, re⟩ := rr
  dsimp only at hyo hye HF HOKF HPX
  subst hyo hye
  generalize hlen5 : y5.length = n5 at *
  have HL5 := Lib.hid hlen5
  have hal := (Below.refl w2.heap.size w2).alloc (Nat.le_refl _) (.cells #[.int .i64 y1, .int .i64 y2, .int .i64 y3, .string ⟨y4.toArray⟩, .slice PA n5 pc] 113)
  have HST3 := Lib.hid ((HST.out.on HB2.out).on hal)
  have HOB3 : Hid (ObBox (w2.alloc (.cells #[.int .i64 y1, .int .i64 y2, .int .i64 y3, .string ⟨y4.toArray⟩, .slice PA n5 pc] 113)) w2.heap.size y1 y2 y3 y4 PA n5 pc) := Box.new w2 113 #[.int .i64 y1, .int .i64 y2, .int .i64 y3, .string ⟨y4.toArray⟩, .slice PA n5 pc]
  have HPN3 := Lib.hid (HYP.out.below hal)
  have HB3 := Lib.hid (HB2.out.trans (hal.mono HB2.out.size))
  have hw23 : w.heap.size ≤ w2.heap.size := HB2.out.size
  generalize w2.alloc (.cells #[.int .i64 y1, .int .i64 y2, .int .i64 y3, .string ⟨y4.toArray⟩, .slice PA n5 pc] 113) = w3 at *
  have hg3 : w2.heap.size < w3.heap.size := HOB3.out.lt
  have HFAR := Lib.hid HYP.out.far
  generalize w2.heap.size = g2 at *
  clear hal hlen5 HYP HB2 HST l0 l1 l2 l3 z0 z1 z2 z3
  obtain ⟨l0, l1, l2, l3, z0, z1, z2, z3⟩ := own_cells4 HST3.out.bx
  by_cases her : er = 0
  case neg =>
    have b1 : (er != 0) = true := by simpa using her
    have hf := HF.out
    rw [if_pos her] at hf
    have HFE := Lib.hid hf
    clear hf her HF
    go_wp2_with fail
    go_ret2
    exact CyPost.err HFE.out (Only.of_below HB3.out)
  subst her
  rw [if_neg (by simp)] at HF
  have hoko := HOKF.out rfl
  have hps : n5 ≤ 400 := by have := hoko.2.2.2.1; rw [← HL5.out]; exact this
  have HOKO := Lib.hid hoko
  clear hoko HOKF
  obtain ⟨c0, c1, c2, c3, c4⟩ := ObBox.cells HOB3.out
  go_upto_region 15 with fail
  have HW0 : Hid (WLp base w w3 w3 gt gm Af cf g At Ac g2 y1 y2 y3 y4 PA n5 pc y5 At ct Ac cc s) := Lib.hid ⟨HST3.out, Only.of_below HB3.out, HOB3.out, by have := HPN3.out.own; rw [show (_ : OC).o.parts.length = n5 from HL5.out] at this; exact this, fun _ h => .inl h, fun _ h => .inl h, Nat.le_refl _, fun b hb => (HST0.out.lt b hb).2, fun b hb => (HST0.out.ft b hb).2, fun b hb => (HST0.out.ff b hb).2, hw23, hg3, HFAR.out⟩
  have HBSZ := Lib.hid (show base ≤ w3.heap.size by have := HBS.out; omega)
  have hwl : IntKind.i64.wrap (level + 1) = level + 1 := IntWalk.i64_in _ (by omega)
  have HWL := Lib.hid hwl
  clear l0 l1 l2 l3 z0 z1 z2 z3 c0 c1 c2 c3 c4 hwl
  go_loopg [58] n5 (fun gk iv wr => ∃ (j : Nat) (sj : CSt) (xs : List Nat) (At' : Option Addr) (ct' : Nat) (Ac' : Option Addr) (cc' : Nat), gk = n5 - j ∧ j ≤ n5 ∧ iv = .int .i64 j ∧ FoldCSt (carF g d) s y5 j sj xs ∧ WLp base w w3 wr gt gm Af cf g At Ac g2 y1 y2 y3 y4 PA n5 pc (xs ++ y5.drop j) At' ct' Ac' cc' sj)
  case atStart => exact ⟨0, s, [], At, ct, Ac, cc, by omega, by omega, rfl, FoldCSt.nil _ _ _, HW0.out⟩
  case round =>
    clear HW0 HST3 HOB3 HPN3 HB3
    obtain ⟨j, sj, xs, At', ct', Ac', cc', hgk, hj, rfl, hfs, hw⟩ := hrel
    have HGK := Lib.hid hgk
    have HFS := Lib.hid hfs
    have HW := Lib.hid hw
    clear hgk hfs hw
    by_cases hlt : j < n5
    · have hlt5 : j < y5.length := by rw [HL5.out]; exact hlt
      have HXL := Lib.hid HFS.out.1
      have hzl : j < (xs ++ y5.drop j).length := by have := HXL.out; rw [List.length_append, List.length_drop]; omega
      have HZL := Lib.hid (show (xs ++ y5.drop j).length = n5 by have h1 := HXL.out; have h2 := HL5.out; rw [List.length_append, List.length_drop]; omega)
      obtain ⟨pb, po, rfl, hpb, hpc⟩ := Row.hu HW.out.pr.row hzl 0
      rw [got_at HXL.out, Nat.mul_one] at hpc
      have hx64 := HPX.out (y5.getD j 0) (by rw [List.getD_eq_getElem?_getD, List.getElem?_eq_getElem hlt5]; exact List.getElem_mem hlt5)
      have HWD := Lib.hid HW.out.drew
      have HFAIL := Lib.hid (fun e he => HFS.out.fail (e := e) hlt5 he)
      have HSTEP := Lib.hid (fun x s' he => HFS.out.step (x := x) (s' := s') hlt5 he)
      have HSET := Lib.hid (fun x => put_at (x := x) HXL.out hlt5)
      generalize y5.getD j 0 = x at *
      have hcall := IH base x sj gt gm Af cf g At' ct' Ac' cc' (level + 1) wr.drew hx64 HWD.out.st (by omega) (by omega) (Nat.le_trans HBSZ.out HW.out.sz)
      unfold CyPost at hcall
      have hpf := HW.out.pr.frozen (po + j)
      have hjn0 : (j : Int) < (n5 : Int) := by omega
      have hj0 : (0 : Int) ≤ (j : Int) := by omega
      have hwl := HWL.out
      have hgp : g2 ≠ pb := by have := (HFAR.out _ rfl).2; dsimp only at this; omega
      have d1 : decide ((j : Int) < (n5 : Int)) = true := decide_eq_true hjn0
      have d1' : decide (j < n5) = true := decide_eq_true hlt
      obtain ⟨c0, c1, c2, c3, c4⟩ := ObBox.cells HW.out.ob
      clear c0 c1 c2 c3
      rcases hrc : carF g d x sj with er | ⟨x', s'⟩
      · rw [hrc] at hcall
        dsimp only at hcall
        have HC := Lib.hid hcall
        have hne := carF_err g d x sj er hrc
        have b3 : (er != 0) = true := by simp [hne]
        have HRE := Lib.hid (HFAIL.out er hrc)
        have HRR := Lib.hid (show r = .error er by rw [HF.out, HRE.out])
        clear hcall hrc HSTEP HFAIL hne
        go_upto_region 17 with fail
        go_region_held3 (fun w' => w'.cell? ⟨g2, 4, none⟩ = some (.slice (some ⟨pb, po, none⟩) n5 pc)) ((first | exact HC8.out _ | assumption | go_keep))
          ((go_at_call 92; refine HC.out.mono ?_; rintro e w8 ⟨ho8, rfl⟩; have hpc8 := cell_part HWD.out ho8 hlt HZL.out; have hpf8 := frozen_part (j := j) HWD.out ho8; have c8 := (ObBox.cells (ob_part HWD.out ho8)).2.2.2.2; have HC8 := Lib.hid (fun v => (ObBox.cells (Box.far (ob_part HWD.out ho8) (p := ⟨pb, po + j, none⟩) hgp v)).2.2.2.2); clear hpc hpf c4))
        go_wp2_with fail
        go_ret2
        exact CyPost.err HRR.out (only_part HWD.out ho8 _ _)
      · rw [hrc] at hcall
        dsimp only at hcall
        have HC := Lib.hid hcall
        have HS2 := Lib.hid (HSTEP.out x' s' hrc)
        clear hcall hrc HSTEP HFAIL
        go_upto_region 17 with fail
        go_region_held3 (fun w' => w'.cell? ⟨g2, 4, none⟩ = some (.slice (some ⟨pb, po, none⟩) n5 pc)) ((first | exact HC8.out _ | assumption | go_keep))
          ((go_at_call 92; refine HC.out.mono ?_; rintro e w8 ⟨ho8, rfl, At8, ct8, Ac8, cc8, hst8, hA8, hC8⟩; have hpc8 := cell_part HWD.out ho8 hlt HZL.out; have hpf8 := frozen_part (j := j) HWD.out ho8; have c8 := (ObBox.cells (ob_part HWD.out ho8)).2.2.2.2; have HC8 := Lib.hid (fun v => (ObBox.cells (Box.far (ob_part HWD.out ho8) (p := ⟨pb, po + j, none⟩) hgp v)).2.2.2.2); have HW8 := Lib.hid ((HWD.out.call ho8 hst8 hA8 hC8).part j x'); clear hpc hpf c4 ho8 hst8 hA8 hC8))
        rw [HSET.out] at HW8
        go_wp2_with fail
        go_roundg (n5 - (j + 1))
        case measure => have := HGK.out; omega
        case rel => exact ⟨j + 1, s', xs ++ [x'], At8, ct8, Ac8, cc8, rfl, by omega, by go_num, HS2.out, HW8.out⟩
    · obtain rfl : j = n5 := by omega
      have hdone := HFS.out.done (by rw [HL5.out]; exact Nat.le_refl _)
      have hzd : y5.drop j = [] := List.drop_eq_nil_of_le (by rw [HL5.out]; exact Nat.le_refl _)
      rw [hzd, List.append_nil] at HW
      have HXS := Lib.hid HFS.out.1
      obtain ⟨hxf, hin, _⟩ := foldC_good HGD.out y5 s xs sj HPX.out HST0.out.inv hdone
      have HXF := Lib.hid hxf
      have HR2 := Lib.hid (show r = putC sj n (withP ⟨y1, y2, y3, y4, y5⟩ xs) by rw [HF.out, hdone])
      have d1 : decide ((j : Int) < (j : Int)) = false := by simp
      have d1' : decide (j < j) = false := by simp
      obtain ⟨l0, l1, l2, l3, z0, z1, z2, z3⟩ := own_cells4 HW.out.st.bx
      obtain ⟨c0, c1, c2, c3, c4⟩ := ObBox.cells HW.out.ob
      have hokw : OkO (withP ⟨y1, y2, y3, y4, y5⟩ xs) := withP_ok HOKO.out (by rw [HXS.out, show (_ : Ob).parts.length = j from HL5.out])
      have HOKW := Lib.hid hokw
      have HWD := Lib.hid HW.out.drew
      have HIN := Lib.hid hin
      have hlen4 := hin.len
      clear hdone hzd hxf hin hokw HF HGK
      have HSK : Hid (∀ w', Below wr.drew.heap.size wr.drew w' → Below wr.drew.heap.size wr.drew w') := fun w' h => h
      by_cases hfull : 4000 < sj.h.length + (wordsF (withP ⟨y1, y2, y3, y4, y5⟩ xs)).length
      · have hput := put_full At' ct' sj.h (withP ⟨y1, y2, y3, y4, y5⟩ xs) PA j pc w.heap.size wr.drew HWD.out.st.ht hlen4 HWD.out.pr HXS.out HOKW.out hfull
        have HRR := Lib.hid (show r = .error 6 by rw [HR2.out]; unfold putC; rw [if_pos hfull])
        unfold withP at hput
        dsimp only at hput
        have HPUT := Lib.hid hput
        clear hput hfull
        go_upto_region 21 with fail
        go_region_held3 (fun w' => w'.cell? ⟨gt, 1, none⟩ = some (.slice At' sj.h.length ct') ∧ w'.cell? ⟨g2, 0, none⟩ = some (.int .i64 y1) ∧ w'.cell? ⟨g2, 1, none⟩ = some (.int .i64 y2) ∧ w'.cell? ⟨g2, 2, none⟩ = some (.int .i64 y3) ∧ w'.cell? ⟨g2, 3, none⟩ = some (.string ⟨y4.toArray⟩) ∧ w'.cell? ⟨g2, 4, none⟩ = some (.slice PA j pc)) ((first | exact HC8.out | go_keep))
          ((go_at_call 93; refine HPUT.out.mono ?_; rintro e w8 ⟨rfl, hb8⟩; have HB8 := Lib.hid hb8; have HC8 := Lib.hid (cells_kept HWD.out hb8); clear hb8))
        go_wp2_with fail
        go_ret2
        exact CyPost.err HRR.out (HWD.out.on.below HB8.out)
      · have hput := put_room At' ct' sj.h (withP ⟨y1, y2, y3, y4, y5⟩ xs) PA j pc w.heap.size wr.drew HWD.out.st.ht hlen4 HWD.out.pr HXS.out HOKW.out hfull
        have hrr : r = .ok (8 * sj.h.length + 4, ⟨sj.h ++ wordsF (withP ⟨y1, y2, y3, y4, y5⟩ xs), fun y => if y = n then some (8 * sj.h.length + 4) else sj.mv y, if y2 = 5 ∧ 0 < xs.length then sj.cs ++ [n] else sj.cs⟩) := by rw [HR2.out]; unfold putC; rw [if_neg hfull]; rfl
        have hinv := (HGOOD.out _ _ hu HST0.out.inv hrr).2.1
        have hpos := wordsF_pos (withP ⟨y1, y2, y3, y4, y5⟩ xs)
        generalize wordsF (withP ⟨y1, y2, y3, y4, y5⟩ xs) = WS at *
        obtain ⟨N, hN⟩ : ∃ N, (sj.h ++ WS).length = N := ⟨_, rfl⟩
        rw [hN] at hput
        unfold withP at hput
        dsimp only at hput
        rw [HXS.out] at hrr hinv
        obtain ⟨c, hc⟩ : ∃ c, 8 * sj.h.length + 4 = c := ⟨_, rfl⟩
        have hwo := fun w' => word_ok 4 (sj.h.length : Int) w' (by decide) (by decide) (by unfold validB; simp; omega)
        rw [tagWord_four _ hlen4, hc] at hwo
        rw [hc] at hrr hinv
        have hinv0 : CInv g ⟨sj.h ++ WS, fun y => if y = n then some c else sj.mv y, sj.cs⟩ := by
          by_cases hcell : y2 = 5 ∧ 0 < j
          · rw [if_pos hcell] at hinv; exact hinv.drop
          · rw [if_neg hcell] at hinv; exact hinv
        have HWO := Lib.hid hwo
        have HPUT := Lib.hid hput
        have HRR := Lib.hid hrr
        have HINV := Lib.hid hinv
        have HINV0 := Lib.hid hinv0
        have HN := Lib.hid hN
        have HPOS := Lib.hid hpos
        clear hput hfull hrr hinv hinv0 hpos hN hwo hc HR2
        go_upto_region 21 with fail
        go_region_held3 (fun w' => w'.cell? ⟨gt, 1, none⟩ = some (.slice At' sj.h.length ct') ∧ w'.cell? ⟨g2, 0, none⟩ = some (.int .i64 y1) ∧ w'.cell? ⟨g2, 1, none⟩ = some (.int .i64 y2) ∧ w'.cell? ⟨g2, 2, none⟩ = some (.int .i64 y3) ∧ w'.cell? ⟨g2, 3, none⟩ = some (.string ⟨y4.toArray⟩) ∧ w'.cell? ⟨g2, 4, none⟩ = some (.slice PA j pc)) ((first | exact HC8.out | go_keep))
          ((go_at_call 93; refine HPUT.out.mono ?_; rintro e w8 ⟨A5, c5, rfl, ho5, hb8⟩; have HB8 := Lib.hid hb8; have HO5 := Lib.hid ho5; have HC8 := Lib.hid (cells_kept HWD.out hb8); clear hb8 ho5))
        clear l0 l1 l2 l3 z0 z1 z2 z3 c0 c1 c2 c3 c4
        obtain ⟨w7, hup, ht7, ho7⟩ := HWD.out.st.copied HB8.out HN.out HO5.out HNI.out HPOS.out HINV0.out
        obtain ⟨l0, l1, l2, l3, z0, z1, z2, z3⟩ := own_cells4 (HWD.out.st.on HB8.out).bx
        have HT7 := Lib.hid ht7
        have HO7 := Lib.hid ho7
        have hob7 : ObBox w7 g2 y1 y2 y3 y4 PA j pc := ho7.box (HWD.out.ob.below HB8.out HWD.out.ob.lt) (fun e => by
          have h1 := HW.out.g1
          rcases e with e | e
          · have := HW.out.lo gt (.inl rfl); omega
          · have := HW.out.lo gm (.inr (.inl rfl)); omega)
        have HOB7 := Lib.hid hob7
        clear ht7 ho7 hob7
        go_upto_region 29 with (go_at_call 129; refine (HWO.out _).mono ?_; rintro e wk ⟨rfl, rfl⟩)
        clear l0 l1 l2 l3 z0 z1 z2 z3 hup
        obtain ⟨c0, c1, c2, c3, c4⟩ := ObBox.cells HOB7.out
        have HONW : Hid (Only (tfB gt gm Ac) w w7) := Lib.hid ((HWD.out.on.below HB8.out).trans (HO7.out.more (fun b e => by rcases e with e | e; exact .inl e; exact .inr (.inl e))))
        have HA5 : Hid (∀ b, blkO A5 b → blkO At b ∨ w.heap.size ≤ b) := Lib.hid (fun b hb => .inr (by have h1 := (blkO_own HO5.out hb).1; have h2 := HWD.out.on.size; omega))
        have HAC : Hid (∀ b, blkO Ac' b → blkO Ac b ∨ w.heap.size ≤ b) := Lib.hid (fun b hb => by rcases HW.out.fc b hb with e | e; exact .inl e; exact .inr (by omega))
        clear c0 c2 c3
        by_cases hcell : y2 = 5 ∧ 0 < j
        · obtain ⟨rfl, hj0⟩ := hcell
          rw [if_pos ⟨rfl, hj0⟩] at HRR HINV
          have dj : decide ((0 : Int) < (j : Int)) = true := decide_eq_true (by omega)
          have dj' : decide (0 < j) = true := decide_eq_true hj0
          obtain ⟨i0, hi0, hz0, hz1, hz2⟩ := int_partsY
          obtain ⟨l0, l1, l2, l3, z0, z1, z2, z3⟩ := own_cells4 HT7.out.bx
          dsimp only at l3
          have HOC := Lib.hid (HT7.out.oc.alloc (.cells #[.int .i64 n] 3))
          have HNW : Hid (∀ q v, [Value.int .i64 n][q]? = some v → (w7.alloc (.cells #[.int .i64 n] 3)).cell? ((⟨w7.heap.size, 0, none⟩ : Addr).add q) = some v) := Lib.hid (fun q v h => by rw [addr_add, Nat.zero_add, (Box.new w7 3 #[.int .i64 n]).cell q, ← h]; simp)
          have HSZ7 := Lib.hid (show base ≤ (w7.alloc (.cells #[.int .i64 n] 3)).heap.size by have h1 := HONW.out.size; have h2 := HBS.out; simp; omega)
          have HCN := Lib.hid HT7.out.inv.cnt
          have HCL := Lib.hid HT7.out.inv.len
          clear l0 l1 l2 z0 z1 z2 hj0
          go_wp2_with (at_builtin; refine wpList_append_q rfl (.tmp 123) (.tmp 125) 55 rfl base 3 i0 (.int .i64 0) 1 8 Try.underlying55 hi0 hz0 hz1 hz2 rfl (by decide) Ac' sj.cs.length cc' (ints sj.cs) rfl HOC.out ⟨w7.heap.size, 0, none⟩ 1 1 [.int .i64 n] rfl rfl HNW.out (int_oneY n) (by have h1 := HCN.out; have h2 := HCL.out; dsimp only at h1 h2; unfold maxLen; omega) (by have h1 := HCN.out; have h2 := HCL.out; dsimp only at h1 h2; omega) HSZ7.out (by decide) ?_; intro g9 o9 d9 w9 k1 k2 k3; have HN9 := Lib.hid (noted_only (o9 := o9) k2 k3); have K1 := Lib.hid k1; obtain ⟨m0, m1, m2, m3, q0, q1, q2, q3⟩ := own_cells4 (HN9.out.1.box HT7.out.bx HT7.out.fc.1); dsimp only at m3; clear l3 z3 k1 k2 k3)
          go_ret2
          have ht9 := HT7.out.noted (n := n) HN9.out.1 K1.out HN9.out.2 HINV.out
          rw [HRR.out]
          refine ⟨(HONW.out.later HN9.out.1 (fun b hb => by rcases HAC.out b hb with e | e; exact .inl (.inr (.inr e)); exact .inr e)).set (p := ⟨gt, 3, none⟩) (.inl rfl) _, rfl, A5, c5, some ⟨g9, o9, none⟩, d9, ht9, HA5.out, fun b hb => ?_⟩
          rcases HN9.out.2 b hb with e | e
          · exact HAC.out b e
          · exact .inr (by have := HONW.out.size; omega)
        · rw [if_neg hcell] at HRR
          by_cases h5 : y2 = 5
          · subst h5
            obtain rfl : j = 0 := by omega
            go_wp2_with fail
            go_ret2
            rw [HRR.out]
            exact ⟨HONW.out, rfl, A5, c5, Ac', cc', HT7.out, HA5.out, HAC.out⟩
          · have b5 : (y2 == 5) = false := by simpa using h5
            clear h5 hcell
            go_wp2_with fail
            go_ret2
            rw [HRR.out]
            exact ⟨HONW.out, rfl, A5, c5, Ac', cc', HT7.out, HA5.out, HAC.out⟩

set_option maxRecDepth 100000 in
set_option maxHeartbeats 4000000 in
theorem word_deep (base u : Nat) (s : CSt) (gt gm : Nat) (Af : Option Addr) (cf : Nat) (g : List Nat) (At : Option Addr) (ct : Nat) (Ac : Option Addr) (cc : Nat) (w : World) (hu : u < 18446744073709551616) (hst : TSt base w gt gm Af cf g At ct Ac cc s)
    (hrb : readB (u : Int) = true) (h4 : (u : Int) % 8 = 4) (hm : s.mv (readN (u : Int)) = none) :
    Calls Try.prog 92 #[.pointer (some ⟨gt, 0, none⟩), .int .u64 (u : Int), .int .i64 41] w (CyPost base gt gm Af cf g At Ac (carF g 0 u s) w) := by
  rw [carF_zero]
  have hform := carStep_form g (fun _ _ => .error 2) true u s
  rw [hrb, if_neg (by decide), if_neg (by simpa using h4), hm] at hform
  dsimp only at hform
  rw [if_pos rfl] at hform
  obtain ⟨l0, l1, l2, l3, _⟩ := own_cells4 hst.bx
  have hrd := fun w' => read_any (u : Int) w' (nat_u64 hu).1 (nat_u64 hu).2
  rw [hrb] at hrd
  simp only [if_true] at hrd
  rw [h4] at hrd
  have hni := readN_i64 (u : Int)
  have hlk := hst.mp.look_ok ints_keyed Try.underlying99 (zero_u64C w) (int_key hni)
  rw [hm] at hlk
  simp only [Option.map_none, Option.getD_none, Option.isSome_none] at hlk
  generalize readN (u : Int) = n at *
  generalize carStep g (fun _ _ => .error 2) true u s = r at *
  have HRD := Lib.hid hrd
  have HF := Lib.hid hform
  clear hrd hform hst hrb h4 hm hni
  go_enter Try.func92, Try.ntmps92
  go_wp2_with fail
  refine (HRD.out _).mono ?_
  rintro e w1 ⟨rfl, rfl⟩
  go_wp2_with fail
  go_ret2
  exact CyPost.err HF.out (Only.refl _ _)

theorem copies_any : ∀ d, CopiesAt d := by
  intro d
  induction d with
  | zero =>
    intro base u s gt gm Af cf g At ct Ac cc level w hu hst hl _ _
    obtain rfl : level = 41 := by omega
    by_cases hE : readB (u : Int) = false ∨ (u : Int) % 8 ≠ 4 ∨ ∃ c, s.mv (readN (u : Int)) = some c
    · exact word_early _ true base u s gt gm Af cf g At ct Ac cc 41 w hu hst hE
    · simp only [not_or, not_exists] at hE
      exact word_deep base u s gt gm Af cf g At ct Ac cc w hu hst (by simpa using hE.1) (by simpa using hE.2.1) (by
        cases h : s.mv (readN (u : Int)) with
        | none => rfl
        | some c => exact absurd h (hE.2.2 c))
  | succ d ih =>
    intro base u s gt gm Af cf g At ct Ac cc level w hu hst hl hd hb
    by_cases hE : readB (u : Int) = false ∨ (u : Int) % 8 ≠ 4 ∨ ∃ c, s.mv (readN (u : Int)) = some c
    · exact word_early _ false base u s gt gm Af cf g At ct Ac cc level w hu hst hE
    · simp only [not_or, not_exists] at hE
      exact word_main d ih base u s gt gm Af cf g At ct Ac cc level w hu hst hl hd hb (by simpa using hE.1) (by simpa using hE.2.1) (by
        cases h : s.mv (readN (u : Int)) with
        | none => rfl
        | some c => exact absurd h (hE.2.2 c))
end Go.Proofs.Ytdjahlkjfpbifaa
