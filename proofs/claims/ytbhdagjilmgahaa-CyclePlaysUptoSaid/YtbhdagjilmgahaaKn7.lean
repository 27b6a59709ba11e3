
/-
  cycle: New, Left, Garbage.
-/
import Derived.Test.YtbhdagjilmgahaaKn6
import Derived.Test.YtbhdagjilmgahaaCpDef
namespace Go.Proofs.Ytbhdagjilmgahaa
open Go.RowKit

/-- How a node is handed back. -/
def NewP (K : List KnC) (w : World) (e : Ending) (w' : World) : Prop :=
  Below w.heap.size w w' ∧ if knowsF K = 0 then ∃ W N gn gr gm gt RA told D cd m, w.heap.size ≤ W.heap.size ∧ e = .returned (.tuple #[.pointer (some ⟨gn, 0, none⟩), .int .i64 0]) ∧ NdSt W w' N gn gr gm gt K RA (itML K ([], firstF K) m).1 told told (itML K ([], firstF K) m).1.length D cd 0 ∧ (itML K ([], firstF K) m).2 = [] ∧ (∀ i, i < m → (itML K ([], firstF K) i).2 ≠ []) ∧ TolK K (itML K ([], firstF K) m).1 told
    else e = .returned (.tuple #[.pointer none, .int .i64 (knowsF K)])
set_option maxRecDepth 100000 in
set_option maxHeartbeats 4000000 in
theorem new_kn (A0 : Option Addr) (c0 B : Nat) (K : List KnC) (w : World) (h : KnIn w B A0 K) (hB : B ≤ w.heap.size) (hl : K.length ≤ 1048576) :
    Calls Try.prog 13 #[.slice A0 K.length c0] w (NewP K w) := by
  have HCK := Lib.hid (check_kn A0 c0 B K w h hB hl)
  have HST := Lib.hid (fun (w1 : World) (hb : Below w.heap.size w w1) (hn : (K.map (·.ref)).Nodup) (hkl : K.length ≤ 480) => start_kn A0 c0 B K w1 (h.below (hb.mono hB)) (Nat.le_trans hB hb.size) hn hkl)
  have h64 := h.k64
  have hall := h.all
  obtain ⟨r, hr⟩ : ∃ r, knowsF K = r := ⟨_, rfl⟩
  rw [hr] at HCK
  have HR := Lib.hid hr
  clear h hr
  go_enter Try.func13, Try.ntmps13
  go_wp2_with fail
  refine HCK.out.mono ?_
  rintro e w1 ⟨rfl, hb1⟩
  have HB1 := Lib.hid hb1
  clear hb1 HCK
  by_cases hr0 : r = 0
  case neg =>
    have e1 : (r != 0) = true := by simpa using hr0
    have HNZ := Lib.hid hr0
    clear hr0
    go_wp2_with fail
    go_ret2
    refine ⟨HB1.out, ?_⟩
    rw [if_neg (by rw [HR.out]; exact HNZ.out), HR.out]
    rfl
  subst hr0
  obtain ⟨hkl, hn⟩ := knows_zero HR.out
  have HSC := Lib.hid (HST.out w1 HB1.out hn hkl)
  clear HST
  go_wp2_with fail
  refine HSC.out.mono ?_
  rintro e w3 ⟨gn, gr, gm, gt, RA, A1, c1, rfl, hst3⟩
  have hb3 : Below w.heap.size w w3 := HB1.out.trans (hst3.bl.mono HB1.out.size)
  have HN3 := Lib.hid hst3.node
  have HF3 := Lib.hid hst3.firstRow
  have HB3 := Lib.hid hb3
  have HAP := Lib.hid (apart_first hn)
  clear hst3 hb3 HSC
  obtain ⟨p, hp⟩ : ∃ p, p = (([] : List Int), firstF K) := ⟨_, rfl⟩
  have HP0 := Lib.hid (show (itML K p 0).1 = [] ∧ (itML K p 0).2 = firstF K from by rw [hp]; exact ⟨rfl, rfl⟩)
  rw [← hp] at HAP
  have HPP := Lib.hid hp
  clear hp hn
  go_wp2_with fail
  go_loopg [6] (K.length + 1) (fun gk v6 wr => ∃ (d : Nat) (D : Option Addr) (cd : Nat) (told : List Int) (A : Option Addr) (c : Nat), gk = K.length + 1 - d ∧ v6 = .slice A (itML K p d).2.length c ∧ (∀ i, i < d → (itML K p i).2 ≠ []) ∧ NdSt w1 wr w3.heap.size gn gr gm gt K RA (itML K p d).1 told told (itML K p d).1.length D cd 0 ∧ RowZ wr (fun b => b < wr.heap.size ∧ ¬ Sp gn gm gt D b) A (ints (itML K p d).2) ∧ Below w.heap.size w wr ∧ TolK K (itML K p d).1 told)
  case atStart => exact ⟨0, none, 0, [], A1, c1, rfl, by rw [HP0.out.2], (fun i hi => by omega), by rw [HP0.out.1]; exact HN3.out, by rw [HP0.out.2]; exact HF3.out, HB3.out, by rw [HP0.out.1]; exact tol_nil K⟩
  case round =>
    clear HN3 HF3 HB3 HP0
    obtain ⟨d, D, cd, told, A, c, hgk, rfl, hall2, hst, hrow, hbw, htol⟩ := hrel
    have HTL := Lib.hid htol
    clear htol
    have HKK := Lib.hid hgk
    have HALL := Lib.hid hall2
    have hfew := few_levels HAP.out hall2
    clear hgk hall2
    by_cases hz : (itML K p d).2 = []
    · have hz0 : (itML K p d).2.length = 0 := by rw [hz]; rfl
      have HZ := Lib.hid hz
      have HS := Lib.hid hst
      have HBW := Lib.hid hbw
      have hz1 : ¬ (0 : Int) < ((itML K p d).2.length : Int) := by omega
      clear hz hst hrow hbw
      go_wp2_with fail
      go_ret2
      refine ⟨HBW.out, ?_⟩
      rw [if_pos HR.out, ← HPP.out]
      exact ⟨w1, w3.heap.size, gn, gr, gm, gt, RA, told, D, cd, d, HB1.out.size, rfl, HS.out, HZ.out, HALL.out, HTL.out⟩
    have hpos : 0 < (itML K p d).2.length := List.length_pos_iff.2 hz
    have HNE := Lib.hid (show ∀ i, i < d + 1 → (itML K p i).2 ≠ [] from fun i hi => by
      rcases Nat.lt_or_ge i d with h | h
      · exact HALL.out i h
      · obtain rfl : i = d := by omega
        exact hz)
    have hpos1 : (0 : Int) < ((itML K p d).2.length : Int) := by omega
    have hlo2 := apart_all HAP.out d
    have HST1 : Hid ((itML K p (d + 1)).1 = (itML K p d).1 ++ (itML K p d).2 ∧ (itML K p (d + 1)).2 = nextF K (itML K p d).1 (itML K p d).2) := ⟨rfl, rfl⟩
    have HOWN : Hid (∀ y ∈ (itML K p d).2, ownF K y = true) := fun y hy => by
      have := hlo2.2 y (List.mem_append_right _ hy)
      unfold ownF
      simpa using this
    obtain ⟨M, hM⟩ : ∃ M, (itML K p d).1 = M := ⟨_, rfl⟩
    obtain ⟨L, hL⟩ : ∃ L, (itML K p d).2 = L := ⟨_, rfl⟩
    rw [hM, hL] at HST1 hfew
    have HTL2 : Hid (TolK K M told) := by have := HTL.out; rw [hM] at this; exact this
    clear HTL
    rw [hM] at hst
    rw [hL] at hrow hpos1 HOWN hpos
    clear hM hz hlo2
    have hLen : (itML K p d).2.length = L.length := by rw [hL]
    rw [hLen]
    clear hL hLen
    have HLEV := Lib.hid (level_any A c L hst hrow HOWN.out (by omega) h64 hall hkl (by omega))
    have HSA := Lib.hid hst
    have HBW := Lib.hid hbw
    have HFW := Lib.hid hfew
    clear hst hrow hbw hpos hfew
    go_wp2_with fail
    refine HLEV.out.mono ?_
    rintro e w10 ⟨A', c', D', cd', rfl, hown', hst', hon', hD', hAD⟩
    have hhi := HSA.out.hi
    have hnw := HSA.out.nw
    have hA10 : RowZ w10 (fun b => b < w10.heap.size ∧ ¬ Sp gn gm gt D' b) A' (ints (nextF K M L)) := fun hq => by
      obtain ⟨b, o, e, hb, hc⟩ := hown'.row hq
      have h1 := own_lo' hown' b (by rw [e]; rfl)
      refine ⟨b, o, e, ⟨hb, fun e2 => ?_⟩, hc⟩
      rcases e2 with e2 | e2 | e2 | e2
      · omega
      · omega
      · omega
      · exact hAD b (by rw [e]; rfl) e2
    have hbw10 : Below w.heap.size w w10 := hon'.to_below HBW.out HBW.out.size (fun b hb => by
      have hlo := HSA.out.lo
      have := HB1.out.size
      rcases hb with e | e | e | e
      · omega
      · omega
      · omega
      · have := own_lo' HSA.out.du b e; omega)
    rw [lev_same] at hst'
    have HX1 := Lib.hid hst'
    have HX7 := Lib.hid (tol_lev (L := L) HTL2.out told)
    clear HTL2
    have HX4 := Lib.hid hA10
    have HX6 := Lib.hid hbw10
    clear hown' hst' hon' hD' hAD hA10 hbw10 hhi hnw
    go_wp2_with fail
    go_roundg (K.length + 1 - (d + 1))
    case measure => have := HKK.out; have := HFW.out; omega
    case rel => exact ⟨d + 1, D', cd', _, A', c', rfl, by rw [HST1.out.2], HNE.out, by rw [HST1.out.1, List.length_append]; exact HX1.out, by rw [HST1.out.2]; exact HX4.out, HX6.out, by rw [HST1.out.1]; exact HX7.out⟩

def leftF (K : List KnC) (M : List Int) : List Int := (K.map (·.ref)).filter fun y => !M.contains y
section
variable {W w : World} {N gn gr gm gt : Nat} {K : List KnC} {RA : Int → Option Addr × Nat} {M told due : List Int} {nM : Nat} {D : Option Addr} {cd : Nat} {came : Int}
set_option maxRecDepth 100000 in
set_option maxHeartbeats 4000000 in
theorem left_any (h : NdSt W w N gn gr gm gt K RA M told due nM D cd came) (hn : (K.map (·.ref)).Nodup) (hkl : K.length ≤ 480) :
    Calls Try.prog 24 #[.pointer (some ⟨gn, 0, none⟩)] w fun e w' => ∃ A c, e = .returned (.slice A (srtI (leftF K M)).length c) ∧ OwnAt w' w.heap.size 3 1 A (srtI (leftF K M)).length c (ints (srtI (leftF K M))) ∧ Below w.heap.size w w' := by
  have HH := Lib.hid h
  have HN := Lib.hid hn
  have HRF := Lib.hid h.refs
  have q0 : w.cell? ⟨gn, 0, none⟩ = some (.map (some gr)) := h.box.cell 0
  have hgr := h.refs.lt
  have hgm := SetB.lt h.mr
  have hgnl := h.box.lt
  clear h hn
  go_enter Try.func24, Try.ntmps24
  go_wp2_with (at_range; refine wpList_range_mapV rfl (.tmp 8) 58 23 rfl Try.underlying58 rfl HRF.out ?_; intro w8 cnt8 hrg ho8 hs8; have HRG := Lib.hid hrg; have HO8 := Lib.hid ho8; have HS8 := Lib.hid hs8; clear hrg ho8 hs8)
  obtain ⟨rr, hrr⟩ : ∃ rr, w.heap.size = rr := ⟨_, rfl⟩
  have hs8 : w8.heap.size = rr + 1 := by have := HS8.out; omega
  rw [hrr] at HRG ⊢
  go_frame
  go_loopg [3] cnt8 (fun gk v wr => ∃ (left : Int → Bool) (cn : Nat) (zs ys : List Int) (A9 : Option Addr) (c9 : Nat), gk = cn ∧ v = .slice A9 ys.length c9 ∧ RngV wr gr rr K.length (fun x => if ownF K x = true then some (.slice (RA x).1 (refsF K x).length (RA x).2) else none) left cn ∧ OwnAt wr (rr + 1) 3 1 A9 ys.length c9 (ints ys) ∧ (∀ x, left x = (ownF K x && !zs.contains x)) ∧ zs.Nodup ∧ (∀ y ∈ zs, ownF K y = true) ∧ ys = zs.filter (fun y => !M.contains y) ∧ Only (fun b => b = rr) w8 wr)
  case atStart => exact ⟨_, cnt8, [], [], none, 0, rfl, rfl, HRG.out, OwnAt.nil, fun x => by cases ownF K x <;> simp, by simp, (fun y hy => by cases hy), rfl, Only.refl _ _⟩
  case round =>
    clear HRG
    obtain ⟨left, cn, zs, ys, A9, c9, hgk, rfl, hrg, how, hleft, hnd, hsub, hys, hon⟩ := hrel
    have HK9 := Lib.hid hgk
    have HRG := Lib.hid hrg
    have HOW := Lib.hid how
    have HLF := Lib.hid hleft
    have HND := Lib.hid hnd
    have HSB := Lib.hid hsub
    have HYS := Lib.hid hys
    have HO9 := Lib.hid hon
    have hyl : ys.length ≤ 480 := by
      have h1 : zs.length ≤ 480 := Nat.le_trans (nodup_len zs (K.map (·.ref)) hnd (fun y hy => by
        have := hsub y hy
        unfold ownF at this
        simpa using this)) (by rw [List.length_map]; exact hkl)
      rw [hys]
      exact Nat.le_trans (List.length_filter_le _ _) h1
    clear hgk hrg how hleft hnd hsub hys hon
    go_wp2_with (at_next; refine wpList_next_mapV rfl (.tmp 9) rfl rfl HRG.out ?_ ?_)
    · intro hl
      have HEQ : Hid (srtI ys = srtI (leftF K M)) := by
        show _ = _
        rw [HYS.out]
        unfold leftF
        refine srtI_set (List.Nodup.sublist List.filter_sublist HND.out) (List.Nodup.sublist List.filter_sublist HN.out) fun x => ?_
        rw [List.mem_filter, List.mem_filter]
        refine and_congr ⟨fun hx => ?_, fun hx => ?_⟩ Iff.rfl
        · have := HSB.out x hx
          unfold ownF at this
          simpa using this
        · have h1 := hl x
          rw [HLF.out x, show ownF K x = true by unfold ownF; simpa using hx, Bool.true_and] at h1
          simpa using h1
      have hbw : Below rr w wr := by
        have h1 : Below rr w w8 := HO8.out.to_below (Below.refl _ _) (by omega) (fun _ e => e.elim)
        exact HO9.out.to_below h1 (by omega) (fun b e => by omega)
      have HBW := Lib.hid hbw
      have HSO := Lib.hid (sort_own A9 ys.length c9 (rr + 1) ys wr HOW.out rfl (by omega))
      clear hl hbw
      go_wp2_with fail
      refine HSO.out.mono ?_
      rintro e w10 ⟨rfl, hos, hon⟩
      have hb10 : Below rr w w10 := hon.to_below HBW.out (by have := HBW.out.size; omega) (fun b hb => by have := own_lo' HOW.out b hb; omega)
      rw [HEQ.out] at hos
      have hlen : ys.length = (srtI (leftF K M)).length := by rw [← HEQ.out, srtI_len]
      rw [hlen] at hos
      have HB10 := Lib.hid (show Below w.heap.size w w10 by rw [hrr]; exact hb10)
      have HOS := Lib.hid hos
      clear hos hon hb10
      go_wp2_with fail
      go_ret
      exact ⟨A9, c9, rfl, HOS.out.lower (by omega), HB10.out⟩
    · intro x9 v9 w9 cn9 hx9 hl9 hF9 hFv9 hrg9 hlt9 ho9 hs9 hen
      have hin : ownF K x9 = true := hF9
      subst hFv9
      have hout : x9 ∉ zs := by
        have h1 := HLF.out x9
        rw [hl9] at h1
        intro h2
        rw [show zs.contains x9 = true by simpa using h2] at h1
        simp at h1
      have hA9 : ∀ b, A9.map (·.block) = some b → b ≠ rr ∧ b ≠ gr := fun b hb => by have := own_lo' HOW.out b hb; omega
      have hol : Only (fun b => b = rr) w8 w9 := HO9.out.trans ho9
      have hbA : Below rr w w9 := hol.to_below (HO8.out.to_below (Below.refl _ _) (by omega) (fun _ e => e.elim)) (by omega) (fun b e => by omega)
      have hst9 := HH.out.below (w' := w9) (by rw [hrr]; exact hbA)
      have hlm := hst9.look_mark hx9
      have q1 : w9.cell? ⟨gn, 1, none⟩ = some (.map (some gm)) := hst9.box.cell 1
      have HOWB := Lib.hid (HOW.out.only ho9 (fun b hb e => (hA9 b hb).1 e))
      have HR9 := Lib.hid hrg9
      have HL9 := Lib.hid hlt9
      have HP9 := Lib.hid hol
      have HLT : Hid (∀ z, (left z && !(z == x9)) = (ownF K z && !(zs ++ [x9]).contains z)) := fun z => by
        rw [HLF.out z]
        by_cases e : z = x9
        · subst e; simp
        · simp [e]
      have HN9 : Hid ((zs ++ [x9]).Nodup) := by
        show List.Nodup _
        rw [List.nodup_append]
        exact ⟨HND.out, by simp, fun a ha b hb e => by rw [List.mem_singleton] at hb; subst hb e; exact hout ha⟩
      have HS9 : Hid (∀ y ∈ zs ++ [x9], ownF K y = true) := fun y hy => by
        rcases List.mem_append.1 hy with hy | hy
        · exact HSB.out y hy
        · rw [List.mem_singleton.1 hy]; exact hin
      have HA9 := Lib.hid hA9
      clear hx9 hl9 hF9 hrg9 hlt9 ho9 hin hout hA9 hol hbA hst9 hs9
      cases hm : M.contains x9 with
      | true =>
        rw [hm] at hlm
        have HY9 : Hid (ys = (zs ++ [x9]).filter (fun y => !M.contains y)) := by show _ = _; rw [List.filter_append, ← HYS.out]; simp [show x9 ∈ M by simpa using hm]
        clear hm
        go_wp2_with fail
        go_roundg cn9
        case measure => rw [HK9.out]; exact HL9.out
        case rel => exact ⟨_, cn9, zs ++ [x9], ys, A9, c9, rfl, rfl, HR9.out, HOWB.out, HLT.out, HN9.out, HS9.out, HY9.out, HP9.out⟩
      | false =>
        rw [hm] at hlm
        have HY9 : Hid (ys ++ [x9] = (zs ++ [x9]).filter (fun y => !M.contains y)) := by show _ = _; rw [List.filter_append, ← HYS.out]; simp [show x9 ∉ M by simpa using hm]
        have HOW9 := Lib.hid (HOWB.out.alloc (.cells #[.int .i64 x9] 3))
        have e0 : (w9.alloc (.cells #[.int .i64 x9] 3)).cell? ⟨w9.heap.size, 0, none⟩ = some (.int .i64 x9) := (Box.new w9 3 #[.int .i64 x9]).cell 0
        have HE0 := Lib.hid e0
        have HBS : Hid (rr + 1 ≤ (w9.alloc (.cells #[.int .i64 x9] 3)).heap.size) := by show _ ≤ _; simp; have := HP9.out.size; omega
        have HYL : Hid (ys.length + 1 ≤ 4398046511104) := by show _ ≤ _; omega
        clear hm e0
        go_wp2_with (at_builtin; refine wpList_append_k rfl (.tmp 21) (.tmp 23) rfl (rr + 1) A9 c9 ys rfl HOW9.out w9.heap.size x9 rfl HE0.out HYL.out HBS.out ?_; intro A5 c5 w5 j1 j2 j3; have H5 := Lib.hid j1; have HG5 := Lib.hid j2; clear j1 j2 j3)
        have ho5 : Only (fun b => A9.map (·.block) = some b) w9 w5 := (Only.refl _ w9).alloc (.cells #[.int .i64 x9] 3) |>.trans ⟨HG5.out.os, HG5.out.tape, HG5.out.output, HG5.out.size, fun i hi hne => HG5.out.block i hi (fun e => hne e.symm)⟩
        have HR5 := Lib.hid (HR9.out.only ho5 (fun e => (HA9.out _ e).2 rfl) (fun e => (HA9.out _ e).1 rfl))
        have HO5 := Lib.hid (only_trans2 HP9.out ho5 (fun i hi e => by have := own_lo' HOW.out i e; omega))
        clear ho5
        go_roundg cn9
        case measure => rw [HK9.out]; exact HL9.out
        case rel => exact ⟨_, cn9, zs ++ [x9], ys ++ [x9], A5, c5, rfl, by simp, HR5.out, H5.out, HLT.out, HN9.out, HS9.out, HY9.out, HO5.out⟩
end
/-- How garbage is handed back. -/
def GarbP (K : List KnC) (w : World) (e : Ending) (w' : World) : Prop :=
  Below w.heap.size w w' ∧ if knowsF K = 0 then ∃ A c, e = .returned (.tuple #[.slice A (srtI (deadF (zipK K (aliveF K)))).length c, .int .i64 0]) ∧ Row w' w'.heap.size A (ints (srtI (deadF (zipK K (aliveF K)))))
    else e = .returned (.tuple #[.slice none 0 0, .int .i64 (knowsF K)])
set_option maxRecDepth 100000 in
set_option maxHeartbeats 1000000 in
theorem garbage_kn (A0 : Option Addr) (c0 B : Nat) (K : List KnC) (w : World) (h : KnIn w B A0 K) (hB : B ≤ w.heap.size) (hl : K.length ≤ 1048576) :
    Calls Try.prog 5 #[.slice A0 K.length c0] w (GarbP K w) := by
  have HNW := Lib.hid (new_kn A0 c0 B K w h hB hl)
  clear h
  go_enter Try.func5, Try.ntmps5
  go_wp2_with fail
  refine HNW.out.mono ?_
  rintro e w1 ⟨hb1, hnw⟩
  have HB1 := Lib.hid hb1
  clear hb1 HNW
  by_cases hr0 : knowsF K = 0
  case neg =>
    rw [if_neg hr0] at hnw
    subst hnw
    obtain ⟨r, hr⟩ : ∃ r, knowsF K = r := ⟨_, rfl⟩
    rw [hr] at hr0 ⊢
    have e1 : (r != 0) = true := by simpa using hr0
    have HNZ := Lib.hid hr0
    have HR := Lib.hid hr
    clear hr0 hr
    go_wp2_with fail
    go_ret2
    refine ⟨HB1.out, ?_⟩
    rw [if_neg (by rw [HR.out]; exact HNZ.out), HR.out]
    rfl
  rw [if_pos hr0] at hnw
  obtain ⟨W, N, gn, gr, gm, gt, RA, told, D, cd, m, hW, rfl, hst, hm, hb, _⟩ := hnw
  obtain ⟨hkl, hn⟩ := knows_zero hr0
  have HLF := Lib.hid (left_any hst hn hkl)
  have HEQ : Hid (srtI (leftF K (itML K ([], firstF K) m).1) = srtI (deadF (zipK K (aliveF K)))) := by
    show _ = _
    unfold leftF
    refine srtI_set (List.Nodup.sublist List.filter_sublist hn) (zip_nodup (Dk_inv K K.length).1 hn _) fun x => ?_
    rw [List.mem_filter]
    constructor
    · rintro ⟨h1, h2⟩
      exact (left_mem hn hm hb x h1).1 (by simpa using h2)
    · intro h1
      obtain ⟨j, hj, rfl, _⟩ := (dead_mem (Dk_inv K K.length).1 x).1 h1
      have h2 : rfK K j ∈ K.map (·.ref) := List.mem_map.2 ⟨_, getD_mem knc0 hj, rfl⟩
      exact ⟨h2, by simpa using (left_mem hn hm hb _ h2).2 h1⟩
  rw [HEQ.out] at HLF
  have HR0 := Lib.hid hr0
  clear hst hm hb hn hr0 hW
  go_wp2_with fail
  refine HLF.out.mono ?_
  rintro e w2 ⟨A, c, rfl, how, hb2⟩
  have HOW := Lib.hid how.row
  have HB2 := Lib.hid (HB1.out.trans (hb2.mono HB1.out.size))
  clear how hb2
  go_wp2_with fail
  go_ret2
  refine ⟨HB2.out, ?_⟩
  rw [if_pos HR0.out]
  exact ⟨A, c, rfl, HOW.out⟩
end Go.Proofs.Ytbhdagjilmgahaa
