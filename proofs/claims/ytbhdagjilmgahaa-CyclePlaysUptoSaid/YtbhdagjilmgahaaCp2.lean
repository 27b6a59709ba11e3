
/-
  cycle: (*Node).Come.
-/
import Derived.Test.YtbhdagjilmgahaaCp1
namespace Go.Proofs.Ytbhdagjilmgahaa
open Go.RowKit Go.Maps

section
variable {W w : World} {N gn gr gm gt : Nat} {K : List KnC} {RA : Int → Option Addr × Nat} {M told due : List Int} {nM : Nat} {D : Option Addr} {cd : Nat} {came : Int}
/-- The number of messages that came, stored. -/
theorem NdSt.cameS (h : NdSt W w N gn gr gm gt K RA M told due nM D cd came) (v : Int) : NdSt W (w.setCell ⟨gn, 4, none⟩ (.int .i64 v)) N gn gr gm gt K RA M told due nM D cd v ∧ Only (fun b => b = gn) w (w.setCell ⟨gn, 4, none⟩ (.int .i64 v)) := by
  have ho : Only (fun b => b = gn) w (w.setCell ⟨gn, 4, none⟩ (.int .i64 v)) := Only.set (S := fun b => b = gn) (Only.refl _ w) (p := ⟨gn, 4, none⟩) rfl _
  obtain ⟨k1, k2, k3, k4, _, k6, k7⟩ := h.turn ho (.inr (.inr rfl))
  have hne := h.ne
  have hbx := h.box.set 4 (.int .i64 v)
  exact ⟨⟨k1, hbx, k2 (by omega), k3, k6 (by omega), k7 (by omega), k4, Nat.le_trans h.nw ho.size, h.lo, h.hi, h.ne, h.dn, h.tn, h.dl⟩, ho⟩
/-- What a mark message leaves. -/
def ComP (W w : World) (N gn gr gm gt : Nat) (K : List KnC) (RA : Int → Option Addr × Nat) (M out : List Int) (D : Option Addr) (came r : Int) (e : Ending) (w' : World) : Prop :=
  ∃ M' told' due' D' cd', e = .returned (.int .i64 0) ∧ NdSt W w' N gn gr gm gt K RA M' told' due' M'.length D' cd' (came + 1) ∧ TolK K M' told' ∧ DueK told' due' out ∧ M'.Nodup ∧ (∀ y ∈ M', ownF K y = true)
    ∧ ((r ∈ M ∧ M' = M) ∨ (r ∉ M ∧ ∃ m, (itML K (M, [r]) m).2 = [] ∧ M' = (itML K (M, [r]) m).1)) ∧ Only (Sp gn gm gt D) w w' ∧ (∀ b, D'.map (·.block) = some b → D.map (·.block) = some b ∨ w.heap.size ≤ b)
theorem idx_one (w : World) (g o : Nat) (L : List Int) (h : ∀ i v, (ints L)[i]? = some v → w.cell? ⟨g, o + i, none⟩ = some v) (hp : 0 < L.length) : w.cell? ⟨g, o, none⟩ = some (.int .i64 (L.getD 0 0)) := h 0 _ (at_ints L hp)
set_option maxRecDepth 100000 in
set_option maxHeartbeats 4000000 in
theorem come_no {r : Int} (h : NdSt W w N gn gr gm gt K RA M told due nM D cd came) (hr : I64 r) (hno : ownF K r = false) :
    Calls Try.prog 19 #[.pointer (some ⟨gn, 0, none⟩), .int .i64 r] w fun e w' => e = .returned (.int .i64 4) ∧ w' = w := by
  have hlo := h.refs.look_ok ints_keyed (t := 58) (e := 23) Try.underlying58 (zero_rowK w) (int_key hr)
  rw [hno] at hlo
  have q0 : w.cell? ⟨gn, 0, none⟩ = some (.map (some gr)) := h.box.cell 0
  clear h hr hno
  go_enter Try.func19, Try.ntmps19
  go_wp2_with fail
  go_ret
  exact ⟨rfl, rfl⟩
set_option maxRecDepth 100000 in
set_option maxHeartbeats 4000000 in
theorem come_any {r : Int} {out : List Int} (h : NdSt W w N gn gr gm gt K RA M told due M.length D cd came) (hown : ownF K r = true) (h64 : K64 K) (hK : (allR K).length ≤ 1048576) (hKl : K.length ≤ 480) (hMn : M.Nodup) (hMo : ∀ y ∈ M, ownF K y = true) (htol : TolK K M told) (hdue : DueK told due out) (hc0 : 0 ≤ came) (hc1 : came ≤ 4398046511104) :
    Calls Try.prog 19 #[.pointer (some ⟨gn, 0, none⟩), .int .i64 r] w (ComP W w N gn gr gm gt K RA M out D came r) := by
  have hr := own_64 h64 hown
  have hlo := h.refs.look_ok ints_keyed (t := 58) (e := 23) Try.underlying58 (zero_rowK w) (int_key hr)
  rw [hown] at hlo
  have q0 : w.cell? ⟨gn, 0, none⟩ = some (.map (some gr)) := h.box.cell 0
  have q4 : w.cell? ⟨gn, 4, none⟩ = some (.int .i64 came) := h.box.cell 4
  have f4 : w.frozen? ⟨gn, 4, none⟩ = false := h.box.frozen 4
  have hML : M.length ≤ 480 := by
    have := nodup_len M (K.map (·.ref)) hMn fun y hy => by have := hMo y hy; unfold ownF at this; simpa using this
    rw [List.length_map] at this
    omega
  obtain ⟨h1, ho1⟩ := h.cameS (came + 1)
  have hsz : (w.setCell ⟨gn, 4, none⟩ (.int .i64 (came + 1))).heap.size = w.heap.size := by simp
  have h2 := h1.alloc (.cells #[.int .i64 r] 3)
  have hbx := Box.new (w.setCell ⟨gn, 4, none⟩ (.int .i64 (came + 1))) 3 #[.int .i64 r]
  rw [hsz] at hbx
  have ho2 : Only (Sp gn gm gt D) w ((w.setCell ⟨gn, 4, none⟩ (.int .i64 (came + 1))).alloc (.cells #[.int .i64 r] 3)) := (ho1.more (fun b e => .inl e)).alloc _
  have hhi := h.hi
  have hnw := h.nw
  have hdb : ∀ b, D.map (·.block) = some b → b < w.heap.size := fun b hb => by
    rcases h.du.form with ⟨rfl, _⟩ | ⟨g, o, rfl⟩
    · cases hb
    · have := h.du.lt
      simp at hb
      omega
  have HOW := Lib.hid hown
  have HH2 := Lib.hid h2
  have HO2 := Lib.hid ho2
  have HR2 := Lib.hid (show RowZ ((w.setCell ⟨gn, 4, none⟩ (.int .i64 (came + 1))).alloc (.cells #[.int .i64 r] 3)) (fun b => b < ((w.setCell ⟨gn, 4, none⟩ (.int .i64 (came + 1))).alloc (.cells #[.int .i64 r] 3)).heap.size ∧ ¬ Sp gn gm gt D b) (some ⟨w.heap.size, 0, none⟩) (ints [r]) from fun _ =>
    ⟨w.heap.size, 0, rfl, ⟨by simp, fun e => by
      rcases e with e | e | e | e
      · omega
      · omega
      · omega
      · have := hdb _ e; omega⟩, fun i v hv => by
      match i, hv with
      | 0, hv => simp [ints] at hv; subst hv; exact hbx.cell 0
      | i + 1, hv => simp [ints] at hv⟩)
  have HAP : Hid (r ∉ M → Apart K (M, [r])) := fun hno => by
    obtain ⟨i, hi, rfl⟩ := (ownF_mem K r).1 hown
    exact come_apart hMn hMo hi hno
  have HMN := Lib.hid hMn
  have HMO := Lib.hid hMo
  have HTL := Lib.hid htol
  have HDU := Lib.hid hdue
  have hnew : ∀ b, D.map (·.block) = some b → D.map (·.block) = some b ∨ w.heap.size ≤ b := fun b hb => .inl hb
  have HNW := Lib.hid hnew
  obtain ⟨p, hp⟩ : ∃ p, p = ((M, [r]) : List Int × List Int) := ⟨_, rfl⟩
  have HP0 := Lib.hid (show (itML K p 0).1 = M ∧ (itML K p 0).2 = [r] from by rw [hp]; exact ⟨rfl, rfl⟩)
  have HPP := Lib.hid hp
  clear h h1 h2 ho1 ho2 hbx hMn hMo htol hdue hown hnew hp hdb hhi hnw hsz
  go_enter Try.func19, Try.ntmps19
  go_wp2_with fail
  go_loopg [7] (K.length + 2) (fun gk v7 wr => ∃ (d : Nat) (D' : Option Addr) (cd' : Nat) (told' due' : List Int) (A : Option Addr) (c : Nat), gk = K.length + 2 - d ∧ v7 = .slice A (itML K p d).2.length c ∧ (∀ i, i < d → (itML K p i).2 ≠ []) ∧ (r ∈ M → d = 0) ∧ NdSt W wr N gn gr gm gt K RA (itML K p d).1 told' due' (itML K p d).1.length D' cd' (came + 1) ∧ RowZ wr (fun b => b < wr.heap.size ∧ ¬ Sp gn gm gt D' b) A (ints (itML K p d).2) ∧ Only (Sp gn gm gt D) w wr ∧ (∀ b, D'.map (·.block) = some b → D.map (·.block) = some b ∨ w.heap.size ≤ b) ∧ TolK K (itML K p d).1 told' ∧ DueK told' due' out)
  case atStart => exact ⟨0, D, cd, told, due, _, 1, rfl, by rw [HP0.out.2]; rfl, (fun i hi => by omega), (fun _ => rfl), by rw [HP0.out.1]; exact HH2.out, by rw [HP0.out.2]; exact HR2.out, HO2.out, HNW.out, by rw [HP0.out.1]; exact HTL.out, HDU.out⟩
  case round =>
    clear HH2 HR2 HO2 HNW HTL HDU
    obtain ⟨d, D', cd', told', due', A, c, hgk, rfl, hall2, hd0, hst, hrow, hon, hnd, htl, hdu⟩ := hrel
    have HKK := Lib.hid hgk
    have HTL := Lib.hid htl
    have HDU := Lib.hid hdu
    have HON := Lib.hid hon
    have HND := Lib.hid hnd
    have HD0 := Lib.hid hd0
    have HALL := Lib.hid hall2
    have hwsz := hon.size
    clear hgk htl hdu hon hnd hd0 hall2
    have q1 : wr.cell? ⟨gn, 1, none⟩ = some (.map (some gm)) := hst.box.cell 1
    by_cases hz : (itML K p d).2 = []
    · have hz0 : (itML K p d).2.length = 0 := by rw [hz]; rfl
      have hnr : r ∉ M := fun hr => by
        have e := HD0.out hr
        subst e
        rw [HP0.out.2] at hz
        cases hz
      have HS := Lib.hid hst
      have HAA := Lib.hid (apart_all (show Apart K p by rw [HPP.out]; exact HAP.out hnr) d)
      have HZ := Lib.hid hz
      have HNR := Lib.hid hnr
      have hz1 : decide ((0 : Int) < ((itML K p d).2.length : Int)) = false := decide_eq_false (by omega)
      clear hz hst hrow hnr
      go_upto_region 6 with fail
      go_quiet (fail)
      go_wp2_with fail
      go_ret
      have haa := HAA.out
      refine ⟨(itML K p d).1, told', due', D', cd', rfl, HS.out.below (below_drewN (Below.refl _ _) _), HTL.out, HDU.out, (List.nodup_append.1 haa.1).1, fun y hy => ?_, .inr ⟨HNR.out, d, ?_, ?_⟩, HON.out.trans (Only.of_below (below_drewN (Below.refl _ _) _)), HND.out⟩
      · have := haa.2 y (List.mem_append_left _ hy)
        unfold ownF
        simpa using this
      · rw [← HPP.out]; exact HZ.out
      · rw [← HPP.out]
    have hpos : 0 < (itML K p d).2.length := List.length_pos_iff.2 hz
    obtain ⟨b1, o1, rfl, hb1, hcl⟩ := hrow (by rw [ints_len]; exact hpos)
    have hce := idx_one wr b1 o1 _ hcl hpos
    have hdec : decide ((0 : Int) < ((itML K p d).2.length : Int)) = true := decide_eq_true (by omega)
    have hlt0 : (0 : Int) < ((itML K p d).2.length : Int) := by omega
    by_cases hrM : r ∈ M
    · obtain rfl := HD0.out hrM
      have e1 := HP0.out
      have hy : (itML K p 0).2.getD 0 0 = r := by rw [e1.2]; rfl
      have hlk := fun m => (hst.below (below_drewN (Below.refl _ wr) m)).look_mark hr
      have hct : (itML K p 0).1.contains r = true := by rw [e1.1]; simpa using hrM
      rw [hct] at hlk
      rw [hy] at hce
      have HS := Lib.hid hst
      have HRM := Lib.hid hrM
      clear hst hrow hcl hy hct e1 hz hrM
      go_upto_region 6 with fail
      go_quiet (fail)
      go_wp2_with fail
      go_ret
      have e1 := HP0.out
      refine ⟨(itML K p 0).1, told', due', D', cd', rfl, HS.out.below (below_drewN (Below.refl _ _) _), HTL.out, HDU.out, by rw [e1.1]; exact HMN.out, by rw [e1.1]; exact HMO.out, .inl ⟨HRM.out, e1.1⟩, HON.out.trans (Only.of_below (below_drewN (Below.refl _ _) _)), HND.out⟩
    have HAA := Lib.hid (show Apart K p by rw [HPP.out]; exact HAP.out hrM)
    have hap := apart_all HAA.out d
    have HNE := Lib.hid (show ∀ i, i < d + 1 → (itML K p i).2 ≠ [] from fun i hi => by
      rcases Nat.lt_or_ge i d with h | h
      · exact HALL.out i h
      · obtain rfl : i = d := by omega
        exact hz)
    have hfew := few_levels HAA.out HALL.out
    have hyo : ownF K ((itML K p d).2.getD 0 0) = true := by
      have := hap.2 _ (List.mem_append_right _ (getD_mem 0 hpos))
      unfold ownF
      simpa using this
    have hlk := fun m => (hst.below (below_drewN (Below.refl _ wr) m)).look_mark (own_64 h64 hyo)
    have hct : (itML K p d).1.contains ((itML K p d).2.getD 0 0) = false := by
      have h1 : (itML K p d).2.getD 0 0 ∉ (itML K p d).1 := fun h => (List.nodup_append.1 hap.1).2.2 _ h _ (getD_mem 0 hpos) rfl
      simpa using h1
    rw [hct] at hlk
    have HST1 : Hid ((itML K p (d + 1)).1 = (itML K p d).1 ++ (itML K p d).2 ∧ (itML K p (d + 1)).2 = nextF K (itML K p d).1 (itML K p d).2) := ⟨rfl, rfl⟩
    have HOWN : Hid (∀ y ∈ (itML K p d).2, ownF K y = true) := fun y hy => by
      have := hap.2 y (List.mem_append_right _ hy)
      unfold ownF
      simpa using this
    have HNR := Lib.hid hrM
    clear hct hyo hap hz hrM HAP HALL
    generalize (itML K p d).2.getD 0 0 = y at *
    obtain ⟨M1, hM⟩ : ∃ M1, (itML K p d).1 = M1 := ⟨_, rfl⟩
    obtain ⟨L, hL⟩ : ∃ L, (itML K p d).2 = L := ⟨_, rfl⟩
    have HTL2 : Hid (TolK K M1 told') := by have := HTL.out; rw [hM] at this; exact this
    clear HTL
    rw [hM, hL] at HST1 hfew
    rw [hM] at hst
    rw [hL] at hrow hdec hlt0 HOWN hpos
    have hLen : (itML K p d).2.length = L.length := by rw [hL]
    rw [hLen]
    clear hM hL hLen hcl
    have HLEV := Lib.hid (fun (m : Nat) => level_any (some ⟨b1, o1, none⟩) c L (hst.below (below_drewN (Below.refl _ wr) m)) hrow HOWN.out (by omega) h64 hK hKl (by omega))
    have hdecN : decide (0 < L.length) = true := decide_eq_true hpos
    have HSA := Lib.hid hst
    have HFW := Lib.hid hfew
    clear hst hrow hfew hb1
    go_upto_region 6 with fail
    go_quiet (fail)
    go_wp2_with fail
    refine (HLEV.out nq).mono ?_
    rintro e w10 ⟨A', c', D2, cd2, rfl, hown', hst', hon', hD', hAD⟩
    have hhi := HSA.out.hi
    have hnw := HSA.out.nw
    have hszd : (wr.drewN nq).heap.size = wr.heap.size := rfl
    have hA10 : RowZ w10 (fun b => b < w10.heap.size ∧ ¬ Sp gn gm gt D2 b) A' (ints (nextF K M1 L)) := fun hq => by
      obtain ⟨b, o, e, hb, hc⟩ := hown'.row hq
      have h1 := own_lo' hown' b (by rw [e]; rfl)
      refine ⟨b, o, e, ⟨hb, fun e2 => ?_⟩, hc⟩
      rcases e2 with e2 | e2 | e2 | e2
      · omega
      · omega
      · omega
      · exact hAD b (by rw [e]; rfl) e2
    have hon10 : Only (Sp gn gm gt D) w w10 := only_trans2 (HON.out.trans (Only.of_below (below_drewN (Below.refl _ wr) nq))) hon' fun i hi hs => by
      rcases hs with e | e | e | e
      · exact .inl e
      · exact .inr (.inl e)
      · exact .inr (.inr (.inl e))
      · rcases HND.out i e with h | h
        · exact .inr (.inr (.inr h))
        · omega
    have hnd10 : ∀ b, D2.map (·.block) = some b → D.map (·.block) = some b ∨ w.heap.size ≤ b := fun b hb => by
      rcases hD' b hb with h | h
      · exact HND.out b h
      · exact .inr (by omega)
    have HX1 := Lib.hid hst'
    have HX4 := Lib.hid hA10
    have HX5 := Lib.hid hon10
    have HX6 := Lib.hid hnd10
    have HX7 := Lib.hid (tol_lev (L := L) HTL2.out due')
    have HX8 := Lib.hid (due_lev (K := K) (M := M1) (L := L) HDU.out hst'.tn.1)
    clear hown' hst' hon' hD' hAD hA10 hon10 hnd10 hhi hnw HTL2 hszd
    go_wp2_with fail
    go_roundg (K.length + 2 - (d + 1))
    case measure => have := HKK.out; have := HFW.out; omega
    case rel => exact ⟨d + 1, D2, cd2, _, _, A', c', rfl, by rw [HST1.out.2], HNE.out, (fun h => absurd h HNR.out), by rw [HST1.out.1, List.length_append]; exact HX1.out, by rw [HST1.out.2]; exact HX4.out, HX5.out, HX6.out, by rw [HST1.out.1]; exact HX7.out, HX8.out⟩
end
end Go.Proofs.Ytbhdagjilmgahaa
