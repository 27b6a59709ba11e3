
/-
  cycle: the node as start hands it back; Passes.
-/
import Derived.Test.YtbhdagjilmgahaaKn5
namespace Go.Proofs.Ytbhdagjilmgahaa
open Go.RowKit

section
variable {W w w' : World} {gn gr gm gt : Nat} {K : List KnC} {RA : Int → Option Addr × Nat} {fs : List Int} {A1 : Option Addr} {c1 : Nat}
theorem recs_all (K : List KnC) (x : Int) : recs K K.length x = ownF K x := by
  unfold recs ownF
  rw [List.take_length]
theorem StS.node (h : StS W w gn gr gm gt K K.length RA fs A1 c1) : NdSt W w w.heap.size gn gr gm gt K RA [] [] [] 0 none 0 0 := by
  have hl := h.lt
  refine ⟨h.bl, h.box, ?_, fun x hx hp => ?_, h.mr, h.tl, OwnAt.nil, Nat.le_refl _, h.lo, hl, h.ne, (fun b hb => by cases hb), ⟨by simp, fun y hy => by cases hy⟩, Nat.le_refl _⟩
  · refine Eq.mp ?_ h.refs
    congr 1
    funext x
    rw [recs_all]
  · obtain ⟨b, o, e, hb, hc⟩ := h.rows x (by rw [recs_all]; exact hx) hp
    exact ⟨b, o, e, ⟨hb.1, hb.2.1, hb.2.2.1, hb.2.2.2.1, hb.2.2.2.2.1⟩, hc⟩
theorem StS.firstRow (h : StS W w gn gr gm gt K K.length RA fs A1 c1) : RowZ w (fun b => b < w.heap.size ∧ ¬ Sp gn gm gt none b) A1 (ints fs) := fun hp => by
  obtain ⟨b, o, e, hb, hc⟩ := h.fi.row hp
  have hf := h.fn b (by rw [e]; rfl)
  refine ⟨b, o, e, ⟨hb, fun e => ?_⟩, hc⟩
  rcases e with e | e | e | e
  · exact hf.1 e
  · exact hf.2.2.1 e
  · exact hf.2.2.2 e
  · cases e
theorem StS.sorted (h : StS W w gn gr gm gt K K.length RA fs A1 c1) (ho : Only (fun b => A1.map (·.block) = some b) w w') (hown : OwnAt w' W.heap.size 3 1 A1 fs.length c1 (ints (srtI fs))) : StS W w' gn gr gm gt K K.length RA (srtI fs) A1 c1 :=
  h.first ⟨ho.os, ho.tape, ho.output, ho.size, fun i hi hne => ho.block i hi (fun e => hne e.symm)⟩ (by rw [srtI_len]; exact hown) (fun _ e => .inl e)
end
/-- A slice as it stands in a cell. -/
structure SlZ where
  A : Option Addr
  len : Nat
  cap : Nat
def slz0 : SlZ := ⟨none, 0, 0⟩
def slZ (x : SlZ) : List Value := [.slice x.A x.len x.cap]
theorem slZ_len (x : SlZ) : (slZ x).length = 1 := rfl
theorem sl_partsK : ∃ i z, Try.prog.info? 23 = some i ∧ i.zero = some z ∧ i.size = 1 ∧ i.bytes = 24 ∧ z.cells.size = 1 := by
  have h : (Try.prog.info? 23).map (fun i => (i.zero, i.size, i.bytes)) = some (some (.slice none 0 0), 1, 24) := by kernel_rfl
  cases hi : Try.prog.info? 23 with
  | none => rw [hi] at h; cases h
  | some i =>
    rw [hi] at h
    simp only [Option.map_some, Option.some.injEq, Prod.mk.injEq] at h
    exact ⟨i, _, rfl, h.1, h.2.1, h.2.2, rfl⟩
/-- Rows of ints, read one by one in blocks of S. -/
def RowsZ (w : World) (S : Nat → Prop) (l : List SlZ) (P : List (List Int)) : Prop := l.length = P.length ∧ ∀ i, i < l.length → (l.getD i slz0).len = (P.getD i []).length ∧ RowZ w S (l.getD i slz0).A (ints (P.getD i []))
theorem RowsZ.off {w w' : World} {S T T' : Nat → Prop} {l : List SlZ} {P : List (List Int)} (h : RowsZ w T l P) (ho : Only S w w') (hT : ∀ b, T b → b < w.heap.size ∧ ¬ S b) (hm : ∀ b, T b → T' b) : RowsZ w' T' l P :=
  ⟨h.1, fun i hi => ⟨(h.2 i hi).1, (h.2 i hi).2.off ho hT hm⟩⟩
theorem RowsZ.push {w : World} {S : Nat → Prop} {l : List SlZ} {P : List (List Int)} {x : SlZ} {p : List Int} (h : RowsZ w S l P) (h1 : x.len = p.length) (h2 : RowZ w S x.A (ints p)) : RowsZ w S (l ++ [x]) (P ++ [p]) := by
  have hl := h.1
  refine ⟨by simp [hl], fun i hi => ?_⟩
  simp only [List.length_append, List.length_singleton] at hi
  simp only [List.getD_eq_getElem?_getD]
  rcases Nat.lt_or_ge i l.length with hlt | hge
  · have := h.2 i hlt
    rw [List.getElem?_append_left hlt, List.getElem?_append_left (by omega)]
    simpa only [List.getD_eq_getElem?_getD] using this
  · obtain rfl : i = l.length := by omega
    rw [List.getElem?_append_right (Nat.le_refl _), List.getElem?_append_right (by omega), Nat.sub_self, show l.length - P.length = 0 by omega]
    exact ⟨h1, h2⟩
def levsF (K : List KnC) (p : List Int × List Int) (m : Nat) : List (List Int) := (List.range m).map fun d => (itML K p d).2
theorem levs_succ (K : List KnC) (p : List Int × List Int) (m : Nat) : levsF K p (m + 1) = levsF K p m ++ [(itML K p m).2] := by
  unfold levsF
  rw [List.range_succ, List.map_append]
  rfl
theorem levs_len (K : List KnC) (p : List Int × List Int) (m : Nat) : (levsF K p m).length = m := by simp [levsF]
/-- How levels are handed back. -/
def PassP (K : List KnC) (W : World) (e : Ending) (w' : World) : Prop :=
  Below W.heap.size W w' ∧ if knowsF K = 0 then ∃ m A c l, (itML K ([], srtI (firstF K)) m).2 = [] ∧ (∀ i, i < m → (itML K ([], srtI (firstF K)) i).2 ≠ []) ∧ e = .returned (.tuple #[.slice A m c, .int .i64 0]) ∧ Row w' w'.heap.size A (flat slZ l) ∧ RowsZ w' (fun b => b < w'.heap.size) l (levsF K ([], srtI (firstF K)) m)
    else e = .returned (.tuple #[.slice none 0 0, .int .i64 (knowsF K)])
theorem knows_zero {K : List KnC} (h : knowsF K = 0) : K.length ≤ 480 ∧ (K.map (·.ref)).Nodup := by
  unfold knowsF at h
  by_cases h1 : 480 < K.length
  · rw [if_pos h1] at h; omega
  · rw [if_neg h1] at h
    by_cases h2 : (K.map (·.ref)).Nodup
    · exact ⟨by omega, h2⟩
    · rw [if_neg h2] at h; omega
set_option maxRecDepth 100000 in
set_option maxHeartbeats 4000000 in
theorem passes_kn (A0 : Option Addr) (c0 B : Nat) (K : List KnC) (w : World) (h : KnIn w B A0 K) (hB : B ≤ w.heap.size) (hl : K.length ≤ 1048576) :
    Calls Try.prog 7 #[.slice A0 K.length c0] w (PassP K w) := by
  obtain ⟨i2, z2, hi2, hz2, hz3, hz4, hz5⟩ := sl_partsK
  have HCK := Lib.hid (check_kn A0 c0 B K w h hB hl)
  have HST := Lib.hid (fun (w1 : World) (hb : Below w.heap.size w w1) (hn : (K.map (·.ref)).Nodup) (hkl : K.length ≤ 480) => start_kn A0 c0 B K w1 (h.below (hb.mono hB)) (Nat.le_trans hB hb.size) hn hkl)
  have h64 := h.k64
  have hall := h.all
  obtain ⟨r, hr⟩ : ∃ r, knowsF K = r := ⟨_, rfl⟩
  rw [hr] at HCK
  have HR := Lib.hid hr
  clear h hr
  go_enter Try.func7, Try.ntmps7
  go_wp2_with fail
  refine HCK.out.mono ?_
  rintro e w1 ⟨rfl, hb1⟩
  have HB1 := Lib.hid hb1
  clear hb1 HCK
  by_cases hr0 : r = 0
  case neg =>
    have e1 : (r != 0) = true := by simpa using hr0
    have HNZ := Lib.hid hr0
    clear hr0
    go_wp2_with fail
    go_ret2
    refine ⟨HB1.out, ?_⟩
    rw [if_neg (by rw [HR.out]; exact HNZ.out), HR.out]
    rfl
  subst hr0
  obtain ⟨hkl, hn⟩ := knows_zero HR.out
  have HSC := Lib.hid (HST.out w1 HB1.out hn hkl)
  clear HST
  go_wp2_with fail
  refine HSC.out.mono ?_
  rintro e w2 ⟨gn, gr, gm, gt, RA, A1, c1, rfl, hst⟩
  have HFL : Hid ((firstF K).length < 4611686018427387904) := by
    show _ < _
    have h1 : (firstF K).length ≤ K.length := by
      unfold firstF
      rw [List.length_map]
      exact List.length_filter_le _ _
    omega
  have HS2 := Lib.hid hst
  have HSO := Lib.hid (sort_own A1 (firstF K).length c1 w1.heap.size (firstF K) w2 hst.fi rfl HFL.out)
  clear hst HSC
  go_wp2_with fail
  refine HSO.out.mono ?_
  rintro e w3 ⟨rfl, hos, hon⟩
  have hst3 := HS2.out.sorted hon hos
  have hb3 : Below w.heap.size w w3 := HB1.out.trans (hst3.bl.mono HB1.out.size)
  have hs13 : w1.heap.size ≤ w3.heap.size := hst3.bl.size
  have HN3 := Lib.hid hst3.node
  have HF3 := Lib.hid hst3.firstRow
  have HB3 := Lib.hid hb3
  have HAP := Lib.hid (apart_srt hn)
  clear hos hon hst3 hb3 HS2 HSO
  have HNM := Lib.hid hn
  clear hn
  obtain ⟨p, hp⟩ : ∃ p, p = (([] : List Int), srtI (firstF K)) := ⟨_, rfl⟩
  have hp0 : (itML K p 0).2.length = (firstF K).length := by rw [hp]; exact srtI_len _
  have HP0 := Lib.hid (show (itML K p 0).1 = [] ∧ (itML K p 0).2 = srtI (firstF K) from by rw [hp]; exact ⟨rfl, rfl⟩)
  rw [← hp] at HAP
  have HPP := Lib.hid hp
  have HP1 := Lib.hid hp0
  clear hp hp0
  go_wp2_with fail
  go_loopg [6, 7] (K.length + 1) (fun gk v6 v7 wr => ∃ (d : Nat) (D : Option Addr) (cd : Nat) (told due : List Int) (A : Option Addr) (c : Nat) (Ao : Option Addr) (co : Nat) (l : List SlZ), gk = K.length + 1 - d ∧ v6 = .slice A (itML K p d).2.length c ∧ v7 = .slice Ao d co ∧ (∀ i, i < d → (itML K p i).2 ≠ []) ∧ NdSt w1 wr w3.heap.size gn gr gm gt K RA (itML K p d).1 told due (itML K p d).1.length D cd 0 ∧ RowZ wr (fun b => b < wr.heap.size ∧ ¬ Sp gn gm gt D b ∧ Ao.map (·.block) ≠ some b) A (ints (itML K p d).2) ∧ OwnAt wr w3.heap.size 23 1 Ao d co (flat slZ l) ∧ RowsZ wr (fun b => b < wr.heap.size ∧ ¬ Sp gn gm gt D b ∧ Ao.map (·.block) ≠ some b) l (levsF K p d) ∧ (∀ b, Ao.map (·.block) = some b → D.map (·.block) ≠ some b) ∧ Below w.heap.size w wr)
  case atStart => exact ⟨0, none, 0, [], [], A1, c1, none, 0, [], rfl, by rw [HP1.out], rfl, (fun i hi => by omega), by rw [HP0.out.1]; exact HN3.out, by rw [HP0.out.2]; exact fun hq => (by obtain ⟨b, o, e, hb, hc⟩ := HF3.out hq; exact ⟨b, o, e, ⟨hb.1, hb.2, fun e => by cases e⟩, hc⟩), OwnAt.nil, ⟨rfl, fun i hi => absurd hi (by simp)⟩, (fun b hb => by cases hb), HB3.out⟩
  case round =>
    clear HN3 HF3 HB3 HP0 HP1
    obtain ⟨d, D, cd, told, due, A, c, Ao, co, l, hgk, rfl, rfl, hall2, hst, hrow, how, hrows, hdis, hbw⟩ := hrel
    have HKK := Lib.hid hgk
    have HALL := Lib.hid hall2
    have hfew := few_levels HAP.out hall2
    have hlen := hrows.1
    rw [levs_len] at hlen
    clear hgk hall2
    by_cases hz : (itML K p d).2 = []
    · have hz0 : (itML K p d).2.length = 0 := by rw [hz]; rfl
      have HZ := Lib.hid hz
      have HOW := Lib.hid how
      have HRS := Lib.hid hrows
      have HBW := Lib.hid hbw
      have hz1 : ¬ (0 : Int) < ((itML K p d).2.length : Int) := by omega
      clear hz how hrows hst hrow hbw
      go_wp2_with fail
      go_ret2
      refine ⟨HBW.out, ?_⟩
      rw [if_pos HR.out]
      rw [← HPP.out]
      exact ⟨d, Ao, co, l, HZ.out, HALL.out, rfl, HOW.out.row, ⟨HRS.out.1, fun i hi => ⟨(HRS.out.2 i hi).1, fun hq => by obtain ⟨b, o, e, hb, hc⟩ := (HRS.out.2 i hi).2 hq; exact ⟨b, o, e, hb.1, hc⟩⟩⟩⟩
    have hpos : 0 < (itML K p d).2.length := List.length_pos_iff.2 hz
    have HNE := Lib.hid (show ∀ i, i < d + 1 → (itML K p i).2 ≠ [] from fun i hi => by
      rcases Nat.lt_or_ge i d with h | h
      · exact HALL.out i h
      · obtain rfl : i = d := by omega
        exact hz)
    have hpos1 : (0 : Int) < ((itML K p d).2.length : Int) := by omega
    have hlo2 := apart_all HAP.out d
    have HLV := Lib.hid (levs_succ K p d)
    have HST1 : Hid ((itML K p (d + 1)).1 = (itML K p d).1 ++ (itML K p d).2 ∧ (itML K p (d + 1)).2 = nextF K (itML K p d).1 (itML K p d).2) := ⟨rfl, rfl⟩
    have HOWN : Hid (∀ y ∈ (itML K p d).2, ownF K y = true) := fun y hy => by
      have := hlo2.2 y (List.mem_append_right _ hy)
      unfold ownF
      simpa using this
    obtain ⟨M, hM⟩ : ∃ M, (itML K p d).1 = M := ⟨_, rfl⟩
    obtain ⟨L, hL⟩ : ∃ L, (itML K p d).2 = L := ⟨_, rfl⟩
    rw [hM, hL] at HST1 hfew
    rw [hM] at hst
    rw [hL] at hrow hpos1 HLV HOWN hpos
    clear hM hz hlo2
    have hsz : w3.heap.size ≤ wr.heap.size := hst.nw
    have hLen : (itML K p d).2.length = L.length := by rw [hL]
    rw [hLen]
    clear hL hLen
    have hbl : ∀ b, Ao.map (·.block) = some b → w3.heap.size ≤ b ∧ b < wr.heap.size := fun b hb => by
      have h1 := own_lo' how b hb
      rcases how.form with ⟨e, _⟩ | ⟨g1, o1, e⟩
      · rw [e] at hb; cases hb
      · subst e
        have := how.lt
        simp at hb
        omega
    have hdl : ∀ b, D.map (·.block) = some b → b < wr.heap.size := fun b hb => by
      rcases hst.du.form with ⟨e, _⟩ | ⟨g1, o1, e⟩
      · rw [e] at hb; cases hb
      · subst e
        have := hst.du.lt
        simp at hb
        omega
    have HWA := Lib.hid (show Below wr.heap.size wr (wr.alloc (.cells #[.slice A L.length c] 23)) from (Below.refl _ _).alloc (Nat.le_refl _) _)
    have HOA := Lib.hid (how.below HWA.out)
    have HSA := Lib.hid hst
    have HRA := Lib.hid hrow
    have HRB := Lib.hid hrows
    have HDI := Lib.hid hdis
    have HBL := Lib.hid hbl
    have HDL := Lib.hid hdl
    have HBW := Lib.hid hbw
    have e0 : (wr.alloc (.cells #[.slice A L.length c] 23)).cell? ⟨wr.heap.size, 0, none⟩ = some (.slice A L.length c) := (Box.new wr 23 #[.slice A L.length c]).cell 0
    have HE0 : Hid (∀ j u, ([Value.slice A L.length c] : List Value)[j]? = some u → (wr.alloc (.cells #[.slice A L.length c] 23)).cell? ((⟨wr.heap.size, 0, none⟩ : Addr).add j) = some u) := fun j u hu => by
      match j, hu with
      | 0, hu => simp at hu; subst hu; exact e0
      | j + 1, hu => simp at hu
    have HZS : Hid (wr.heap.size ≤ (wr.alloc (.cells #[.slice A L.length c] 23)).heap.size) := HWA.out.size
    have HB2 : Hid (w3.heap.size ≤ (wr.alloc (.cells #[.slice A L.length c] 23)).heap.size) := Nat.le_trans hsz HZS.out
    have HDM : Hid (d + 1 ≤ maxLen ∧ (d + 1) * 24 ≤ 140737488355328) := by show _ ∧ _; unfold maxLen; omega
    clear hst hrow how hrows hdis hbl hdl hbw e0 hpos
    have HONE : Hid (∀ u ∈ [Value.slice A L.length c], u.oneCell' = true) := fun u hu => by rw [List.mem_singleton.1 hu]; rfl
    have HL480 : Hid (L.length ≤ 480 ∧ M.length ≤ 1099511627776) := by show _ ∧ _; omega
    have HFW := Lib.hid hfew
    clear hfew
    go_wp2_with (at_builtin; refine wpList_append_q rfl (.tmp 23) (.tmp 25) 30 rfl w3.heap.size 23 i2 z2 1 24 Try.underlying30 hi2 hz2 hz3 hz4 hz5 (by decide) Ao d co (flat slZ l) rfl HOA.out ⟨wr.heap.size, 0, none⟩ 1 1 [.slice A L.length c] rfl rfl HE0.out HONE.out HDM.out.1 HDM.out.2 HB2.out (by decide) ?_; intro g9 o9 c9 w9 j1 j2 j3; have H9 := Lib.hid j1; have HG9 := Lib.hid (And.intro j2 j3); clear j1 j2 j3)
    have ho9 : Only (fun b => Ao.map (·.block) = some b) (wr.alloc (.cells #[.slice A L.length c] 23)) w9 := ⟨HG9.out.1.os, HG9.out.1.tape, HG9.out.1.output, HG9.out.1.size, fun i hi hne => HG9.out.1.block i hi (fun e => hne e.symm)⟩
    have hor : Only (fun b => Ao.map (·.block) = some b) wr w9 := (Only.of_below HWA.out).trans ho9
    have hst9 := (HSA.out.below HWA.out).off ho9 (fun b hb => ⟨(HBL.out b hb).1, HDI.out b hb⟩)
    have hrow9 : RowZ w9 (fun b => b < w9.heap.size ∧ ¬ Sp gn gm gt D b) A (ints L) := HRA.out.off hor (fun b hb => ⟨hb.1, hb.2.2⟩) (fun b hb => ⟨Nat.lt_of_lt_of_le hb.1 hor.size, hb.2.1⟩)
    have HLEV := Lib.hid (level_any A c L hst9 hrow9 HOWN.out HL480.out.1 h64 hall hkl HL480.out.2)
    have HOR := Lib.hid hor
    have hs9 := hst9.bl.size
    clear ho9 hor hst9 hrow9
    refine HLEV.out.mono ?_
    rintro e w10 ⟨A', c', D', cd', rfl, hown', hst', hon', hD', hAD⟩
    have hg9 : g9 < w9.heap.size := H9.out.lt.2
    have hg9w : w3.heap.size ≤ g9 := H9.out.lt.1
    have hhi := HSA.out.hi
    have hg9D : D.map (·.block) ≠ some g9 := fun e => by
      rcases HG9.out.2 with h1 | h1
      · exact HDI.out g9 h1 e
      · have := HDL.out g9 e; have := HZS.out; omega
    have hgS : ¬ Sp gn gm gt D g9 := fun e => by
      rcases e with e | e | e | e
      · omega
      · omega
      · omega
      · exact hg9D e
    have hOW : OwnAt w10 w3.heap.size 23 1 (some ⟨g9, o9, none⟩) (d + 1) c9 (flat slZ (l ++ [⟨A, L.length, c⟩])) := by
      have h1 := H9.out.only hon' (fun b hb e => hgS (by simp at hb; subst hb; exact e))
      rw [flat_append, flat_one]
      exact h1
    have hkeep : ∀ b, b < wr.heap.size → ¬ Sp gn gm gt D b → Ao.map (·.block) ≠ some b → b < w10.heap.size ∧ ¬ Sp gn gm gt D' b ∧ (some (⟨g9, o9, none⟩ : Addr)).map (·.block) ≠ some b := fun b h1 h2 h3 => by
      have hsa := HOR.out.size
      refine ⟨Nat.lt_of_lt_of_le h1 (Nat.le_trans hsa hon'.size), fun e => ?_, fun e => ?_⟩
      · rcases e with e | e | e | e
        · exact h2 (.inl e)
        · exact h2 (.inr (.inl e))
        · exact h2 (.inr (.inr (.inl e)))
        · rcases hD' b e with e | e
          · exact h2 (.inr (.inr (.inr e)))
          · omega
      · simp at e
        subst e
        rcases HG9.out.2 with h4 | h4
        · exact h3 h4
        · have := HZS.out; omega
    have ho10 : Only (fun b => Ao.map (·.block) = some b ∨ Sp gn gm gt D b) wr w10 := (HOR.out.more (fun _ h => .inl h)).trans (hon'.more (fun _ h => .inr h))
    have hR10 : RowsZ w10 (fun b => b < w10.heap.size ∧ ¬ Sp gn gm gt D' b ∧ (some (⟨g9, o9, none⟩ : Addr)).map (·.block) ≠ some b) (l ++ [⟨A, L.length, c⟩]) (levsF K p (d + 1)) := by
      rw [HLV.out]
      refine RowsZ.push (HRB.out.off ho10 (fun b hb => ⟨hb.1, fun e => e.elim hb.2.2 hb.2.1⟩) (fun b hb => hkeep b hb.1 hb.2.1 hb.2.2)) rfl ?_
      exact HRA.out.off ho10 (fun b hb => ⟨hb.1, fun e => e.elim hb.2.2 hb.2.1⟩) (fun b hb => hkeep b hb.1 hb.2.1 hb.2.2)
    have hA10 : RowZ w10 (fun b => b < w10.heap.size ∧ ¬ Sp gn gm gt D' b ∧ (some (⟨g9, o9, none⟩ : Addr)).map (·.block) ≠ some b) A' (ints (nextF K M L)) := fun hq => by
      obtain ⟨b, o, e, hb, hc⟩ := hown'.row hq
      have h1 := own_lo' hown' b (by rw [e]; rfl)
      refine ⟨b, o, e, ⟨hb, fun e2 => ?_, fun e2 => by simp at e2; omega⟩, hc⟩
      rcases e2 with e2 | e2 | e2 | e2
      · omega
      · omega
      · omega
      · exact hAD b (by rw [e]; rfl) e2
    have hdis10 : ∀ b, (some (⟨g9, o9, none⟩ : Addr)).map (·.block) = some b → D'.map (·.block) ≠ some b := fun b hb e => by
      simp at hb
      subst hb
      rcases hD' g9 e with e | e
      · exact hg9D e
      · omega
    have hbw10 : Below w.heap.size w w10 := by
      have h1 : Below w.heap.size w w9 := HOR.out.to_below HBW.out HBW.out.size (fun b hb => Nat.le_trans HB1.out.size (Nat.le_trans hs13 (HBL.out b hb).1))
      exact hon'.to_below h1 h1.size (fun b hb => by
        have hlo := HSA.out.lo
        have := HB1.out.size
        rcases hb with e | e | e | e
        · omega
        · omega
        · omega
        · have := own_lo' HSA.out.du b e; omega)
    have HX1 := Lib.hid hst'
    have HX2 := Lib.hid hOW
    have HX3 := Lib.hid hR10
    have HX4 := Lib.hid hA10
    have HX5 := Lib.hid hdis10
    have HX6 := Lib.hid hbw10
    clear hown' hst' hon' hD' hAD hOW hkeep ho10 hR10 hA10 hdis10 hbw10 hg9D hgS hhi
    go_wp2_with fail
    go_roundg (K.length + 1 - (d + 1))
    case measure => have := HKK.out; have := HFW.out; omega
    case rel => exact ⟨d + 1, D', cd', _, _, A', c', some ⟨g9, o9, none⟩, c9, l ++ [⟨A, L.length, c⟩], rfl, by rw [HST1.out.2], rfl, HNE.out, by rw [HST1.out.1, List.length_append]; exact HX1.out, by rw [HST1.out.2]; exact HX4.out, HX2.out, HX3.out, HX5.out, HX6.out⟩
end Go.Proofs.Ytbhdagjilmgahaa
