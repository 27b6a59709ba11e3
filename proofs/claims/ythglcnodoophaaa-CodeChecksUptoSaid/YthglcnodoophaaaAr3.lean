
/-
  The reference's Split.
-/
import Derived.Test.YthglcnodoophaaaAr2
import Derived.Test.YthglcnodoophaaaHeldC
namespace Go.Proofs.Ythglcnodoophaaa
open Go.RowKit

theorem int_partsC : ∃ i, Try.prog.info? 3 = some i ∧ i.zero = some (.int .i64 0) ∧ i.size = 1 ∧ i.bytes = 8 := by
  have h := int_info
  cases hi : Try.prog.info? 3 with
  | none => rw [hi] at h; cases h
  | some i =>
    rw [hi] at h
    simp only [Option.map_some, Option.some.injEq, Prod.mk.injEq] at h
    exact ⟨i, rfl, h.1, h.2.1, h.2.2⟩
theorem ints_oneC (xs : List Int) : ∀ u ∈ ints xs, u.oneCell' = true := by
  intro u hu
  simp only [ints, List.mem_map] at hu
  obtain ⟨x, _, rfl⟩ := hu
  rfl
theorem lit_intC {w : World} {g : Nat} {y : Int} (h : w.cell? ⟨g, 0, none⟩ = some (.int .i64 y)) : ∀ j u, (ints [y])[j]? = some u → w.cell? ((⟨g, 0, none⟩ : Addr).add j) = some u := fun j u hu => by
  match j, hu with
  | 0, hu => simp [ints] at hu; subst hu; exact h
  | j + 1, hu => simp [ints] at hu
theorem w64_small {z : Int} (h : -4194304 ≤ z ∧ z ≤ 4194304) : wrap64 z = z := by unfold wrap64; omega
theorem k64_small {z : Int} (h : -4194304 ≤ z ∧ z ≤ 4194304) : IntKind.i64.wrap z = z := IntWalk.i64_in _ (by omega)
theorem take_intC (l : List Int) {k : Nat} (h : k < l.length) : l.take (k + 1) = l.take k ++ [l.getD k 0] := by
  rw [List.take_add_one, List.getD_eq_getElem?_getD, List.getElem?_eq_getElem h]
  rfl
theorem drop_two (l : List Int) (p : Nat) (h : p + 1 < l.length) : l.drop p = l.getD p 0 :: l.getD (p + 1) 0 :: l.drop (p + 2) := by
  rw [List.drop_eq_getElem_cons (show p < l.length by omega), List.drop_eq_getElem_cons h]
  simp [List.getD_eq_getElem?_getD, List.getElem?_eq_getElem (show p < l.length by omega), List.getElem?_eq_getElem h]
theorem drop_last (l : List Int) (p : Nat) (h : p + 1 = l.length) : l.drop p = [l.getD p 0] := by
  rw [List.drop_eq_getElem_cons (show p < l.length by omega), List.drop_eq_nil_of_le (by omega)]
  simp [List.getD_eq_getElem?_getD, List.getElem?_eq_getElem (show p < l.length by omega)]

set_option maxRecDepth 100000 in
set_option maxHeartbeats 2000000 in
theorem split_any (A0 : Option Addr) (c0 : Nat) (l0 : List Int) (B : Nat) (w : World) (hr0 : Row w B A0 (ints l0)) (hB : B ≤ w.heap.size) (hl0 : l0.length ≤ 1048576) :
    Calls Try.prog 17 #[.slice A0 l0.length c0] w (GatPost w (gatF l0) (.bool true) (.bool false)) := by
  obtain ⟨i0, z0, hi0, hz0, hz1, hz2, hz3⟩ := ar_parts
  obtain ⟨i1, hi1, hy0, hy1, hy2⟩ := int_partsC
  have HR0 := Lib.hid hr0
  clear hr0
  go_enter Try.func17, Try.ntmps17
  go_wp2_with fail
  go_loopg [5, 4] l0.length (fun gk s q wr => ∃ (p : Nat) (A4 : Option Addr) (c4 : Nat) (l : List ArC) (acc : List ArV), gk = l0.length - p ∧ p ≤ l0.length ∧ s = .int .i64 p ∧ q = .slice A4 l.length c4 ∧ ArMk wr w.heap.size A4 c4 l acc ∧ l.length ≤ p ∧ gatF l0 = (gatF (l0.drop p)).map (acc ++ ·) ∧ Below w.heap.size w wr)
  case atStart => exact ⟨0, none, 0, [], [], rfl, Nat.zero_le _, rfl, rfl, ArMk.nil, Nat.le_refl _, by simp, Below.refl _ _⟩
  case round =>
    obtain ⟨p, A4, c4, l, acc, hgk, hp, rfl, rfl, hmk, hcount, hgat, hb⟩ := hrel
    have HGK := Lib.hid hgk
    have HGAT := Lib.hid hgat
    have HMK := Lib.hid hmk
    have HB := Lib.hid hb
    clear hgk hgat
    by_cases hpl : p < l0.length
    case neg =>
      obtain rfl : p = l0.length := by omega
      have hcl := hmk.2.1.cap_le
      have hnone := hmk.2.1.noneA
      clear hmk hb
      go_wp2_with fail
      go_ret2
      refine ⟨HB.out, ?_⟩
      rw [HGAT.out, List.drop_length, gatF_nil]
      simp only [Option.map_some, List.append_nil]
      exact ⟨A4, c4, l, rfl, HMK.out.arms, hcl.1, hcl.2, hnone, fun b hb => (HMK.out.blk b hb).1, HMK.out.2.2.2⟩
    have hpl1 : (p : Int) < (l0.length : Int) := by omega
    by_cases h1 : p + 1 = l0.length
    · have e1 : decide ((l0.length : Int) ≤ (p : Int) + 1) = true := by simp; omega
      have e1' : decide (l0.length ≤ p + 1) = true := by simp; omega
      clear hmk hb
      go_wp2_with fail
      go_ret2
      refine ⟨HB.out, ?_⟩
      rw [HGAT.out, drop_last l0 p h1, gatF_one]
      rfl
    have e1 : decide ((l0.length : Int) ≤ (p : Int) + 1) = false := by simp; omega
    have e1' : decide (l0.length ≤ p + 1) = false := by simp; omega
    have hd2 := drop_two l0 p (by omega)
    obtain ⟨b, o, rfl, hbB, hcell⟩ := HR0.out (by rw [ints_len]; omega)
    have hcl : ∀ i, i < l0.length → w.cell? ⟨b, o + i, none⟩ = some (.int .i64 (l0.getD i 0)) := fun i hi => hcell i _ (by simp [ints, List.getD_eq_getElem?_getD, List.getElem?_eq_getElem hi])
    have HCL := Lib.hid hcl
    have hbw : b < w.heap.size := by omega
    have q0 := (hb.cell (p := ⟨b, o + p, none⟩) hbw).trans (hcl p hpl)
    have q1 := (hb.cell (p := ⟨b, o + (p + 1), none⟩) hbw).trans (hcl (p + 1) (by omega))
    clear hcell hcl
    have hLr : l0.length = p + 2 + (l0.drop (p + 2)).length := by rw [List.length_drop]; omega
    have HDR : Hid (∀ i, i < (l0.drop (p + 2)).length → l0.getD (p + 2 + i) 0 = (l0.drop (p + 2)).getD i 0) := fun i _ => by simp [List.getD_eq_getElem?_getD]
    have HDD : Hid (∀ k, (l0.drop (p + 2)).drop k = l0.drop (p + (2 + k))) := fun k => by rw [List.drop_drop]; congr 1; omega
    have HQ1 := Lib.hid (HCL.out (p + 1) (by omega))
    generalize l0.getD p 0 = x at *
    generalize l0.getD (p + 1) 0 = m at *
    generalize l0.drop (p + 2) = r at *
    have hpi : (p : Int) + 1 < (l0.length : Int) := by omega
    have hpi0 : (0 : Int) ≤ (p : Int) + 1 := by omega
    have hpi' : p + 1 < l0.length := by omega
    by_cases hm0 : m < 0
    · have d1 : decide (m < 0) = true := by simp; omega
      clear hmk hb
      go_wp2_with fail
      go_ret2
      refine ⟨HB.out, ?_⟩
      rw [HGAT.out, hd2, gatF_bad x m r (.inl hm0)]
      rfl
    have d1 : decide (m < 0) = false := by simp; omega
    obtain ⟨k, rfl⟩ := Int.eq_ofNat_of_zero_le (show 0 ≤ m by omega)
    by_cases hmr : r.length < k
    · have d2 : decide ((l0.length : Int) - (p : Int) - 2 < (k : Int)) = true := by simp; omega
      clear hmk hb hLr
      go_wp2_with fail
      go_ret2
      refine ⟨HB.out, ?_⟩
      rw [HGAT.out, hd2, gatF_bad x k r (.inr (by omega))]
      rfl
    have d2 : decide ((l0.length : Int) - (p : Int) - 2 < (k : Int)) = false := by simp; omega
    have hkr : k ≤ r.length := by omega
    have HLR := Lib.hid hLr
    have hk100 : k ≤ 1048576 := by omega
    have hbA := (Below.refl wr.heap.size wr).alloc (Nat.le_refl _) (.cells #[.int .i64 x, .slice none 0 0] 60)
    have HX0 := Lib.hid (Box.new wr 60 #[.int .i64 x, .slice none 0 0])
    have HBA := Lib.hid hbA
    have HSZ := Lib.hid hb.size
    clear hmk hb hbA hLr
    go_upto_region 7 with fail
    obtain ⟨wa, hwa⟩ : ∃ wa, wa = wr.alloc (.cells #[.int .i64 x, .slice none 0 0] 60) := ⟨_, rfl⟩
    rw [← hwa] at HX0 HBA ⊢
    obtain ⟨g0, hg0⟩ : ∃ g0, g0 = wr.heap.size := ⟨_, rfl⟩
    have HG0 := Lib.hid hg0
    have q1 : wa.cell? ⟨b, o + (p + 1), none⟩ = some (.int .i64 k) := (HBA.out.cell (p := ⟨b, o + (p + 1), none⟩) (Nat.lt_of_lt_of_le hbw HSZ.out)).trans q1
    rw [← hg0] at HX0 ⊢
    clear hwa hg0
    go_wp2_with fail
    obtain ⟨wo, hwo⟩ : ∃ wo, wo = wr := ⟨_, rfl⟩
    subst hwo
    go_loopg [48] k (fun gj v wq => ∃ (j : Nat) (A6 : Option Addr) (c6 : Nat), gj = k - j ∧ j ≤ k ∧ v = .int .i64 j ∧ OwnAt wq (g0 + 1) 3 1 A6 j c6 (ints (r.take j)) ∧ Box wq g0 60 #[.int .i64 x, .slice A6 j c6] ∧ Below wo.heap.size wo wq)
    case atStart => exact ⟨0, none, 0, rfl, Nat.zero_le _, rfl, OwnAt.nil, HX0.out, HBA.out⟩
    case round =>
      obtain ⟨j, A6, c6, hgj, hj, rfl, hoj, hxj, hbq⟩ := hrel
      have HGJ := Lib.hid hgj
      have HOJ := Lib.hid hoj
      have HBX := Lib.hid hxj
      have HBQ := Lib.hid hbq
      have hg0s : g0 < wr.heap.size := hxj.lt
      clear hgj
      by_cases hjk : j < k
      · have HLTJ := Lib.hid (show k - (j + 1) < k - j by omega)
        have HBW := Lib.hid (Nat.lt_of_lt_of_le hbw HSZ.out)
        have hv : l0.getD (p + 2 + j) 0 = r.getD j 0 := HDR.out j (by omega)
        have HVW : Hid (wo.cell? ⟨b, o + (p + 2 + j), none⟩ = some (.int .i64 (r.getD j 0))) := (HB.out.cell (p := ⟨b, o + (p + 2 + j), none⟩) hbw).trans (by rw [← hv]; exact HCL.out (p + 2 + j) (by have := HLR.out; omega))
        have HTJ : Hid (ints (r.take j) ++ ints [r.getD j 0] = ints (r.take (j + 1))) := by
          show _ = _
          rw [take_intC r (show j < r.length by omega)]
          simp only [ints, List.map_append]
        generalize r.getD j 0 = v at *
        clear hv
        have HA6 : Hid (∀ kk, A6.map (·.block) = some kk → wo.heap.size ≤ kk) := fun kk hkk => by
          rcases hoj.form with ⟨rfl, _⟩ | ⟨g1, o1, rfl⟩
          · cases hkk
          · simp at hkk; subst hkk; have := hoj.lt.1; have := HG0.out; omega
        have HA6x : Hid (∀ kk, A6.map (·.block) = some kk → g0 < kk) := fun kk hkk => by
          rcases hoj.form with ⟨rfl, _⟩ | ⟨g1, o1, rfl⟩
          · cases hkk
          · simp at hkk; subst hkk; have := hoj.lt.1; omega
        have HBL := Lib.hid (show Below wr.heap.size wr (wr.alloc (.cells #[.int .i64 v] 3)).drew from ((Below.refl wr.heap.size wr).alloc (Nat.le_refl _) (.cells #[.int .i64 v] 3)).drew)
        have HOL := Lib.hid (hoj.below HBL.out)
        have HLIT := Lib.hid (show (wr.alloc (.cells #[.int .i64 v] 3)).drew.cell? ⟨wr.heap.size, 0, none⟩ = some (.int .i64 v) from (Box.new wr 3 #[.int .i64 v]).cell 0)
        have HJM : Hid (j + 1 ≤ maxLen) := by show _ ≤ _; unfold maxLen; omega
        have HJB : Hid ((j + 1) * 8 ≤ 140737488355328) := by show _ ≤ _; omega
        have HGB : Hid (g0 + 1 ≤ (wr.alloc (.cells #[.int .i64 v] 3)).drew.heap.size) := Nat.le_trans hg0s HBL.out.size
        have hSA : wr.cell? ⟨g0, 1, none⟩ = some (.slice A6 j c6) := by rw [hxj.cell]; rfl
        have HSA : Hid ((wr.alloc (.cells #[.int .i64 v] 3)).drew.cell? ⟨g0, 1, none⟩ = some (.slice A6 j c6)) := (HBL.out.cell (p := ⟨g0, 1, none⟩) hg0s).trans hSA
        have hSB : wr.cell? ⟨b, o + (p + 2 + j), none⟩ = some (.int .i64 v) := (hbq.cell (p := ⟨b, o + (p + 2 + j), none⟩) HBW.out).trans HVW.out
        have HSB : Hid ((wr.alloc (.cells #[.int .i64 v] 3)).drew.cell? ⟨b, o + (p + 2 + j), none⟩ = some (.int .i64 v)) := (HBL.out.cell (p := ⟨b, o + (p + 2 + j), none⟩) (Nat.lt_of_lt_of_le HBW.out hbq.size)).trans hSB
        have HW7 := Lib.hid (k64_small (z := (p : Int) + 2 + (j : Int)) (by omega))
        have HW8 := Lib.hid (k64_small (z := (p : Int) + 2) (by omega))
        have hjk1 : (j : Int) < (k : Int) := by omega
        have hix : (p : Int) + 2 + (j : Int) < (l0.length : Int) := by have := HLR.out; omega
        have hix0 : (0 : Int) ≤ (p : Int) + 2 + (j : Int) := by omega
        have hixn : ((p : Int) + 2 + (j : Int)).toNat = p + 2 + j := by omega
        have hix' : p + 2 + j < l0.length := by have := HLR.out; omega
        clear hoj hxj hbq
        go_upto_region 10 with fail
        have hw7 := HW7.out
        have hw8 := HW8.out
        have hHeld : wr.drew.cell? ⟨g0, 1, none⟩ = some (.slice A6 j c6) ∧ wr.drew.cell? ⟨b, o + (p + 2 + j), none⟩ = some (.int .i64 v) := ⟨hSA, hSB⟩
        refine wp_region_C (S := (fun w' => w'.cell? ⟨g0, 1, none⟩ = some (.slice A6 j c6) ∧ w'.cell? ⟨b, o + (p + 2 + j), none⟩ = some (.int .i64 v))) (k := 12) (by kernel_rfl) ?_
        refine wpAnyC_takeU (i := 0) (v := ?_) rfl (by kernel_rfl) (by kernel_rfl) (by kernel_rfl) (by kernel_rfl) (fun _ _ _ h => h) (Or.inl ⟨by rfl, ?_⟩) (fun _ => by assumption) ?_
        rotate_left
        · (intro w _; go_simp; (try with_reducible rfl))
        try simp only [List.getElem_toArray]
        try simp only [List.getElem_cons_succ]
        try simp only [List.getElem_cons_zero]
        try simp only [Act.put]
        try simp only [List.setIfInBounds_toArray]
        try simp only [List.set_cons_succ]
        try simp only [List.set_cons_zero]
        refine wpAnyC_take (i := 1) (v := ?_) rfl (by kernel_rfl) (by kernel_rfl) (by kernel_rfl) (by kernel_rfl) (by kernel_rfl) (fun _ _ _ h => h) (Or.inl ⟨by rfl, ?_⟩) (by assumption) ?_
        rotate_left
        · (intro w hSw; (try dsimp only at hSw); go_simp; (try with_reducible rfl))
        try simp only [List.getElem_toArray]
        try simp only [List.getElem_cons_succ]
        try simp only [List.getElem_cons_zero]
        try simp only [Act.put]
        try simp only [List.setIfInBounds_toArray]
        try simp only [List.set_cons_succ]
        try simp only [List.set_cons_zero]
        refine wpAnyC_takeU (i := 2) (v := ?_) rfl (by kernel_rfl) (by kernel_rfl) (by kernel_rfl) (by kernel_rfl) (fun _ _ _ h => h) (Or.inl ⟨by rfl, ?_⟩) (fun _ => by assumption) ?_
        rotate_left
        · (intro w _; go_simp; (try with_reducible rfl))
        try simp only [List.getElem_toArray]
        try simp only [List.getElem_cons_succ]
        try simp only [List.getElem_cons_zero]
        try simp only [Act.put]
        try simp only [List.setIfInBounds_toArray]
        try simp only [List.set_cons_succ]
        try simp only [List.set_cons_zero]
        refine wpAnyC_takeU (i := 3) (v := ?_) rfl (by kernel_rfl) (by kernel_rfl) (by kernel_rfl) (by kernel_rfl) (fun _ _ _ h => h) (Or.inl ⟨by rfl, ?_⟩) (fun _ => by assumption) ?_
        rotate_left
        · (intro w _; go_simp; (try with_reducible rfl))
        try simp only [List.getElem_toArray]
        try simp only [List.getElem_cons_succ]
        try simp only [List.getElem_cons_zero]
        try simp only [Act.put]
        try simp only [List.setIfInBounds_toArray]
        try simp only [List.set_cons_succ]
        try simp only [List.set_cons_zero]
        refine wpAnyC_takeU (i := 4) (v := ?_) rfl (by kernel_rfl) (by kernel_rfl) (by kernel_rfl) (by kernel_rfl) (fun _ _ _ h => h) (Or.inl ⟨by rfl, ?_⟩) (fun _ => by assumption) ?_
        rotate_left
        · (intro w _; go_simp; (try with_reducible rfl))
        try simp only [List.getElem_toArray]
        try simp only [List.getElem_cons_succ]
        try simp only [List.getElem_cons_zero]
        try simp only [Act.put]
        try simp only [List.setIfInBounds_toArray]
        try simp only [List.set_cons_succ]
        try simp only [List.set_cons_zero]
        refine wpAnyC_takeU (i := 5) (v := ?_) rfl (by kernel_rfl) (by kernel_rfl) (by kernel_rfl) (by kernel_rfl) (fun _ _ _ h => h) (Or.inl ⟨by rfl, ?_⟩) (fun _ => by assumption) ?_
        rotate_left
        · (intro w _; go_simp; (try with_reducible rfl))
        try simp only [List.getElem_toArray]
        try simp only [List.getElem_cons_succ]
        try simp only [List.getElem_cons_zero]
        try simp only [Act.put]
        try simp only [List.setIfInBounds_toArray]
        try simp only [List.set_cons_succ]
        try simp only [List.set_cons_zero]
        refine wpAnyC_takeU (i := 6) (v := ?_) rfl (by kernel_rfl) (by kernel_rfl) (by kernel_rfl) (by kernel_rfl) (fun _ _ _ h => h) (Or.inl ⟨by rfl, ?_⟩) (fun _ => by assumption) ?_
        rotate_left
        · (intro w _; go_simp; (try with_reducible rfl))
        try simp only [List.getElem_toArray]
        try simp only [List.getElem_cons_succ]
        try simp only [List.getElem_cons_zero]
        try simp only [Act.put]
        try simp only [List.setIfInBounds_toArray]
        try simp only [List.set_cons_succ]
        try simp only [List.set_cons_zero]
        refine wpAnyC_takeU (i := 7) (v := ?_) rfl (by kernel_rfl) (by kernel_rfl) (by kernel_rfl) (by kernel_rfl) (fun _ _ _ h => h) (Or.inl ⟨by rfl, ?_⟩) (fun _ => by assumption) ?_
        rotate_left
        · (intro w _; go_simp; (try with_reducible rfl))
        try simp only [List.getElem_toArray]
        try simp only [List.getElem_cons_succ]
        try simp only [List.getElem_cons_zero]
        try simp only [Act.put]
        try simp only [List.setIfInBounds_toArray]
        try simp only [List.set_cons_succ]
        try simp only [List.set_cons_zero]
        refine wpAnyC_take (i := 8) (v := ?_) rfl (by kernel_rfl) (by kernel_rfl) (by kernel_rfl) (by kernel_rfl) (by kernel_rfl) (fun _ _ _ h => h) (Or.inl ⟨by rfl, ?_⟩) (by assumption) ?_
        rotate_left
        · (intro w hSw; (try dsimp only at hSw); go_simp; (try with_reducible rfl))
        try simp only [List.getElem_toArray]
        try simp only [List.getElem_cons_succ]
        try simp only [List.getElem_cons_zero]
        try simp only [Act.put]
        try simp only [List.setIfInBounds_toArray]
        try simp only [List.set_cons_succ]
        try simp only [List.set_cons_zero]
        refine wpAnyC_ready (rs := [9]) (by kernel_rfl) (by simp) ?_
        refine AllReadyC.cons rfl (fun K hK => ?_) AllReadyC.nil
        go_simp
        refine hK.out _ _ (fun _ => ⟨HSA.out, HSB.out⟩) ?_
        clear hK K
        try simp only [List.getElem_toArray]
        try simp only [List.getElem_cons_succ]
        try simp only [List.getElem_cons_zero]
        try simp only [Act.put]
        try simp only [List.setIfInBounds_toArray]
        try simp only [List.set_cons_succ]
        try simp only [List.set_cons_zero]
        refine wpAnyC_ready (rs := [10]) (by kernel_rfl) (by simp) ?_
        refine AllReadyC.cons rfl (fun K hK => ?_) AllReadyC.nil
        refine step_append_q rfl (.tmp 52) (.tmp 60) 23 rfl (g0 + 1) 3 i1 (.int .i64 0) 1 8 Try.underlying23 hi1 hy0 hy1 hy2 rfl (by decide) A6 j c6 (ints (r.take j)) rfl HOL.out ⟨wr.heap.size, 0, none⟩ 1 1 (ints [v]) rfl rfl (lit_intC HLIT.out) (ints_oneC [v]) HJM.out HJB.out HGB.out (by decide) ?_
        intro g7 o7 d7 w7 j1 j2 j3
        have hb7 := (HBQ.out.trans (HBL.out.mono HBQ.out.size)).grown j2 (Nat.le_trans HBQ.out.size HBL.out.size) (fun kk hkk => HA6.out kk hkk)
        have hbx7 := (HBX.out.below HBL.out HBX.out.lt).grown j2 (fun e => by have := HA6x.out _ e.symm; omega)
        have hc7 : w7.cell? ⟨g0, 1, none⟩ = some (.slice A6 j c6) := by rw [hbx7.cell]; rfl
        have hf7 := hbx7.frozen 1
        have hl7 : w7.cell? ⟨b, o + (p + 2 + j), none⟩ = some (.int .i64 v) := (hb7.cell (p := ⟨b, o + (p + 2 + j), none⟩) HBW.out).trans HVW.out
        have H7 := Lib.hid (And.intro j1 (And.intro hb7 hbx7))
        clear j1 j2 j3 hb7 hbx7
        refine hK.out _ _ (fun _ => ⟨hc7, hl7⟩) ?_
        clear hK K
        try simp only [List.getElem_toArray]
        try simp only [List.getElem_cons_succ]
        try simp only [List.getElem_cons_zero]
        try simp only [Act.put]
        try simp only [List.setIfInBounds_toArray]
        try simp only [List.set_cons_succ]
        try simp only [List.set_cons_zero]
        refine wpAnyC_ready (rs := [11]) (by kernel_rfl) (by simp) ?_
        refine AllReadyC.cons rfl (fun K hK => ?_) AllReadyC.nil
        go_simp
        refine hK.out _ _ (fun _ => ⟨hc7, hl7⟩) ?_
        clear hK K
        try simp only [List.getElem_toArray]
        try simp only [List.getElem_cons_succ]
        try simp only [List.getElem_cons_zero]
        try simp only [Act.put]
        try simp only [List.setIfInBounds_toArray]
        try simp only [List.set_cons_succ]
        try simp only [List.set_cons_zero]
        refine wpAnyC_ready (rs := [12]) (by kernel_rfl) (by simp) ?_
        refine AllReadyC.cons rfl (fun K hK => ?_) AllReadyC.nil
        go_simp
        refine hK.out _ _ (fun h => by cases h) ?_
        clear hK K
        try simp only [List.getElem_toArray]
        try simp only [List.getElem_cons_succ]
        try simp only [List.getElem_cons_zero]
        try simp only [Act.put]
        try simp only [List.setIfInBounds_toArray]
        try simp only [List.set_cons_succ]
        try simp only [List.set_cons_zero]
        refine wpAnyC_done (by kernel_rfl) ?_ _
        clear hw7 hw8
        obtain ⟨j1, hb7, hbx7⟩ := H7.out
        have HX8 := Lib.hid (hbx7.set 1 (.slice (some ⟨g7, o7, none⟩) (j + 1) d7))
        have HB8 := Lib.hid (hb7.setCell (Nat.le_of_eq HG0.out.symm) (p := ⟨g0, 1, none⟩) (.slice (some ⟨g7, o7, none⟩) (j + 1) d7))
        have HO8 := Lib.hid (j1.far (p := ⟨g0, 1, none⟩) (fun g o e => by injection e with e; injection e with e1 _; subst e1; have := j1.lt.1; show g7 ≠ g0; omega) (.slice (some ⟨g7, o7, none⟩) (j + 1) d7))
        rw [HTJ.out] at HO8
        clear j1 hb7 hbx7 H7 hc7 hf7 hl7
        go_wp2_with fail
        go_roundg (k - (j + 1))
        case measure => rw [HGJ.out]; exact HLTJ.out
        case rel => exact ⟨j + 1, some ⟨g7, o7, none⟩, d7, rfl, hjk, by go_num, HO8.out, HX8.out, HB8.out⟩
      · obtain rfl : k = j := by omega
        have z0' : wr.cell? ⟨g0, 0, none⟩ = some (.int .i64 x) := by rw [hxj.cell]; rfl
        have z1' : wr.cell? ⟨g0, 1, none⟩ = some (.slice A6 k c6) := by rw [hxj.cell]; rfl
        have hbL := (Below.refl wr.heap.size wr).alloc (Nat.le_refl _) (.cells #[.int .i64 x, .slice A6 k c6] 60)
        have HM9 := Lib.hid ((HMK.out.below hbq).below hbL)
        have HL9 := Lib.hid (own_lo hoj (base' := w.heap.size) (by first | exact Nat.le_refl _ | exact HB.out.size | (have := HG0.out; have := HB.out.size; omega)))
        have HY9 := Lib.hid (own_off hoj hbL (fun b hb => by have := (HMK.out.blk b hb).2; have := HG0.out; omega))
        have HB9 := Lib.hid ((HB.out.trans (hbq.mono HB.out.size)).alloc (Nat.le_trans HB.out.size hbq.size) (.cells #[.int .i64 x, .slice A6 k c6] 60))
        have hpk : p + (2 + k) ≤ l0.length := by have := HLR.out; omega
        have htk : (r.take k).length = k := by rw [List.length_take]; omega
        have HMX : Hid (l.length + 1 ≤ maxLen) := by show _ ≤ _; unfold maxLen; omega
        have HBY : Hid ((l.length + 1) * 32 ≤ 140737488355328) := by show _ ≤ _; omega
        have HMS : Hid (l0.length - (p + (2 + k)) < l0.length - p) := by show _ < _; omega
        have HCN : Hid (l.length + 1 ≤ p + (2 + k)) := by show _ ≤ _; omega
        have hbw0 := hbw
        clear hoj hxj hbq hbL hg0s
        go_wp2_with (at_builtin; refine wpList_append_q rfl (.tmp 64) (.tmp 66) 57 rfl w.heap.size 60 i0 z0 2 32 Try.underlying57 hi0 hz0 hz1 hz2 hz3 (by decide) A4 l.length c4 (flat arC l) rfl HM9.out.2.1 ⟨wr.heap.size, 0, none⟩ 1 1 (arC ⟨x, A6, k, c6⟩) rfl rfl (ar_new wr ⟨x, A6, k, c6⟩) (ar_one _) HMX.out HBY.out HB9.out.size (by decide) ?_; intro g9 o9 d9 w9 j1 j2 j3; have hb10 := HB9.out.grown j2 HB9.out.size (fun kk hkk => (HMK.out.blk kk hkk).1); have q9 := (hb10.cell (p := ⟨b, o + (p + 1), none⟩) hbw0).trans HQ1.out; have H9 := Lib.hid (HM9.out.push (y := ⟨x, A6, k, c6⟩) (v := ((x, r.take k) : ArV)) ⟨rfl, htk.symm, HY9.out⟩ HL9.out j1 j2 j3); have HB10 := Lib.hid hb10; clear j1 j2 j3 hb10)
        go_roundg (l0.length - (p + (2 + k)))
        case measure => rw [HGK.out]; exact HMS.out
        case rel => exact ⟨p + (2 + k), some ⟨g9, o9, none⟩, d9, l ++ [⟨x, A6, k, c6⟩], acc ++ [(x, r.take k)], rfl, hpk, by go_num, by rw [List.length_append]; rfl, H9.out, by rw [List.length_append]; exact HCN.out, by rw [HGAT.out, hd2, gatF_good x k r hkr, HDD.out, map_app], HB10.out⟩
end Go.Proofs.Ythglcnodoophaaa
