
/-
  cycle: (*Node).level.
-/
import Derived.Test.YtbhdagjilmgahaaKn2
namespace Go.Proofs.Ytbhdagjilmgahaa
open Go.RowKit

/-- All numbers of the records fit. -/
def K64 (K : List KnC) : Prop := ∀ x ∈ K, I64 x.ref ∧ ∀ y ∈ x.refs, I64 y
theorem own_64 {K : List KnC} (h : K64 K) {y : Int} (hy : ownF K y = true) : I64 y := by
  obtain ⟨j, hj, rfl⟩ := (ownF_mem K y).1 hy
  exact (h _ (getD_mem knc0 hj)).1
theorem refs_mem {K : List KnC} {r y : Int} (h : y ∈ refsF K r) : ∃ x ∈ K, y ∈ x.refs := by
  unfold refsF at h
  cases hf : K.find? fun x => x.ref == r with
  | none => rw [hf] at h; cases h
  | some x =>
    rw [hf] at h
    exact ⟨x, List.mem_of_find?_eq_some hf, h⟩
theorem refs_64 {K : List KnC} (h : K64 K) {r y : Int} (hy : y ∈ refsF K r) : I64 y := by
  obtain ⟨x, hx, hy⟩ := refs_mem hy
  exact (h x hx).2 y hy
theorem refs_all {K : List KnC} {r y : Int} (hy : y ∈ refsF K r) : y ∈ allR K := by
  obtain ⟨x, hx, hy⟩ := refs_mem hy
  exact List.mem_flatMap.2 ⟨x, hx, hy⟩
theorem refs_len {K : List KnC} (r : Int) : (refsF K r).length ≤ (allR K).length := by
  unfold refsF
  cases hf : K.find? fun x => x.ref == r with
  | none => exact Nat.zero_le _
  | some x =>
    have hx := List.mem_of_find?_eq_some hf
    clear hf
    show x.refs.length ≤ _
    unfold allR
    induction K with
    | nil => cases hx
    | cons z t ih =>
      rw [List.flatMap_cons, List.length_append]
      rcases List.mem_cons.1 hx with rfl | hx
      · omega
      · have := ih hx
        omega
theorem take_next (l : List Int) {k : Nat} (h : k < l.length) : l.take (k + 1) = l.take k ++ [l.getD k 0] := by
  rw [List.take_add_one, List.getD_eq_getElem?_getD, List.getElem?_eq_getElem h]
  rfl
theorem at_ints (l : List Int) {k : Nat} (h : k < l.length) : (ints l)[k]? = some (.int .i64 (l.getD k 0)) := by
  simp [ints, List.getD_eq_getElem?_getD, List.getElem?_eq_getElem h]
theorem zero_rowK (w : World) : (zeroValue 23).run Try.prog w = .ok (.slice none 0 0) w := by kernel_rfl
theorem stepL_tell {K : List KnC} {M : List Int} {s : LvS} {y : Int} (h : ownF K y = false) : stepL K M s y = ⟨s.nx, tellT s.told y, tellD s.told s.due y⟩ := by
  unfold stepL tellT tellD
  rw [if_pos h]
  by_cases h1 : s.told.contains y = true
  · rw [if_pos h1, if_pos h1, if_pos h1]
  · rw [if_neg h1, if_neg h1, if_neg h1]
theorem stepL_skip {K : List KnC} {M : List Int} {s : LvS} {y : Int} (h : ownF K y = true) (h1 : M.contains y = true) : stepL K M s y = s := by
  unfold stepL
  rw [if_neg (by rw [h]; simp), if_pos h1]
theorem stepL_put {K : List KnC} {M : List Int} {s : LvS} {y : Int} (h : ownF K y = true) (h1 : M.contains y = false) : (stepL K M s y).told = s.told ∧ (stepL K M s y).due = s.due ∧ ∀ x, (stepL K M s y).nx.contains x = (x == y || s.nx.contains x) := by
  unfold stepL
  rw [if_neg (by rw [h]; simp), if_neg (by rw [h1]; simp)]
  by_cases h2 : s.nx.contains y = true
  · rw [if_pos h2]
    refine ⟨rfl, rfl, fun x => ?_⟩
    by_cases e : x = y
    · subst e; rw [h2]; simp
    · simp [e]
  · rw [if_neg h2]
    refine ⟨rfl, rfl, fun x => ?_⟩
    simp [Bool.or_comm]
    rfl
def setF (nx : List Int) : Int → Option Value := fun x => if nx.contains x = true then some (.bool true) else none
theorem only_trans2 {S S2 : Nat → Prop} {w w1 w2 : World} (h : Only S w w1) (k : Only S2 w1 w2) (hs : ∀ i, i < w.heap.size → S2 i → S i) : Only S w w2 :=
  ⟨k.os.trans h.os, k.tape.trans h.tape, k.output.trans h.output, Nat.le_trans h.size k.size, fun i hi hne => (k.block i (Nat.lt_of_lt_of_le hi h.size) (fun e => hne (hs i hi e))).trans (h.block i hi hne)⟩
theorem setF_step {K : List KnC} {M : List Int} {s : LvS} {y : Int} (h : ownF K y = true) (h1 : M.contains y = false) : (fun z => if z = y then some (Value.bool true) else setF s.nx z) = setF (stepL K M s y).nx := by
  funext z
  unfold setF
  rw [(stepL_put h h1).2.2 z]
  by_cases e : z = y
  · rw [if_pos e]; simp [e]
  · rw [if_neg e]; simp [e]
/-- What a level leaves: the next level, and the node. -/
def LevP (W w : World) (N gn gr gm gt : Nat) (K : List KnC) (RA : Int → Option Addr × Nat) (M L told due : List Int) (nM : Nat) (D : Option Addr) (came : Int) (e : Ending) (w' : World) : Prop :=
  ∃ A' c' D' cd', e = .returned (.slice A' (nextF K M L).length c') ∧ OwnAt w' w.heap.size 3 1 A' (nextF K M L).length c' (ints (nextF K M L))
    ∧ NdSt W w' N gn gr gm gt K RA (M ++ L) (levF K (M ++ L) L ⟨[], told, due⟩).told (levF K (M ++ L) L ⟨[], told, due⟩).due nM D' cd' came ∧ Only (Sp gn gm gt D) w w' ∧ (∀ b, D'.map (·.block) = some b → D.map (·.block) = some b ∨ w.heap.size ≤ b) ∧ ∀ b, A'.map (·.block) = some b → D'.map (·.block) ≠ some b
section
variable {W w : World} {N gn gr gm gt : Nat} {K : List KnC} {RA : Int → Option Addr × Nat} {M told due : List Int} {nM : Nat} {D : Option Addr} {cd : Nat} {came : Int}
set_option maxRecDepth 100000 in
set_option maxHeartbeats 4000000 in
theorem level_any (A : Option Addr) (c : Nat) (L : List Int) (h : NdSt W w N gn gr gm gt K RA M told due nM D cd came) (hr : RowZ w (fun b => b < w.heap.size ∧ ¬ Sp gn gm gt D b) A (ints L)) (hLo : ∀ y ∈ L, ownF K y = true) (hL : L.length ≤ 480) (h64 : K64 K) (hK : (allR K).length ≤ 1048576) (hKl : K.length ≤ 480) (hnM : nM ≤ 1099511627776) :
    Calls Try.prog 27 #[.pointer (some ⟨gn, 0, none⟩), .slice A L.length c] w (LevP W w N gn gr gm gt K RA M L told due (nM + L.length) D came) := by
  have HH := Lib.hid h
  have HR := Lib.hid hr
  have HLO := Lib.hid hLo
  have H64 := Lib.hid h64
  have HK := Lib.hid hK
  have hwN := h.nw
  have hmm := @run_makeMap Try.prog
  clear h hr hLo h64 hK
  go_enter Try.func27, Try.ntmps27
  go_wp2_with fail
  go_loopg [18] L.length (fun gk i wr => ∃ k : Nat, gk = L.length - k ∧ k ≤ L.length ∧ i = .int .i64 k ∧ NdSt W wr N gn gr gm gt K RA (M ++ L.take k) told due (nM + k) D cd came ∧ Only (fun b => b = gm) w wr)
  case atStart => exact ⟨0, by omega, by omega, rfl, by simpa using HH.out, Only.refl _ _⟩
  case round =>
    obtain ⟨k, hgk, hk, rfl, hst, hon⟩ := hrel
    have HKK := Lib.hid hgk
    clear hgk
    by_cases hlt : k < L.length
    · obtain ⟨b1, o1, rfl, hb1, hc⟩ := HR.out (by rw [ints_len]; omega)
      have z0 : wr.cell? ⟨b1, o1 + k, none⟩ = some (.int .i64 (L.getD k 0)) := by
        have e : wr.cell? ⟨b1, o1 + k, none⟩ = w.cell? ⟨b1, o1 + k, none⟩ := by simp only [World.cell?, hon.block b1 hb1.1 (fun e => hb1.2 (.inr (.inl e)))]
        exact e.trans (hc k _ (at_ints L hlt))
      have HTK := Lib.hid (take_next L hlt)
      have hown := HLO.out _ (getD_mem 0 hlt)
      generalize L.getD k 0 = y at *
      obtain ⟨w1, hrun, hst1, hon1⟩ := hst.mark (own_64 H64.out hown) (show nM + k < maxLen by unfold maxLen; omega)
      have q1 : wr.cell? ⟨gn, 1, none⟩ = some (.map (some gm)) := hst.box.cell 1
      have HS1 := Lib.hid hst1
      have HO1 := Lib.hid (hon.trans hon1)
      have hkl : (k : Int) < (L.length : Int) := by omega
      clear hst hon hst1 hon1 hc hown hmm hb1
      go_wp2_with fail
      go_roundg (L.length - (k + 1))
      case measure => have := HKK.out; omega
      case rel => exact ⟨k + 1, rfl, by omega, by go_num, by rw [HTK.out, ← List.append_assoc]; exact HS1.out, HO1.out⟩
    obtain rfl : k = L.length := by omega
    have hln : ¬ (L.length : Int) < (L.length : Int) := by omega
    rw [List.take_length] at hst
    obtain ⟨wa, hwa⟩ : ∃ wa, wa = wr := ⟨_, rfl⟩
    subst hwa
    have HSA := Lib.hid hst
    have HOA := Lib.hid hon
    have hsa := hon.size
    clear HH HKK hlt hst hon hk
    go_upto_region 7 with fail
    obtain ⟨gx, hgx⟩ : ∃ gx, wa.heap.size = gx := ⟨_, rfl⟩
    have HX0 := Lib.hid (show IntMap (wa.alloc (.map #[] 0)) gx 0 (setF []) from by rw [← hgx]; exact MapV.made wa)
    have HS0 := Lib.hid (HSA.out.alloc (.map #[] 0))
    have HO0 := Lib.hid ((HOA.out.more (S' := Sp gn gm gt D) (fun b e => .inr (.inl e))).alloc (.map #[] 0))
    have HDX : Hid (∀ b, D.map (·.block) = some b → b ≠ gx) := fun b hb e => by
      have h1 := HSA.out.du.form
      rcases h1 with ⟨e1, _⟩ | ⟨g1, o1, e1⟩
      · rw [e1] at hb; cases hb
      · subst e1
        have := HSA.out.du.lt
        simp at hb
        omega
    have hgxN : N ≤ gx := by have := HSA.out.nw; omega
    have hgxw : w.heap.size ≤ gx := by omega
    have hxs : gx < (wa.alloc (.map #[] 0)).heap.size := by simp; omega
    rw [hgx]
    generalize wa.alloc (.map #[] 0) = w2 at *
    clear HSA HOA hmm hsa hln hgx
    go_wp2_with fail
    go_loopg [31] L.length (fun gk i wr => ∃ (k : Nat) (D' : Option Addr) (cd' cnt : Nat), gk = L.length - k ∧ k ≤ L.length ∧ i = .int .i64 k ∧ NdSt W wr N gn gr gm gt K RA (M ++ L) (levF K (M ++ L) (L.take k) ⟨[], told, due⟩).told (levF K (M ++ L) (L.take k) ⟨[], told, due⟩).due (nM + L.length) D' cd' came ∧ IntMap wr gx cnt (setF (levF K (M ++ L) (L.take k) ⟨[], told, due⟩).nx) ∧ cnt ≤ k * 1048576 ∧ Only (Sp gn gm gt D) w wr ∧ w2.heap.size ≤ wr.heap.size ∧ ∀ b, D'.map (·.block) = some b → (D.map (·.block) = some b ∨ w.heap.size ≤ b) ∧ b ≠ gx)
    case atStart => exact ⟨0, D, cd, 0, by omega, by omega, rfl, HS0.out, HX0.out, by omega, HO0.out, Nat.le_refl _, fun b hb => ⟨.inl hb, HDX.out b hb⟩⟩
    case round =>
      clear HS0 HX0 HO0 HDX
      obtain ⟨k, D2, cd2, cnt, hgk, hk, rfl, hst, hx, hcnt, hon, hsz, hD2⟩ := hrel
      have HKK := Lib.hid hgk
      clear hgk
      by_cases hlt : k < L.length
      · obtain ⟨b1, o1, rfl, hb1, hc⟩ := HR.out (by rw [ints_len]; omega)
        have z0 : wr.cell? ⟨b1, o1 + k, none⟩ = some (.int .i64 (L.getD k 0)) := by
          have e : wr.cell? ⟨b1, o1 + k, none⟩ = w.cell? ⟨b1, o1 + k, none⟩ := by simp only [World.cell?, hon.block b1 hb1.1 hb1.2]
          exact e.trans (hc k _ (at_ints L hlt))
        have HTK : Hid (levF K (M ++ L) (L.take (k + 1)) ⟨[], told, due⟩ = rowL K (M ++ L) (levF K (M ++ L) (L.take k) ⟨[], told, due⟩) (L.getD k 0)) := by
          show _ = _
          rw [take_next L hlt]
          unfold levF
          rw [List.foldl_append]
          rfl
        have hown := HLO.out _ (getD_mem 0 hlt)
        generalize L.getD k 0 = r at *
        obtain ⟨sl, hsl⟩ : ∃ sl, levF K (M ++ L) (L.take k) ⟨[], told, due⟩ = sl := ⟨_, rfl⟩
        rw [hsl] at hst hx HTK
        clear hsl
        obtain ⟨AR, hAR⟩ : ∃ AR, (RA r).1 = AR := ⟨_, rfl⟩
        obtain ⟨cR, hcR⟩ : ∃ cR, (RA r).2 = cR := ⟨_, rfl⟩
        obtain ⟨rf, hrf⟩ : ∃ rf, refsF K r = rf := ⟨_, rfl⟩
        have hlk := hst.refs.look ints_keyed (t := 58) (e := 23) Try.underlying58 (zero_rowK wr) (int_key (own_64 H64.out hown))
        rw [if_pos hown, hAR, hcR, hrf] at hlk
        simp only [Option.getD_some] at hlk
        have HROW : Hid (∀ (w' : World) (M' told' due' : List Int) (nM' : Nat) (D' : Option Addr) (cd' : Nat), NdSt W w' N gn gr gm gt K RA M' told' due' nM' D' cd' came → RowZ w' (Calm N gn gr gm gt) AR (ints rf)) := fun w' _ _ _ _ _ _ st => by
          have := st.rows r hown
          rw [hAR, hrf] at this
          exact this
        have HR64 : Hid (∀ y ∈ rf, I64 y ∧ y ∈ allR K) := fun y hy => by rw [← hrf] at hy; exact ⟨refs_64 H64.out hy, refs_all hy⟩
        have hrl : rf.length ≤ 1048576 := by rw [← hrf]; exact Nat.le_trans (refs_len r) HK.out
        have HRW : Hid (rowL K (M ++ L) sl r = rf.foldl (stepL K (M ++ L)) sl) := by show _ = _; unfold rowL; rw [hrf]
        have q0 : wr.cell? ⟨gn, 0, none⟩ = some (.map (some gr)) := hst.box.cell 0
        have hkl : (k : Int) < (L.length : Int) := by omega
        have HST := Lib.hid hst
        have HX := Lib.hid hx
        have HON := Lib.hid hon
        have HD2 := Lib.hid hD2
        obtain ⟨wo, hwo⟩ : ∃ wo, wo = wr := ⟨_, rfl⟩
        subst hwo
        clear hst hx hon hD2 hc hown hb1 hAR hcR hrf
        go_wp2_with fail
        go_loopg [42] rf.length (fun gk i wr => ∃ (j : Nat) (D' : Option Addr) (cd' cnt' : Nat), gk = rf.length - j ∧ j ≤ rf.length ∧ i = .int .i64 j ∧ NdSt W wr N gn gr gm gt K RA (M ++ L) ((rf.take j).foldl (stepL K (M ++ L)) sl).told ((rf.take j).foldl (stepL K (M ++ L)) sl).due (nM + L.length) D' cd' came ∧ IntMap wr gx cnt' (setF ((rf.take j).foldl (stepL K (M ++ L)) sl).nx) ∧ cnt' ≤ k * 1048576 + j ∧ Only (Sp gn gm gt D) w wr ∧ w2.heap.size ≤ wr.heap.size ∧ ∀ b, D'.map (·.block) = some b → (D.map (·.block) = some b ∨ w.heap.size ≤ b) ∧ b ≠ gx)
        case atStart => exact ⟨0, D2, cd2, cnt, by omega, by omega, rfl, HST.out, HX.out, Nat.le_trans hcnt (Nat.le_add_right _ _), HON.out, hsz, HD2.out⟩
        case round =>
          clear HST HX HON HD2 hlk q0 z0 hsz
          obtain ⟨j, D3, cd3, cnt3, hgk, hj, rfl, hst, hx, hcnt3, hon, hsz, hD3⟩ := hrel
          have HJJ := Lib.hid hgk
          clear hgk
          by_cases hltj : j < rf.length
          · obtain ⟨b3, o3, rfl, hb3, hc⟩ := HROW.out _ _ _ _ _ _ _ hst (by rw [ints_len]; omega)
            have z1 := hc j _ (at_ints rf hltj)
            have HTJ : Hid ((rf.take (j + 1)).foldl (stepL K (M ++ L)) sl = stepL K (M ++ L) ((rf.take j).foldl (stepL K (M ++ L)) sl) (rf.getD j 0)) := by
              show _ = _
              rw [take_next rf hltj, List.foldl_append]
              rfl
            obtain ⟨hy64, hyA⟩ := HR64.out _ (getD_mem 0 hltj)
            generalize rf.getD j 0 = y at *
            obtain ⟨s2, hs2⟩ : ∃ s2, (rf.take j).foldl (stepL K (M ++ L)) sl = s2 := ⟨_, rfl⟩
            rw [hs2] at hst hx HTJ
            have hjl : (j : Int) < (rf.length : Int) := by omega
            have q0 : wr.cell? ⟨gn, 0, none⟩ = some (.map (some gr)) := hst.box.cell 0
            have q1 : wr.cell? ⟨gn, 1, none⟩ = some (.map (some gm)) := hst.box.cell 1
            have hlo := hst.refs.look_ok ints_keyed (t := 58) (e := 23) Try.underlying58 (zero_rowK wr) (int_key hy64)
            have hhi := hst.hi
            have hngx : ¬ Sp gn gm gt D3 gx := fun e => by
              rcases e with e | e | e | e
              · omega
              · omega
              · omega
              · exact (hD3 gx e).2 rfl
            have HON := Lib.hid hon
            have HD3 := Lib.hid hD3
            have hgxr := hx.lt
            clear hc hb3 hs2
            cases ho : ownF K y with
            | false =>
              rw [ho] at hlo
              simp only [Bool.false_eq_true, if_false, Option.getD_none, Option.isSome_none] at hlo
              have HTL := Lib.hid (tell_any hst hy64 HK.out hyA)
              have HX := Lib.hid hx
              have HE := Lib.hid (stepL_tell (M := M ++ L) (s := s2) ho)
              clear hst hx ho hon hD3
              go_wp2_with fail
              refine HTL.out.mono ?_
              rintro e w9 ⟨rfl, D4, cd4, hst4, hon4, hD4⟩
              have HX4 := Lib.hid (HX.out.only hon4 hngx)
              have HS4 := Lib.hid hst4
              have HO4 := Lib.hid (only_trans2 HON.out hon4 (fun i hi e => by
                rcases e with e | e | e | e
                · exact .inl e
                · exact .inr (.inl e)
                · exact .inr (.inr (.inl e))
                · exact .inr (.inr (.inr ((HD3.out i e).1.resolve_right (by omega))))))
              have HZ4 := Lib.hid (Nat.le_trans hsz hon4.size)
              have HD4 : Hid (∀ b, D4.map (·.block) = some b → (D.map (·.block) = some b ∨ w.heap.size ≤ b) ∧ b ≠ gx) := fun b hb => by
                rcases hD4 b hb with h1 | h1
                · exact HD3.out b h1
                · exact ⟨.inr (Nat.le_trans HON.out.size h1), by omega⟩
              clear hst4 hon4 hD4
              go_wp2_with fail
              go_roundg (rf.length - (j + 1))
              case measure => have := HJJ.out; omega
              case rel => exact ⟨j + 1, D4, cd4, cnt3, rfl, by omega, by go_num, by rw [HTJ.out, HE.out]; exact HS4.out, by rw [HTJ.out, HE.out]; exact HX4.out, by omega, HO4.out, HZ4.out, HD4.out⟩
            | true =>
              rw [ho] at hlo
              simp only [if_true, Option.getD_some, Option.isSome_some] at hlo
              have hlm := hst.look_mark hy64
              cases hm : (M ++ L).contains y with
              | true =>
                rw [hm] at hlm
                have HE := Lib.hid (stepL_skip (s := s2) ho hm)
                have HS4 := Lib.hid hst
                have HX4 := Lib.hid hx
                clear hst hx ho hon hD3 hm
                go_wp2_with fail
                go_roundg (rf.length - (j + 1))
                case measure => have := HJJ.out; omega
                case rel => exact ⟨j + 1, D3, cd3, cnt3, rfl, by omega, by go_num, by rw [HTJ.out, HE.out]; exact HS4.out, by rw [HTJ.out, HE.out]; exact HX4.out, by omega, HON.out, hsz, HD3.out⟩
              | false =>
                rw [hm] at hlm
                obtain ⟨w9, hrun, hx9, hg9⟩ := hx.put ints_keyed (t := 59) (e := 4) Try.underlying59 (show cnt3 < maxLen by unfold maxLen; omega) intL_inj intL_key (int_key hy64) (.bool true)
                rw [setF_step (s := s2) ho hm] at hx9
                have ho9 := only_of_grown hg9
                have HE := Lib.hid (stepL_put (s := s2) ho hm)
                have HS4 := Lib.hid (hst.off ho9 (fun b e => by subst e; exact ⟨hgxN, fun e => (hD3 _ e).2 rfl⟩))
                have HX4 := Lib.hid hx9
                have HO4 := Lib.hid (only_trans2 HON.out ho9 (fun i hi e => by omega))
                have HZ4 := Lib.hid (Nat.le_trans hsz ho9.size)
                clear hst hx ho hon hD3 hm hx9 hg9 ho9
                go_wp2_with fail
                go_roundg (rf.length - (j + 1))
                case measure => have := HJJ.out; omega
                case rel => exact ⟨j + 1, D3, cd3, cnt3 + 1, rfl, by omega, by go_num, by rw [HTJ.out, HE.out.1, HE.out.2.1]; exact HS4.out, by rw [HTJ.out]; exact HX4.out, by omega, HO4.out, HZ4.out, HD3.out⟩
          · obtain rfl : j = rf.length := by omega
            have hlj : ¬ (rf.length : Int) < (rf.length : Int) := by omega
            rw [List.take_length, ← HRW.out, ← HTK.out] at hst hx
            have HST := Lib.hid hst
            have HX := Lib.hid hx
            have HON := Lib.hid hon
            have HD3 := Lib.hid hD3
            clear hst hx hon hD3 HJJ hltj
            go_wp2_with fail
            go_roundg (L.length - (k + 1))
            case measure => have := HKK.out; omega
            case rel => exact ⟨k + 1, D3, cd3, cnt3, rfl, by omega, by go_num, HST.out, HX.out, by omega, HON.out, hsz, HD3.out⟩
      · obtain rfl : k = L.length := by omega
        have hln : ¬ (L.length : Int) < (L.length : Int) := by omega
        rw [List.take_length] at hst hx
        obtain ⟨sf, hsf⟩ : ∃ sf, levF K (M ++ L) L ⟨[], told, due⟩ = sf := ⟨_, rfl⟩
        have HNN : Hid (sf.nx.Nodup) := by show List.Nodup _; rw [← hsf]; exact lev_nodup K _ L _ (by simp)
        have HNO : Hid (∀ y ∈ sf.nx, ownF K y = true) := fun y hy => by
          rw [← hsf] at hy
          rcases (lev_mem K (M ++ L) L ⟨[], told, due⟩ y).1 hy with h1 | h1
          · cases h1
          · exact h1.2.1
        have HNF : Hid (nextF K M L = srtI sf.nx) := by
          show _ = _
          unfold nextF
          rw [levF_nx K (M ++ L) L ⟨[], [], []⟩ ⟨[], told, due⟩ rfl, hsf]
        rw [hsf] at hst hx
        have HSF := Lib.hid hsf
        obtain ⟨wb, hwb⟩ : ∃ wb, wb = wr := ⟨_, rfl⟩
        subst hwb
        have HST := Lib.hid hst
        have HX := Lib.hid hx
        have HON := Lib.hid hon
        have HD3 := Lib.hid hD2
        have hgxb := hx.lt
        clear hst hx hon hD2 HKK hlt hk hsf
        go_wp2_with (at_range; refine wpList_range_mapV rfl (.tmp 71) 59 4 rfl Try.underlying59 rfl HX.out ?_; intro w8 cnt8 hrg ho8 hs8; have HRG := Lib.hid hrg; have HO8 := Lib.hid ho8; have HS8 := Lib.hid hs8; clear hrg ho8 hs8)
        obtain ⟨rr, hrr⟩ : ∃ rr, wb.heap.size = rr := ⟨_, rfl⟩
        rw [hrr] at HRG ⊢
        have hs8 : w8.heap.size = rr + 1 := by have := HS8.out; omega
        go_loopg [14] cnt8 (fun gk v wr => ∃ (left : Int → Bool) (cn : Nat) (ys : List Int) (A9 : Option Addr) (c9 : Nat), gk = cn ∧ v = .slice A9 ys.length c9 ∧ RngV wr gx rr cnt (setF sf.nx) left cn ∧ OwnAt wr (rr + 1) 3 1 A9 ys.length c9 (ints ys) ∧ (∀ x, left x = (sf.nx.contains x && !ys.contains x)) ∧ ys.Nodup ∧ (∀ y ∈ ys, y ∈ sf.nx) ∧ Only (fun b => b = rr) w8 wr)
        case atStart => exact ⟨_, cnt8, [], none, 0, rfl, rfl, HRG.out, OwnAt.nil, fun x => by unfold setF; cases sf.nx.contains x <;> simp, by simp, (fun y hy => by cases hy), Only.refl _ _⟩
        case round =>
          clear HRG
          obtain ⟨left, cn, ys, A9, c9, hgk, rfl, hrg, how, hleft, hnd, hsub, hon⟩ := hrel
          have HK9 := Lib.hid hgk
          have HRG := Lib.hid hrg
          have HOW := Lib.hid how
          have HLF := Lib.hid hleft
          have HND := Lib.hid hnd
          have HSB := Lib.hid hsub
          have HO9 := Lib.hid hon
          have hyl : ys.length ≤ 480 := Nat.le_trans (nodup_len ys (K.map (·.ref)) hnd (fun y hy => by
            have := HNO.out y (hsub y hy)
            unfold ownF at this
            simpa using this)) (by rw [List.length_map]; exact hKl)
          clear hgk hrg how hleft hnd hsub hon
          go_wp2_with (at_next; refine wpList_next_mapV rfl (.tmp 72) rfl rfl HRG.out ?_ ?_)
          · intro hl
            have HEQ : Hid (srtI ys = nextF K M L) := by
              show _ = _
              rw [HNF.out]
              refine srtI_set HND.out HNN.out fun x => ⟨HSB.out x, fun hx => ?_⟩
              have h1 := hl x
              rw [HLF.out x, show sf.nx.contains x = true by simpa using hx, Bool.true_and] at h1
              simpa using h1
            have hbw : Below rr wb wr := by
              have h1 : Below rr wb w8 := HO8.out.to_below (Below.refl _ _) (by omega) (fun _ e => e.elim)
              exact HO9.out.to_below h1 (by omega) (fun b e => by omega)
            have HBW := Lib.hid hbw
            have HSO := Lib.hid (sort_own A9 ys.length c9 (rr + 1) ys wr HOW.out rfl (by omega))
            clear hl hbw
            go_wp2_with fail
            refine HSO.out.mono ?_
            rintro e w10 ⟨rfl, hos, hon⟩
            have hb10 : Below rr wb w10 := hon.to_below HBW.out (by have := HBW.out.size; omega) (fun b hb => by have := own_lo' HOW.out b hb; omega)
            rw [HEQ.out] at hos
            have hlen : ys.length = (nextF K M L).length := by rw [← HEQ.out, srtI_len]
            rw [hlen] at hos
            have HB10 := Lib.hid (show Below wb.heap.size wb w10 by rw [hrr]; exact hb10)
            have HOS := Lib.hid hos
            clear hos hon hb10
            go_wp2_with fail
            go_ret
            refine ⟨A9, c9, D2, cd2, rfl, ?_, ?_, HON.out.below HB10.out, fun b hb => (HD3.out b hb).1, fun b hb e => ?_⟩
            · exact HOS.out.lower (by have := HON.out.size; omega)
            · rw [HSF.out]
              exact HST.out.below HB10.out
            · have h1 := own_lo' HOS.out b hb
              have h2 := HST.out.du.form
              rcases h2 with ⟨e1, _⟩ | ⟨g1, o1, e1⟩
              · rw [e1] at e; cases e
              · subst e1
                have := HST.out.du.lt
                simp at e
                omega
          · intro x9 v9 w9 cn9 hx9 hl9 hF9 hrg9 hlt9 ho9 hs9 hen
            have hin : x9 ∈ sf.nx := by
              unfold setF at hF9
              by_cases h1 : sf.nx.contains x9 = true
              · simpa using h1
              · rw [if_neg h1] at hF9; cases hF9
            have hout : x9 ∉ ys := by
              have h1 := HLF.out x9
              rw [hl9] at h1
              intro h2
              rw [show ys.contains x9 = true by simpa using h2] at h1
              simp at h1
            have hA9 : ∀ b, A9.map (·.block) = some b → b ≠ rr ∧ b ≠ gx := fun b hb => by have := own_lo' HOW.out b hb; omega
            have HOW9 := Lib.hid ((HOW.out.only ho9 (fun b hb e => (hA9 b hb).1 e)).alloc (.cells #[.int .i64 x9] 3))
            have HR9 := Lib.hid hrg9
            have HL9 := Lib.hid hlt9
            have HP9 := Lib.hid (HO9.out.trans ho9)
            have HLT : Hid (∀ z, (left z && !(z == x9)) = (sf.nx.contains z && !(ys ++ [x9]).contains z)) := fun z => by
              rw [HLF.out z]
              by_cases e : z = x9
              · subst e; simp
              · simp [e]
            have HN9 : Hid ((ys ++ [x9]).Nodup) := by
              show List.Nodup _
              rw [List.nodup_append]
              exact ⟨HND.out, by simp, fun a ha b hb e => by rw [List.mem_singleton] at hb; subst hb e; exact hout ha⟩
            have HS9 : Hid (∀ y ∈ ys ++ [x9], y ∈ sf.nx) := fun y hy => by
              rcases List.mem_append.1 hy with hy | hy
              · exact HSB.out y hy
              · rw [List.mem_singleton.1 hy]; exact hin
            have e0 : (w9.alloc (.cells #[.int .i64 x9] 3)).cell? ⟨w9.heap.size, 0, none⟩ = some (.int .i64 x9) := (Box.new w9 3 #[.int .i64 x9]).cell 0
            have HE0 := Lib.hid e0
            have HBS : Hid (rr + 1 ≤ (w9.alloc (.cells #[.int .i64 x9] 3)).heap.size) := by show _ ≤ _; simp; have := HP9.out.size; omega
            have HYL : Hid (ys.length + 1 ≤ 4398046511104) := by show _ ≤ _; omega
            have HA9 := Lib.hid hA9
            clear hx9 hl9 hF9 hrg9 hlt9 ho9 hs9 e0 hin hout hA9
            go_wp2_with (at_builtin; refine wpList_append_k rfl (.tmp 77) (.tmp 79) rfl (rr + 1) A9 c9 ys rfl HOW9.out w9.heap.size x9 rfl HE0.out HYL.out HBS.out ?_; intro A5 c5 w5 j1 j2 j3; have H5 := Lib.hid j1; have HG5 := Lib.hid j2; clear j1 j2 j3)
            have ho5 : Only (fun b => A9.map (·.block) = some b) w9 w5 := (Only.refl _ w9).alloc (.cells #[.int .i64 x9] 3) |>.trans ⟨HG5.out.os, HG5.out.tape, HG5.out.output, HG5.out.size, fun i hi hne => HG5.out.block i hi (fun e => hne e.symm)⟩
            have HR5 := Lib.hid (HR9.out.only ho5 (fun e => (HA9.out _ e).2 rfl) (fun e => (HA9.out _ e).1 rfl))
            have HO5 := Lib.hid (only_trans2 HP9.out ho5 (fun i hi e => by have := own_lo' HOW.out i e; omega))
            clear ho5
            go_roundg cn9
            case measure => rw [HK9.out]; exact HL9.out
            case rel => exact ⟨_, cn9, ys ++ [x9], A5, c5, rfl, by simp, HR5.out, H5.out, HLT.out, HN9.out, HS9.out, HO5.out⟩
end
end Go.Proofs.Ytbhdagjilmgahaa
