/-
  The walk of roadref4.Unpack.
-/
import Derived.Test.YtcmkkfpcdebfkaaUnp3
import Derived.Test.YtcmkkfpcdebfkaaEv2
import Derived.Test.YtcmkkfpcdebfkaaIRow
import Derived.RegionTactic
import Derived.BigRegion
namespace Go.Proofs.Ytcmkkfpcdebfkaa
open Go.RowKit

/-- What the events read so far have to do with all. -/
structure EnSo (n t : Nat) (L1 : List Int) (es : List Ev) (L : List Int) : Prop where
  len : es.length = t
  wf : ∀ x ∈ es, I64 x.2.2
  all : evsN n L1 = (evsN (n - t) L).map fun p => (es ++ p.1, p.2)
theorem EnSo.start (n : Nat) (L1 : List Int) : EnSo n 0 L1 [] L1 := ⟨rfl, (fun x hx => by cases hx), by simp⟩
section
variable {n t : Nat} {L1 L : List Int} {es : List Ev} {k m : Int}
theorem EnSo.none (h : EnSo n t L1 es []) (ht : t < n) : evsN n L1 = .none := by
  rw [h.all, show n - t = (n - (t + 1)) + 1 by omega, evsN_nil]
  rfl
theorem EnSo.end1 (h : EnSo n t L1 es [k]) (ht : t < n) (hk : k % 3 ≠ 0) : evsN n L1 = .none := by
  rw [h.all, show n - t = (n - (t + 1)) + 1 by omega, evsN_end hk]
  rfl
theorem EnSo.one (h : EnSo n t L1 es (k :: L)) (ht : t < n) (hk : k % 3 = 0) : EnSo n (t + 1) L1 (es ++ [(k / 3, k % 3 + 1, 0)]) L := by
  refine ⟨by rw [List.length_append, h.len]; rfl, fun x hx => ?_, ?_⟩
  · rcases List.mem_append.1 hx with hx | hx
    · exact h.wf x hx
    · simp only [List.mem_singleton] at hx; subst hx; unfold I64; dsimp only; omega
  · rw [h.all, show n - t = (n - (t + 1)) + 1 by omega, evsN_loc hk]
    cases evsN (n - (t + 1)) L with
    | none => rfl
    | some p => simp only [Option.map_some, List.append_assoc, List.singleton_append]
theorem EnSo.two (h : EnSo n t L1 es (k :: m :: L)) (ht : t < n) (hk : k % 3 ≠ 0) (hm : I64 m) : EnSo n (t + 1) L1 (es ++ [(k / 3, k % 3 + 1, m)]) L := by
  refine ⟨by rw [List.length_append, h.len]; rfl, fun x hx => ?_, ?_⟩
  · rcases List.mem_append.1 hx with hx | hx
    · exact h.wf x hx
    · simp only [List.mem_singleton] at hx; subst hx; exact hm
  · rw [h.all, show n - t = (n - (t + 1)) + 1 by omega, evsN_msg hk]
    cases evsN (n - (t + 1)) L with
    | none => rfl
    | some p => simp only [Option.map_some, List.append_assoc, List.singleton_append]
end
theorem mi_infoU : (Try.prog.info? 3).map (fun i => (i.zero, i.size, i.bytes)) = some (some (.int .i64 0), 1, 8) := by kernel_rfl
theorem int_infoS : ∃ i, Try.prog.info? 3 = some i ∧ i.size = 1 := by
  obtain ⟨i, h1, _, h2, _⟩ := info_parts mi_infoU
  exact ⟨i, h1, h2⟩
/-- The first number taken off a row of numbers. -/
theorem ints_tail {w : World} {B : Nat} {A : Option Addr} {c : Nat} {k : Int} {L : List Int} (h : Row w B A (ints (k :: L))) (hc : (k :: L).length ≤ c) :
    ∃ b o o', A = some ⟨b, o, none⟩ ∧ b < B ∧ w.cell? ⟨b, o, none⟩ = some (.int .i64 k) ∧ (∀ w, (Instr.slice 33 (.slice (some ⟨b, o, none⟩) (k :: L).length c) (some (.int .i64 1)) none none).run Try.prog w = .ok (.slice (some ⟨b, o', none⟩) L.length (c - 1)) w) ∧ Row w B (some ⟨b, o', none⟩) (ints L) := by
  obtain ⟨b, o, rfl, hb, hcell⟩ := h.int (i := 0) (by simp)
  obtain ⟨i0, hi0, hs0⟩ := int_infoS
  obtain ⟨o', hrun, ho'⟩ := slice_from (P := Try.prog) (b := b) (o := o) (k := 1) Try.underlying33 hi0 hs0 (show 1 ≤ (k :: L).length by simp) hc
  have hrow := h.dropAt (o' := o') (k := 1) (by rw [ints_len]; exact ho')
  exact ⟨b, o, o', rfl, hb, by rw [Nat.add_zero] at hcell; exact hcell, hrun, hrow⟩

set_option maxRecDepth 100000 in
set_option maxHeartbeats 4000000 in
theorem unpackR (A : Option Addr) (c : Nat) (bs : List UInt8) (W : World) (h : ByIn W A c bs) :
    Calls Try.prog 81 #[.slice A bs.length c] W fun e w' => ∃ v, e = .returned (.tuple #[v, .int .i64 (unp bs).2]) ∧ EvOwn w' W.heap.size v (unp bs).1 ∧ Below W.heap.size W w' := by
  have hlen : bs.length ≤ 9223372036854775807 := by have := h.le; have := h.cap; unfold maxLen at this; omega
  by_cases h4 : 4000 < bs.length
  · have d1 : decide ((4000 : Int) < (bs.length : Int)) = true := decide_eq_true (by omega)
    have d1' : decide (4000 < bs.length) = true := decide_eq_true h4
    rw [show unp bs = ([], 2) by unfold unp; rw [if_pos h4]]
    clear h h4
    go_enter Try.func81, Try.ntmps81
    go_wp2_with fail
    go_ret2
    exact ⟨_, rfl, World.ownsRow_nil _ _ _ _, Below.refl _ _⟩
  have d1 : decide ((4000 : Int) < (bs.length : Int)) = false := decide_eq_false (by omega)
  have d1' : decide (4000 < bs.length) = false := decide_eq_false h4
  have HU0 := Lib.hid (unp_ref bs h4)
  have HRR := Lib.hid (readR A c bs W h (by omega))
  clear h h4
  generalize hun : unp bs = U at *
  generalize readS bs = res at *
  clear hun
  obtain ⟨L0, ok⟩ := res
  dsimp only at HU0 HRR
  go_enter Try.func81, Try.ntmps81
  go_wp2_with fail
  refine HRR.out.mono ?_
  rintro e w1 ⟨v, rfl, ho1, hl4, hrng, hb1⟩
  obtain ⟨A1, c1, rfl, hr1, hc1, hcm1, _⟩ := row_of_own_int ho1
  have HB1 := Lib.hid hb1
  have HR1 := Lib.hid hr1
  have HRNG := Lib.hid hrng
  have hb1s := hb1.size
  unfold maxLen at hcm1
  clear ho1 hrng hb1 hr1 HRR
  match L0, HU0, HR1, HRNG, hc1, hl4 with
  | [], HU0, HR1, HRNG, hc1, hl4 =>
    have HE := Lib.hid (show U = ([], 3) from HU0.out)
    go_wp2_with fail
    go_ret2
    rw [HE.out]
    exact ⟨_, rfl, World.ownsRow_nil _ _ _ _, HB1.out⟩
  | n0 :: L1, HU0, HR1, HRNG, hc1, hl4 =>
    obtain ⟨b, o, o', rfl, hbl, hcell, hrun, hrow⟩ := ints_tail HR1.out hc1
    have hn0 := HRNG.out n0 (by simp)
    obtain ⟨n, rfl⟩ : ∃ n : Nat, n0 = n := ⟨n0.toNat, by omega⟩
    have HROW := Lib.hid hrow
    have hpos : 0 < (((n : Int) :: L1).length : Nat) := by simp
    have hcl : L1.length ≤ c1 - 1 := by simp at hc1; omega
    have hll : L1.length ≤ 4000 := by simp at hl4; omega
    have HWF := Lib.hid (show ∀ x ∈ L1, 0 ≤ x ∧ x < 2097152 from fun x hx => HRNG.out x (by simp [hx]))
    have HU1 := Lib.hid (show U = if 200 < (n : Int) then ([], 2) else refU3 ok (evsN n L1) from HU0.out)
    have hnz : (((((n : Int) :: L1).length : Nat) : Int) == 0) = false := by rw [beq_eq_false_iff_ne]; omega
    generalize (((n : Int) :: L1).length : Nat) = ln at *
    clear hrow HU0 HR1 HRNG
    by_cases h200 : 200 < n
    · have d2 : decide ((200 : Int) < (n : Int)) = true := decide_eq_true (by omega)
      have d2' : decide (200 < n) = true := decide_eq_true h200
      have HE := Lib.hid (show U = ([], 2) by rw [HU1.out, if_pos (by omega)])
      clear h200
      go_wp2_with fail
      go_ret2
      rw [HE.out]
      exact ⟨_, rfl, World.ownsRow_nil _ _ _ _, HB1.out⟩
    have d2 : decide ((200 : Int) < (n : Int)) = false := decide_eq_false (by omega)
    have d2' : decide (200 < n) = false := decide_eq_false h200
    have HU := Lib.hid (show U = refU3 ok (evsN n L1) by rw [HU1.out, if_neg (by omega)])
    clear HU1
    go_wp2_with fail
    clear hcell hrun d2 d2' hnz hpos
    go_loopg [4, 7, 29] n (fun gk vl v i wr => ∃ (t : Nat) (es : List Ev) (L : List Int) (A' : Option Addr) (c' : Nat), gk = n - t ∧ t ≤ n ∧ i = .int .i64 t ∧ vl = .slice A' L.length c' ∧ Row w1 w1.heap.size A' (ints L) ∧ (L.length ≤ c' ∧ c' ≤ 9223372036854775807 ∧ L.length ≤ 4000) ∧ (∀ x ∈ L, 0 ≤ x ∧ x < 2097152) ∧ EvOwn wr w1.heap.size v es ∧ EnSo n t L1 es L ∧ Below w1.heap.size w1 wr)
    case atStart => exact ⟨0, [], L1, _, _, by omega, by omega, rfl, rfl, HROW.out, ⟨hcl, by omega, hll⟩, HWF.out, World.ownsRow_nil _ _ _ _, EnSo.start _ _, Below.refl _ _⟩
    case round =>
      clear HROW HWF
      obtain ⟨t, es, L, A', c', hgk, ht, rfl, rfl, hrow, hcap, hwf, hown, hso, hb⟩ := hrel
      have HGK := Lib.hid hgk
      have HO := Lib.hid hown
      have HSO := Lib.hid hso
      have HB := Lib.hid hb
      have HWF := Lib.hid hwf
      have HROW := Lib.hid hrow
      have HEL := Lib.hid hso.len
      have hbs := hb.size
      obtain ⟨hc1', hc2', hc3'⟩ := hcap
      clear hgk hown hso hb hwf hrow
      by_cases htn : t < n
      · match L, HROW, HWF, HSO, hc1', hc3' with
        | [], HROW, HWF, HSO, hc1', hc3' =>
          have HE := Lib.hid (show U = ([], 3) by rw [HU.out, HSO.out.none htn]; rfl)
          go_wp2_with fail
          go_ret2
          rw [HE.out]
          exact ⟨_, rfl, World.ownsRow_nil _ _ _ _, HB1.out.trans (HB.out.mono hb1s)⟩
        | k :: L2, HROW, HWF, HSO, hc1', hc3' =>
          obtain ⟨b2, o2, o2', rfl, hbl2, hcell, hrun, hrow2⟩ := ints_tail HROW.out hc1'
          have hk := HWF.out k (by simp)
          have HROW2 := Lib.hid hrow2
          have hc1a := (HB.out.cell (p := ⟨b2, o2, none⟩) hbl2).trans hcell
          have hb2w : b2 < wr.heap.size := by omega
          have hz1 : (wr.alloc (.cells #[.int .i64 0, .int .i64 0, .int .i64 0] 146)).cell? ⟨b2, o2, none⟩ = some (.int .i64 k) := (World.cell?_alloc_lt wr _ _ hb2w).trans hc1a
          have hpos : 0 < (k :: L2).length := by simp
          have hnz : (((k :: L2).length : Int) == 0) = false := by rw [beq_eq_false_iff_ne]; simp; omega
          have hl2c : L2.length ≤ c' - 1 := by simp at hc1'; omega
          have hl2l : L2.length ≤ 4000 := by simp at hc3'; omega
          have hlenI : ((k :: L2).length : Nat) ≤ 9223372036854775807 := by omega
          generalize hlk : (k :: L2).length = lk at *
          clear hlk hrow2 hcell
          go_wp2_with fail
          go_region
          have hb4 : Below w1.heap.size w1 (wr.alloc (.cells #[.int .i64 (k / 3), .int .i64 (k % 3 + 1), .int .i64 0] 146)).drew := below_drewN (HB.out.alloc hbs _) 1
          have ho4 : EvOwn (wr.alloc (.cells #[.int .i64 (k / 3), .int .i64 (k % 3 + 1), .int .i64 0] 146)).drew w1.heap.size _ es := World.ownsRow.alloc HO.out _
          have hbx := (Box.new wr 146 #[.int .i64 (k / 3), .int .i64 (k % 3 + 1), .int .i64 0]).drew
          have hnob : ∀ v, EvOwn wr w1.heap.size v es → v.ownBlock ≠ some wr.heap.size := fun v hv e => by have := (World.ownsRow.lt hv _ e).2; omega
          have HNE := Lib.hid (hnob _ HO.out)
          go_upto_region 17 with fail
          clear hc1a hz1 hrun hnz hpos hnob
          have hge : w1.heap.size ≤ wr.heap.size := hbs
          generalize wr.heap.size = ge at *
          generalize (wr.alloc (.cells #[.int .i64 (k / 3), .int .i64 (k % 3 + 1), .int .i64 0] 146)).drew = w4 at *
          have HB4 := Lib.hid hb4
          have HO4 := Lib.hid ho4
          have hs4 := hb4.size
          clear hb4 ho4
          by_cases hloc : k % 3 = 0
          · have q1 : decide ((1 : Int) < k % 3 + 1) = false := decide_eq_false (by omega)
            have HS6 := Lib.hid (HSO.out.one htn hloc)
            have HWFN := Lib.hid (show ∀ x ∈ L2, 0 ≤ x ∧ x < 2097152 from fun x hx => HWF.out x (by simp [hx]))
            clear hloc
            have c0 := hbx.cell 0
            have c1 := hbx.cell 1
            have c2 := hbx.cell 2
            simp only [List.getElem?_toArray, List.getElem?_cons_zero, List.getElem?_cons_succ] at c0 c1 c2
            clear hbx
            have hown := HO4.out
            unfold EvOwn at hown
            go_wp2_with (at_builtin; refine wpList_push_ev rfl (.tmp 58) (.tmp 60) rfl w1.heap.size _ es rfl (hown.alloc _) w4.heap.size (k / 3, k % 3 + 1, 0) rfl (ev_new1 w4 (k / 3, k % 3 + 1, 0)) (by have := HEL.out; omega) (Nat.le_trans hs4 (by simp)) ?_; intro v' w6 hown' hg')
            have HB6 := Lib.hid ((HB4.out.alloc hs4 _).grown hg' (Nat.le_trans hs4 (by simp)) (fun q hq => (World.ownsRow.lt HO4.out q hq).1))
            have HO6 := Lib.hid hown'
            clear hown hown' hg'
            go_roundg (n - (t + 1))
            case measure => have := HGK.out; omega
            case rel => exact ⟨t + 1, _, L2, _, _, rfl, by omega, by go_num, rfl, HROW2.out, ⟨by omega, by omega, by omega⟩, HWFN.out, HO6.out, HS6.out, HB6.out⟩
          · have q1 : decide ((1 : Int) < k % 3 + 1) = true := decide_eq_true (by omega)
            have c0 := hbx.cell 0
            have c1 := hbx.cell 1
            have c2 := hbx.cell 2
            have f2 := hbx.frozen 2
            simp only [List.getElem?_toArray, List.getElem?_cons_zero, List.getElem?_cons_succ] at c0 c1 c2
            match L2, HROW2, HWF, HSO, hl2c, hl2l with
            | [], HROW2, HWF, HSO, hl2c, hl2l =>
              have HE := Lib.hid (show U = ([], 3) by rw [HU.out, HSO.out.end1 htn hloc]; rfl)
              clear hloc
              go_wp2_with fail
              go_ret2
              rw [HE.out]
              exact ⟨_, rfl, World.ownsRow_nil _ _ _ _, HB1.out.trans (HB4.out.mono hb1s)⟩
            | m :: L3, HROW2, HWF, HSO, hl2c, hl2l =>
              obtain ⟨b3, o3, o3', hA3, hbl3, hcell3, hrun3, hrow3⟩ := ints_tail HROW2.out hl2c
              obtain ⟨rfl, rfl⟩ : b3 = b2 ∧ o3 = o2' := by simp at hA3; exact ⟨hA3.1.symm, hA3.2.symm⟩
              have hm := HWF.out m (by simp)
              have HROW3 := Lib.hid hrow3
              have hc3a := (HB4.out.cell (p := ⟨b3, o3, none⟩) hbl3).trans hcell3
              have hnz3 : (((m :: L3).length : Int) == 0) = false := by rw [beq_eq_false_iff_ne]; simp; omega
              have hpos3 : 0 < (m :: L3).length := by simp
              have hl3c : L3.length ≤ c' - 1 - 1 := by simp at hl2c; omega
              have hl3l : L3.length ≤ 4000 := by simp at hl2l; omega
              have HS6 := Lib.hid (HSO.out.two htn hloc (by unfold I64; omega))
              have HWFN := Lib.hid (show ∀ x ∈ L3, 0 ≤ x ∧ x < 2097152 from fun x hx => HWF.out x (by simp [hx]))
              have hbx6 : Box (w4.setCell ⟨ge, 2, none⟩ (.int .i64 m)) ge 146 #[.int .i64 (k / 3), .int .i64 (k % 3 + 1), .int .i64 m] := hbx.set 2 (.int .i64 m)
              have hset : Only (fun b => b = ge) w4 (w4.setCell ⟨ge, 2, none⟩ (.int .i64 m)) := (Only.refl (fun b => b = ge) w4).set (p := ⟨ge, 2, none⟩) rfl _
              have HB4' := Lib.hid (below_drewN (HB4.out.setCell (p := ⟨ge, 2, none⟩) hge (.int .i64 m)) 1)
              have hO5 := HO4.out
              have HO4' := Lib.hid (show EvOwn (w4.setCell ⟨ge, 2, none⟩ (.int .i64 m)) w1.heap.size _ es from World.ownsRow.kept hO5 (grown_of_only hset) (by
                rcases hO5.2 with ⟨hv, _⟩ | ⟨g', cap, cur, hv, _, hh, _⟩
                · left; rw [hv]; rfl
                · right
                  rw [hv]
                  simp only [Value.ownBlock, ne_eq, Option.some.injEq]
                  intro e
                  subst e
                  exact HNE.out (by rw [hv]; rfl)))
              have hl2n : ((m :: L3).length : Nat) ≤ 9223372036854775807 := by omega
              generalize (m :: L3).length = l3n at *
              clear hA3 hrow3 hcell3 hO5 hloc hset
              go_wp2_with fail
              go_region
              go_upto_region 21 with fail
              have hbx7 : Box (w4.setCell ⟨ge, 2, none⟩ (.int .i64 m)).drew ge 146 #[.int .i64 (k / 3), .int .i64 (k % 3 + 1), .int .i64 m] := hbx6.drew
              have ho7 : EvOwn (w4.setCell ⟨ge, 2, none⟩ (.int .i64 m)).drew w1.heap.size _ es := HO4'.out
              have hb7 : Below w1.heap.size w1 (w4.setCell ⟨ge, 2, none⟩ (.int .i64 m)).drew := HB4'.out
              clear hbx hbx6 HO4' HB4' c0 c1 c2 f2 hc3a hrun3 hnz3 hpos3
              generalize (w4.setCell ⟨ge, 2, none⟩ (.int .i64 m)).drew = w5 at *
              have HB5 := Lib.hid hb7
              have HO5 := Lib.hid ho7
              have hs5 := hb7.size
              have hbx := hbx7
              clear hb7 ho7 hbx7
              have c0 := hbx.cell 0
              have c1 := hbx.cell 1
              have c2 := hbx.cell 2
              simp only [List.getElem?_toArray, List.getElem?_cons_zero, List.getElem?_cons_succ] at c0 c1 c2
              clear hbx
              have hown := HO5.out
              unfold EvOwn at hown
              go_wp2_with (at_builtin; refine wpList_push_ev rfl (.tmp 58) (.tmp 60) rfl w1.heap.size _ es rfl (hown.alloc _) w5.heap.size (k / 3, k % 3 + 1, m) rfl (ev_new1 w5 (k / 3, k % 3 + 1, m)) (by have := HEL.out; omega) (Nat.le_trans hs5 (by simp)) ?_; intro v' w6 hown' hg')
              have HB6 := Lib.hid ((HB5.out.alloc hs5 _).grown hg' (Nat.le_trans hs5 (by simp)) (fun q hq => (World.ownsRow.lt HO5.out q hq).1))
              have HO6 := Lib.hid hown'
              clear hown hown' hg'
              go_roundg (n - (t + 1))
              case measure => have := HGK.out; omega
              case rel => exact ⟨t + 1, _, L3, _, _, rfl, by omega, by go_num, rfl, HROW3.out, ⟨by omega, by omega, by omega⟩, HWFN.out, HO6.out, HS6.out, HB6.out⟩
      · obtain rfl : t = n := by omega
        have hall := HSO.out.all
        rw [Nat.sub_self] at hall
        have HU2 := Lib.hid (show U = if L.length ≠ 0 ∨ ok = false then ([], 3) else if history es ≠ 0 then ([], history es) else (es, 0) by
          rw [HU.out, hall]
          show refU3 ok (some (es ++ [], L)) = _
          rw [List.append_nil]
          rfl)
        have HEND := Lib.hid (HB1.out.trans (HB.out.mono hb1s))
        clear hall
        by_cases hz : L.length = 0
        case neg =>
          have HE := Lib.hid (show U = ([], 3) by rw [HU2.out, if_pos (.inl hz)])
          have e1 : decide ((0 : Int) < (L.length : Int)) = true := decide_eq_true (by omega)
          have e2 : decide (0 < L.length) = true := decide_eq_true (by omega)
          clear hz
          go_wp2_with fail
          go_ret2
          rw [HE.out]
          exact ⟨_, rfl, World.ownsRow_nil _ _ _ _, HEND.out⟩
        have e1 : decide ((0 : Int) < (L.length : Int)) = false := decide_eq_false (by omega)
        have e2 : decide (0 < L.length) = false := decide_eq_false (by omega)
        cases ok with
        | false =>
          have HE := Lib.hid (show U = ([], 3) by rw [HU2.out, if_pos (.inr rfl)])
          clear hz
          go_wp2_with fail
          go_ret2
          rw [HE.out]
          exact ⟨_, rfl, World.ownsRow_nil _ _ _ _, HEND.out⟩
        | true =>
          obtain ⟨A9, c9, rfl, hr9, hc9, hm9, _⟩ := row_of_own_any HO.out
          have HU3 := Lib.hid (show U = if history es ≠ 0 then ([], history es) else (es, 0) by rw [HU2.out, if_neg (fun h => h.elim (fun h => h hz) (fun h => by cases h))])
          have HCK := Lib.hid (historyE_any A9 c9 es wr hr9 hc9 hm9)
          have HOW := Lib.hid (show EvOwn wr W.heap.size _ es from own_lower HO.out hb1s)
          clear hz hr9 hc9 hm9
          go_wp2_with fail
          refine HCK.out.mono ?_
          rintro e w4 ⟨rfl, hb4⟩
          have HB4 := Lib.hid (HEND.out.trans (hb4.mono HEND.out.size))
          have HO4 := Lib.hid (show EvOwn w4 W.heap.size _ es from World.ownsRow.kept HOW.out (grown_none hb4) (by simp [Value.ownBlock]; cases A9 <;> simp))
          clear hb4
          by_cases hz : history es = 0
          · have q1 : (history es != 0) = false := by simp [hz]
            have HE := Lib.hid (show U = (es, 0) by rw [HU3.out, if_neg (fun h => h hz)])
            clear hz
            generalize history es = e0 at *
            go_wp2_with fail
            go_ret2
            rw [HE.out]
            exact ⟨_, rfl, HO4.out, HB4.out⟩
          · have q1 : (history es != 0) = true := by rw [bne_iff_ne]; exact hz
            have HE := Lib.hid (show U = ([], history es) by rw [HU3.out, if_pos hz])
            clear hz
            generalize history es = e0 at *
            go_wp2_with fail
            go_ret2
            rw [HE.out]
            exact ⟨_, rfl, World.ownsRow_nil _ _ _ _, HB4.out⟩
end Go.Proofs.Ytcmkkfpcdebfkaa
