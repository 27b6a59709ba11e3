/-
  The walk of trace.Unpack.
-/
import Derived.Test.YtcmkkfpcdebfkaaUnp1
namespace Go.Proofs.Ytcmkkfpcdebfkaa
open Go.RowKit

/-- Bytes that came in. -/
structure ByIn (w : World) (A : Option Addr) (c : Nat) (bs : List UInt8) : Prop where
  row : Row w w.heap.size A (by8 bs)
  le : bs.length ≤ c
  cap : c ≤ maxLen
theorem ByIn.below {w w' : World} {A : Option Addr} {c : Nat} {bs : List UInt8} (h : ByIn w A c bs) (hb : Below w.heap.size w w') : ByIn w' A c bs := ⟨(h.row.below hb).more hb.size, h.le, h.cap⟩

theorem grown_of_only {w w' : World} {g : Nat} (ho : Only (fun b => b = g) w w') : w.grownBy w' (some g) := ⟨ho.os, ho.tape, ho.output, ho.size, fun i hi hne => ho.block i hi (fun e => hne (by rw [e]))⟩
theorem EvOwn.only {w w' : World} {base g : Nat} {v : Value} {es : List Ev} (h : EvOwn w base v es) (ho : Only (fun b => b = g) w w') (hg : g < base) : EvOwn w' base v es := World.ownsRow.kept h (grown_of_only ho) (own_not h hg)
theorem Rdr.grown {w w' : World} {B g base n size : Nat} {e : TypeId} {bs : List UInt8} {bad : Bool} {v : Value} {xs : List Value} (h : Rdr w B g bs bad) (hg : w.grownBy w' v.ownBlock) (ho : w.ownsRow base e size v n xs) (hgb : g < base) (hB : B ≤ g) (hw : B ≤ w.heap.size) : Rdr w' B g bs bad :=
  h.only (S := fun b => v.ownBlock = some b) ⟨hg.os, hg.tape, hg.output, hg.size, fun i hi hne => hg.block i hi (fun e => hne e.symm)⟩ (fun hs => by have := (ho.lt _ hs).1; omega) (fun b hs => by have := (ho.lt b hs).1; omega) hw

set_option maxRecDepth 100000 in
set_option maxHeartbeats 4000000 in
theorem unpackP (A : Option Addr) (c : Nat) (bs : List UInt8) (W : World) (h : ByIn W A c bs) :
    Calls Try.prog 79 #[.slice A bs.length c] W fun e w' => ∃ v, e = .returned (.tuple #[v, .int .i64 (unp bs).2]) ∧ EvOwn w' W.heap.size v (unp bs).1 ∧ Below W.heap.size W w' := by
  have hlen : bs.length ≤ 9223372036854775807 := by have := h.le; have := h.cap; unfold maxLen at this; omega
  by_cases h4 : 4000 < bs.length
  · have d1 : decide ((4000 : Int) < (bs.length : Int)) = true := decide_eq_true (by omega)
    have d1' : decide (4000 < bs.length) = true := decide_eq_true h4
    rw [show unp bs = ([], 2) by unfold unp; rw [if_pos h4]]
    clear h h4
    go_enter Try.func79, Try.ntmps79
    go_wp2_with fail
    go_ret2
    exact ⟨_, rfl, World.ownsRow_nil _ _ _ _, Below.refl _ _⟩
  have d1 : decide ((4000 : Int) < (bs.length : Int)) = false := decide_eq_false (by omega)
  have d1' : decide (4000 < bs.length) = false := decide_eq_false h4
  have HU0 := Lib.hid (show unp bs = unp1 (numS bs) by unfold unp; rw [if_neg h4])
  have hbel : Below W.heap.size W (W.alloc (.cells #[.slice A bs.length c, .bool false] 287)) := (Below.refl _ _).alloc (Nat.le_refl _) _
  have HRD := Lib.hid (show Rdr (W.alloc (.cells #[.slice A bs.length c, .bool false] 287)) W.heap.size W.heap.size bs false from ⟨A, c, Box.new _ _ _, h.row.below hbel, h.le, h.cap⟩)
  have HBEL := Lib.hid hbel
  have hsz1 : W.heap.size + 1 ≤ (W.alloc (.cells #[.slice A bs.length c, .bool false] 287)).heap.size := by simp
  clear h h4 hbel
  generalize hun : unp bs = U at *
  clear hun
  go_enter Try.func79, Try.ntmps79
  go_wp2_with fail
  generalize W.alloc (.cells #[.slice A bs.length c, .bool false] 287) = w1 at *
  refine (numberR W.heap.size W.heap.size bs w1 HRD.out (Nat.le_refl _) (by omega)).mono ?_
  rintro e w2 ⟨k, bs', bad', rfl, hk, hr, ho⟩
  have HB2 := Lib.hid (ho.to_below HBEL.out (by omega) (fun i hi => by subst hi; exact Nat.le_refl _))
  have hs2 := ho.size
  have HR2 := Lib.hid hr
  have HK := Lib.hid hk
  have hk1 := hk.rng.1
  have hk2 := hk.rng.2
  obtain ⟨A2, c2, hbx, _⟩ := hr
  have c1 := hbx.cell 1
  simp only [List.getElem?_toArray, List.getElem?_cons_zero, List.getElem?_cons_succ] at c1
  clear ho hk hbx HRD HBEL
  cases hn : numS bs with
  | none =>
    obtain rfl := HK.out.no hn
    have HE := Lib.hid (show U = ([], 3) by rw [HU0.out, hn]; rfl)
    clear hn
    go_wp2_with fail
    go_ret2
    rw [HE.out]
    exact ⟨_, rfl, World.ownsRow_nil _ _ _ _, HB2.out⟩
  | some p =>
    obtain ⟨n, r0⟩ := p
    obtain ⟨rfl, rfl, rfl⟩ := HK.out.yes n r0 hn
    have HU1 := Lib.hid (show U = if 200 < n then ([], 2) else unp2 (evsB n bs') by rw [HU0.out, hn]; rfl)
    clear hn HK HU0
    by_cases h200 : 200 < n
    · have d2 : decide ((200 : Int) < (n : Int)) = true := decide_eq_true (by omega)
      have d2' : decide (200 < n) = true := decide_eq_true h200
      have HE := Lib.hid (show U = ([], 2) by rw [HU1.out, if_pos h200])
      clear h200
      go_wp2_with fail
      go_ret2
      rw [HE.out]
      exact ⟨_, rfl, World.ownsRow_nil _ _ _ _, HB2.out⟩
    have d2 : decide ((200 : Int) < (n : Int)) = false := decide_eq_false (by omega)
    have d2' : decide (200 < n) = false := decide_eq_false h200
    have HU := Lib.hid (show U = unp2 (evsB n bs') by rw [HU1.out, if_neg h200])
    clear HU1
    go_wp2_with fail
    clear c1
    go_loopg [6, 27] n (fun gk v i wr => ∃ (t : Nat) (es : List Ev) (r : List UInt8) (bad : Bool), gk = n - t ∧ t ≤ n ∧ i = .int .i64 t ∧ EvOwn wr (W.heap.size + 1) v es ∧ EvSo n t bs' es r bad ∧ Rdr wr W.heap.size W.heap.size r bad ∧ Below W.heap.size W wr)
    case atStart => exact ⟨0, [], bs', false, by omega, by omega, rfl, World.ownsRow_nil _ _ _ _, EvSo.start _ _, HR2.out, HB2.out⟩
    case round =>
      clear HR2 HB2
      obtain ⟨t, es, r, bad, hgk, ht, rfl, hown, hso, hrd, hb⟩ := hrel
      have HGK := Lib.hid hgk
      have HO := Lib.hid hown
      have HSO := Lib.hid hso
      have HRD := Lib.hid hrd
      have HB := Lib.hid hb
      have hgl := hrd.lt
      have hel : es.length = t := hso.len
      have HEL := Lib.hid hel
      clear hgk hown hso hrd hb hel
      by_cases htn : t < n
      · cases bad with
        | true =>
          go_wp2_with fail
          refine (numberB W.heap.size W.heap.size r wr HRD.out (Nat.le_refl _) (by omega)).mono ?_
          rintro e w3 ⟨r3, rfl, hr3, ho3⟩
          have hO4 := (HO.out.only ho3 (Nat.lt_succ_self _)).alloc (.cells #[.int .i64 0, .int .i64 1, .int .i64 0] 146)
          have hs3 := ho3.size
          have HR4 := Lib.hid (hr3.alloc (by omega) (.cells #[.int .i64 0, .int .i64 1, .int .i64 0] 146))
          have HB4 := Lib.hid ((ho3.to_below HB.out (by omega) (fun i hi => by subst hi; exact Nat.le_refl _)).alloc (by omega) (.cells #[.int .i64 0, .int .i64 1, .int .i64 0] 146))
          have HO4 := Lib.hid hO4
          have HS6 := Lib.hid (HSO.out.on (0, 1, 0) (by unfold I64; decide) r3)
          have hbx := Box.new w3 146 #[.int .i64 0, .int .i64 1, .int .i64 0]
          go_upto_region 14 with fail
          have hs4 : W.heap.size ≤ (w3.alloc (.cells #[.int .i64 0, .int .i64 1, .int .i64 0] 146)).heap.size := by simp; omega
          have hs5 : W.heap.size + 1 ≤ (w3.alloc (.cells #[.int .i64 0, .int .i64 1, .int .i64 0] 146)).heap.size := by simp; omega
          clear hO4 hr3 ho3
          generalize w3.heap.size = ge at *
          generalize w3.alloc (.cells #[.int .i64 0, .int .i64 1, .int .i64 0] 146) = w4 at *
          have c0 := hbx.cell 0
          have c1 := hbx.cell 1
          have c2 := hbx.cell 2
          simp only [List.getElem?_toArray, List.getElem?_cons_zero, List.getElem?_cons_succ] at c0 c1 c2
          clear hbx
          have hown := HO4.out
          unfold EvOwn at hown
          go_wp2_with (at_builtin; refine wpList_push_ev rfl (.tmp 43) (.tmp 45) rfl (W.heap.size + 1) _ es rfl (hown.alloc _) w4.heap.size (0, 1, 0) rfl (ev_new1 w4 (0, 1, 0)) (by have := HEL.out; omega) (by simp; omega) ?_; intro v' w6 hown' hg')
          have HB6 := Lib.hid ((HB4.out.alloc HB4.out.size _).grown hg' (Nat.le_trans HB4.out.size (by simp)) (fun q hq => by have := (HO4.out.lt q hq).1; omega))
          have HR6 := Lib.hid (Rdr.grown (HR4.out.alloc hs4 _) hg' (HO4.out.alloc _) (Nat.lt_succ_self _) (Nat.le_refl _) (Nat.le_trans hs4 (by simp)))
          have HO6 := Lib.hid hown'
          clear hown hown' hg'
          go_roundg (n - (t + 1))
          case measure => have := HGK.out; omega
          case rel => exact ⟨t + 1, _, _, _, rfl, by omega, by go_num, HO6.out, HS6.out, HR6.out, HB6.out⟩
        | false =>
          go_wp2_with fail
          refine (numberR W.heap.size W.heap.size r wr HRD.out (Nat.le_refl _) (by omega)).mono ?_
          rintro e w3 ⟨q, r3, bad3, rfl, hq, hr3, ho3⟩
          have HQ := Lib.hid hq
          have hq1 := hq.rng.1
          have hq2 := hq.rng.2
          have hs3 := ho3.size
          have hO4 := (HO.out.only ho3 (Nat.lt_succ_self _)).alloc (.cells #[.int .i64 (q / 3), .int .i64 (q % 3 + 1), .int .i64 0] 146)
          have hnob : ∀ v, EvOwn w3 (W.heap.size + 1) v es → v.ownBlock ≠ some w3.heap.size := fun v hv e => by have := (World.ownsRow.lt hv _ e).2; omega
          have HNE := Lib.hid (hnob _ (HO.out.only ho3 (Nat.lt_succ_self _)))
          have HR4 := Lib.hid (hr3.alloc (by omega) (.cells #[.int .i64 (q / 3), .int .i64 (q % 3 + 1), .int .i64 0] 146))
          have HB4 := Lib.hid ((ho3.to_below HB.out (by omega) (fun i hi => by subst hi; exact Nat.le_refl _)).alloc (by omega) (.cells #[.int .i64 (q / 3), .int .i64 (q % 3 + 1), .int .i64 0] 146))
          have HO4 := Lib.hid hO4
          have hbx := Box.new w3 146 #[.int .i64 (q / 3), .int .i64 (q % 3 + 1), .int .i64 0]
          go_upto_region 14 with fail
          have hs4 : W.heap.size ≤ (w3.alloc (.cells #[.int .i64 (q / 3), .int .i64 (q % 3 + 1), .int .i64 0] 146)).heap.size := by simp; omega
          have hs5 : W.heap.size + 1 ≤ (w3.alloc (.cells #[.int .i64 (q / 3), .int .i64 (q % 3 + 1), .int .i64 0] 146)).heap.size := by simp; omega
          have hge : W.heap.size < w3.heap.size := by omega
          clear hO4 hr3 ho3 hnob hq
          generalize w3.heap.size = ge at *
          generalize w3.alloc (.cells #[.int .i64 (q / 3), .int .i64 (q % 3 + 1), .int .i64 0] 146) = w4 at *
          by_cases hloc : q % 3 = 0
          · have q1 : (q % 3 + 1 != 1) = false := by simp; omega
            have HS6 := Lib.hid (HSO.out.one htn HQ.out hloc)
            clear hloc
            have c0 := hbx.cell 0
            have c1 := hbx.cell 1
            have c2 := hbx.cell 2
            simp only [List.getElem?_toArray, List.getElem?_cons_zero, List.getElem?_cons_succ] at c0 c1 c2
            clear hbx
            have hown := HO4.out
            unfold EvOwn at hown
            go_wp2_with (at_builtin; refine wpList_push_ev rfl (.tmp 43) (.tmp 45) rfl (W.heap.size + 1) _ es rfl (hown.alloc _) w4.heap.size (q / 3, q % 3 + 1, 0) rfl (ev_new1 w4 (q / 3, q % 3 + 1, 0)) (by have := HEL.out; omega) (by simp; omega) ?_; intro v' w6 hown' hg')
            have HB6 := Lib.hid ((HB4.out.alloc HB4.out.size _).grown hg' (Nat.le_trans HB4.out.size (by simp)) (fun q hq => by have := (HO4.out.lt q hq).1; omega))
            have HR6 := Lib.hid (Rdr.grown (HR4.out.alloc hs4 _) hg' (HO4.out.alloc _) (Nat.lt_succ_self _) (Nat.le_refl _) (Nat.le_trans hs4 (by simp)))
            have HO6 := Lib.hid hown'
            clear hown hown' hg'
            go_roundg (n - (t + 1))
            case measure => have := HGK.out; omega
            case rel => exact ⟨t + 1, _, _, _, rfl, by omega, by go_num, HO6.out, HS6.out, HR6.out, HB6.out⟩
          · have q1 : (q % 3 + 1 != 1) = true := by rw [bne_iff_ne]; omega
            have c0 := hbx.cell 0
            have c1 := hbx.cell 1
            have c2 := hbx.cell 2
            simp only [List.getElem?_toArray, List.getElem?_cons_zero, List.getElem?_cons_succ] at c0 c1 c2
            have HBX := Lib.hid hbx
            have HLOC := Lib.hid hloc
            clear hbx hloc
            have HR4' := HR4
            have HB4' := HB4
            have HO4' := HO4
            cases bad3 with
            | true =>
              have HC := Lib.hid (numberB W.heap.size W.heap.size r3 w4 HR4.out (Nat.le_refl _) hs4)
              go_wp2_with fail
              refine HC.out.mono ?_
              rintro e w5 ⟨r5, rfl, hr5, ho5⟩
              have hs5 := ho5.size
              have hR5 := hr5
              have hB5 := ho5.to_below HB4.out hs4 (fun i hi => by subst hi; exact Nat.le_refl _)
              have hO5 := EvOwn.only HO4.out ho5 (Nat.lt_succ_self _)
              have hbx5 := ho5.box HBX.out (by omega)
              have HS6 := Lib.hid (HSO.out.lost htn HQ.out (q / 3, q % 3 + 1, 0) (by unfold I64; dsimp only; omega) r5)
              clear hr5 ho5 HC
              have e0 := hbx5.cell 0
              have e1 := hbx5.cell 1
              have e2 := hbx5.cell 2
              have f2 := hbx5.frozen 2
              simp only [List.getElem?_toArray, List.getElem?_cons_zero, List.getElem?_cons_succ] at e0 e1 e2
              have hbx6 : Box (w5.setCell ⟨ge, 2, none⟩ (.int .i64 0)) ge 146 #[.int .i64 (q / 3), .int .i64 (q % 3 + 1), .int .i64 0] := hbx5.set 2 (.int .i64 0)
              have hset : Only (fun b => b = ge) w5 (w5.setCell ⟨ge, 2, none⟩ (.int .i64 0)) := (Only.refl (fun b => b = ge) w5).set (p := ⟨ge, 2, none⟩) rfl _
              have HR4 := Lib.hid (hR5.only hset (by omega) (fun b hb => by omega) (by omega))
              have HB4 := Lib.hid (hB5.setCell (p := ⟨ge, 2, none⟩) (by simp; omega) (.int .i64 0))
              have HO4 := Lib.hid (show EvOwn (w5.setCell ⟨ge, 2, none⟩ (.int .i64 0)) (W.heap.size + 1) _ es from World.ownsRow.kept hO5 (grown_of_only hset) (by
                rcases hO5.2 with ⟨hv, _⟩ | ⟨g', cap, cur, hv, _, hh, _⟩
                · left; rw [hv]; rfl
                · right
                  rw [hv]
                  simp only [Value.ownBlock, ne_eq, Option.some.injEq]
                  intro e
                  subst e
                  exact HNE.out (by rw [hv]; rfl)))
              have hs4 : W.heap.size ≤ (w5.setCell ⟨ge, 2, none⟩ (.int .i64 0)).heap.size := by simp [World.setCell]; omega
              have hs6 : W.heap.size + 1 ≤ (w5.setCell ⟨ge, 2, none⟩ (.int .i64 0)).heap.size := by simp [World.setCell]; omega
              clear hR5 hB5 hO5 hbx5 hset HR4' HB4' HO4'
              go_upto_region 16 with fail
              generalize w5.setCell ⟨ge, 2, none⟩ (.int .i64 0) = w4 at *
              have hbx := hbx6
              clear hbx6 e0 e1 e2 f2
              have c0 := hbx.cell 0
              have c1 := hbx.cell 1
              have c2 := hbx.cell 2
              simp only [List.getElem?_toArray, List.getElem?_cons_zero, List.getElem?_cons_succ] at c0 c1 c2
              clear hbx
              have hown := HO4.out
              unfold EvOwn at hown
              go_wp2_with (at_builtin; refine wpList_push_ev rfl (.tmp 43) (.tmp 45) rfl (W.heap.size + 1) _ es rfl (hown.alloc _) w4.heap.size (q / 3, q % 3 + 1, 0) rfl (ev_new1 w4 (q / 3, q % 3 + 1, 0)) (by have := HEL.out; omega) (by simp; omega) ?_; intro v' w6 hown' hg')
              have HB6 := Lib.hid ((HB4.out.alloc HB4.out.size _).grown hg' (Nat.le_trans HB4.out.size (by simp)) (fun q hq => by have := (HO4.out.lt q hq).1; omega))
              have HR6 := Lib.hid (Rdr.grown (HR4.out.alloc hs4 _) hg' (HO4.out.alloc _) (Nat.lt_succ_self _) (Nat.le_refl _) (Nat.le_trans hs4 (by simp)))
              have HO6 := Lib.hid hown'
              clear hown hown' hg'
              go_roundg (n - (t + 1))
              case measure => have := HGK.out; omega
              case rel => exact ⟨t + 1, _, _, _, rfl, by omega, by go_num, HO6.out, HS6.out, HR6.out, HB6.out⟩
            | false =>
              have HC := Lib.hid (numberR W.heap.size W.heap.size r3 w4 HR4.out (Nat.le_refl _) hs4)
              go_wp2_with fail
              refine HC.out.mono ?_
              rintro e w5 ⟨m, r5, bad5, rfl, hm, hr5, ho5⟩
              have hs5 := ho5.size
              have hR5 := hr5
              have hB5 := ho5.to_below HB4.out hs4 (fun i hi => by subst hi; exact Nat.le_refl _)
              have hO5 := EvOwn.only HO4.out ho5 (Nat.lt_succ_self _)
              have hbx5 := ho5.box HBX.out (by omega)
              have HS6 := Lib.hid (HSO.out.two htn HQ.out hm HLOC.out)
              clear hm
              clear hr5 ho5 HC
              have e0 := hbx5.cell 0
              have e1 := hbx5.cell 1
              have e2 := hbx5.cell 2
              have f2 := hbx5.frozen 2
              simp only [List.getElem?_toArray, List.getElem?_cons_zero, List.getElem?_cons_succ] at e0 e1 e2
              have hbx6 : Box (w5.setCell ⟨ge, 2, none⟩ (.int .i64 m)) ge 146 #[.int .i64 (q / 3), .int .i64 (q % 3 + 1), .int .i64 m] := hbx5.set 2 (.int .i64 m)
              have hset : Only (fun b => b = ge) w5 (w5.setCell ⟨ge, 2, none⟩ (.int .i64 m)) := (Only.refl (fun b => b = ge) w5).set (p := ⟨ge, 2, none⟩) rfl _
              have HR4 := Lib.hid (hR5.only hset (by omega) (fun b hb => by omega) (by omega))
              have HB4 := Lib.hid (hB5.setCell (p := ⟨ge, 2, none⟩) (by simp; omega) (.int .i64 m))
              have HO4 := Lib.hid (show EvOwn (w5.setCell ⟨ge, 2, none⟩ (.int .i64 m)) (W.heap.size + 1) _ es from World.ownsRow.kept hO5 (grown_of_only hset) (by
                rcases hO5.2 with ⟨hv, _⟩ | ⟨g', cap, cur, hv, _, hh, _⟩
                · left; rw [hv]; rfl
                · right
                  rw [hv]
                  simp only [Value.ownBlock, ne_eq, Option.some.injEq]
                  intro e
                  subst e
                  exact HNE.out (by rw [hv]; rfl)))
              have hs4 : W.heap.size ≤ (w5.setCell ⟨ge, 2, none⟩ (.int .i64 m)).heap.size := by simp [World.setCell]; omega
              have hs6 : W.heap.size + 1 ≤ (w5.setCell ⟨ge, 2, none⟩ (.int .i64 m)).heap.size := by simp [World.setCell]; omega
              clear hR5 hB5 hO5 hbx5 hset HR4' HB4' HO4'
              go_upto_region 16 with fail
              generalize w5.setCell ⟨ge, 2, none⟩ (.int .i64 m) = w4 at *
              have hbx := hbx6
              clear hbx6 e0 e1 e2 f2
              have c0 := hbx.cell 0
              have c1 := hbx.cell 1
              have c2 := hbx.cell 2
              simp only [List.getElem?_toArray, List.getElem?_cons_zero, List.getElem?_cons_succ] at c0 c1 c2
              clear hbx
              have hown := HO4.out
              unfold EvOwn at hown
              go_wp2_with (at_builtin; refine wpList_push_ev rfl (.tmp 43) (.tmp 45) rfl (W.heap.size + 1) _ es rfl (hown.alloc _) w4.heap.size (q / 3, q % 3 + 1, m) rfl (ev_new1 w4 (q / 3, q % 3 + 1, m)) (by have := HEL.out; omega) (by simp; omega) ?_; intro v' w6 hown' hg')
              have HB6 := Lib.hid ((HB4.out.alloc HB4.out.size _).grown hg' (Nat.le_trans HB4.out.size (by simp)) (fun q hq => by have := (HO4.out.lt q hq).1; omega))
              have HR6 := Lib.hid (Rdr.grown (HR4.out.alloc hs4 _) hg' (HO4.out.alloc _) (Nat.lt_succ_self _) (Nat.le_refl _) (Nat.le_trans hs4 (by simp)))
              have HO6 := Lib.hid hown'
              clear hown hown' hg'
              go_roundg (n - (t + 1))
              case measure => have := HGK.out; omega
              case rel => exact ⟨t + 1, _, _, _, rfl, by omega, by go_num, HO6.out, HS6.out, HR6.out, HB6.out⟩
      · obtain rfl : t = n := by omega
        have HDN := Lib.hid (doneR W.heap.size W.heap.size r bad wr HRD.out)
        cases bad with
        | true =>
          have HE := Lib.hid (show U = ([], 3) by rw [HU.out, HSO.out.worse rfl]; rfl)
          rw [Bool.not_true, Bool.false_and] at HDN
          go_wp2_with fail
          refine HDN.out.mono ?_
          rintro e w3 ⟨rfl, rfl⟩
          go_wp2_with fail
          go_ret2
          rw [HE.out]
          exact ⟨_, rfl, World.ownsRow_nil _ _ _ _, HB.out⟩
        | false =>
          have hgood := HSO.out.good rfl
          rw [Nat.sub_self] at hgood
          have HU2 := Lib.hid (show U = if r.length ≠ 0 then ([], 3) else if history es ≠ 0 then ([], history es) else (es, 0) by
            rw [HU.out, hgood]
            show unp2 (some (es ++ [], r)) = _
            rw [List.append_nil]
            rfl)
          rw [Bool.not_false, Bool.true_and] at HDN
          clear hgood
          by_cases hz : r.length = 0
          case neg =>
            have HE := Lib.hid (show U = ([], 3) by rw [HU2.out, if_pos hz])
            rw [decide_eq_false hz] at HDN
            clear hz
            go_wp2_with fail
            refine HDN.out.mono ?_
            rintro e w3 ⟨rfl, rfl⟩
            go_wp2_with fail
            go_ret2
            rw [HE.out]
            exact ⟨_, rfl, World.ownsRow_nil _ _ _ _, HB.out⟩
          rw [decide_eq_true hz] at HDN
          obtain ⟨A9, c9, rfl, hr9, hc9, hm9, _⟩ := row_of_own_any HO.out
          have HIN := Lib.hid (show EvIn wr A9 c9 es from ⟨hr9, hc9, hm9, HSO.out.wf⟩)
          have HU3 := Lib.hid (show U = if history es ≠ 0 then ([], history es) else (es, 0) by rw [HU2.out, if_neg (fun h => h hz)])
          have HCK := Lib.hid HIN.out.check
          have HOW := Lib.hid (show EvOwn wr W.heap.size _ es from own_lower HO.out (Nat.le_succ _))
          clear hz hr9 hc9 hm9
          go_wp2_with fail
          refine HDN.out.mono ?_
          rintro e w3 ⟨rfl, rfl⟩
          go_wp2_with fail
          refine HCK.out.mono ?_
          rintro e w4 ⟨rfl, hb4⟩
          have HB4 := Lib.hid (HB.out.trans (hb4.mono HB.out.size))
          have HO4 := Lib.hid (show EvOwn w4 W.heap.size _ es from World.ownsRow.kept HOW.out (grown_none hb4) (by simp [Value.ownBlock]; cases A9 <;> simp))
          clear hb4
          by_cases hz : history es = 0
          · have q1 : (history es != 0) = false := by simp [hz]
            have HE := Lib.hid (show U = (es, 0) by rw [HU3.out, if_neg (fun h => h hz)])
            clear hz
            generalize history es = e0 at *
            go_wp2_with fail
            go_ret2
            rw [HE.out]
            exact ⟨_, rfl, HO4.out, HB4.out⟩
          · have q1 : (history es != 0) = true := by rw [bne_iff_ne]; exact hz
            have HE := Lib.hid (show U = ([], history es) by rw [HU3.out, if_pos hz])
            clear hz
            generalize history es = e0 at *
            go_wp2_with fail
            go_ret2
            rw [HE.out]
            exact ⟨_, rfl, World.ownsRow_nil _ _ _ _, HB4.out⟩
end Go.Proofs.Ytcmkkfpcdebfkaa
