
/-
  code.valid.
-/
import Derived.Test.YthglcnodoophaaaCk3
namespace Go.Proofs.Ythglcnodoophaaa
open Go.RowKit

theorem run_append_e {P : Program} (w : World) (t ty e : TypeId) (i : TypeInfo) (ht : P.underlying t = some (.slice e)) (hi : P.info? e = some i) (A : Option Addr) (n cap : Nat) (hn : n ≤ cap) (B : Option Addr) (c : Nat) :
    (Builtin.append_ #[t, t] ty #[.slice A n cap, .slice B 0 c]).run P w = .ok (.slice A n cap) w := by
  rcases A with _ | a <;> rcases B with _ | b <;> simp [Builtin.append_, run_underlying ht, sizeOf, typeInfo, hi, Builtin.lenOf, hn, Builtin.firstCells, loadCells, loadCellsFrom, storeCells]
/-- Ints appended to a row of the call's own, none or many. -/
theorem wpList_append_i {ops : Array Oper} {rest : List Oper} {o : Oper} {a : Act} {w : World} {Q : Exit → Act → World → Prop} (hgd : o.guard = none) (s x : Operand)
    (ho : o.op = .call { callee := .builtin .append, args := #[s, x], argTypes := #[23, 23] })
    (base : Nat) (A : Option Addr) (c : Nat) (zs : List Int) (hs : a.eval s = .slice A zs.length c) (hown : OwnAt w base 3 1 A zs.length c (ints zs))
    (A1 : Option Addr) (c1 B : Nat) (ys : List Int) (hx : a.eval x = .slice A1 ys.length c1) (hr : Row w B A1 (ints ys))
    (hb : zs.length + ys.length ≤ 4398046511104) (hbase : base ≤ w.heap.size)
    (h : ∀ A' c' w', OwnAt w' base 3 1 A' (zs ++ ys).length c' (ints (zs ++ ys)) → w.grownBy w' (A.map (·.block)) → (∀ g, A'.map (·.block) = some g → A.map (·.block) = some g ∨ w.heap.size ≤ g) → wpList Try.prog ops Q rest (a.put o.dst (.slice A' (zs ++ ys).length c')) w') : wpList Try.prog ops Q (o :: rest) a w := by
  obtain ⟨i1, hi1, hy0, hy1, hy2⟩ := int_partsI
  by_cases hp : 0 < ys.length
  · obtain ⟨b, o1, rfl, _, hcc⟩ := hr (by rw [ints_len]; exact hp)
    refine wpList_append_q hgd s x 23 ho base 3 i1 (.int .i64 0) 1 8 Try.underlying23 hi1 hy0 hy1 hy2 rfl (by decide) A zs.length c (ints zs) hs hown ⟨b, o1, none⟩ ys.length c1 (ints ys) hx (by rw [ints_len, Nat.mul_one]) (fun j u hu => by rw [addr_add]; exact hcc j u hu) (ints_oneI ys) (by unfold maxLen; omega) (by omega) hbase hp ?_
    intro g' o' c' w' h2 h3 h4
    rw [← List.length_append]
    refine h (some ⟨g', o', none⟩) c' w' ?_ h3 (fun g hg => ?_)
    · rw [List.length_append]
      unfold ints
      rw [List.map_append]
      exact h2
    · simp at hg
      subst hg
      exact h4.imp id (fun e => Nat.le_of_eq e.symm)
  · have hy : ys = [] := List.eq_nil_of_length_eq_zero (by omega)
    subst hy
    refine wpList_plain hgd fun K hK => ?_
    have hrun := run_append_e (P := Try.prog) w 23 o.type 3 i1 Try.underlying23 hi1 A zs.length c hown.cap_le.1 A1 c1
    unfold Oper.wp execOp
    simp only [ho, resolve, invoke, builtin, Sem.run_bind, Sem.run_pure, Result.andThen_ok, List.map_toArray, List.map_cons, List.map_nil, hs, hx, List.length_nil, hrun]
    have h1 := h A c w (by rw [List.append_nil]; exact hown) (World.grownBy.refl _ _) (fun _ h => .inl h)
    rw [List.append_nil] at h1
    exact hK _ _ h1

/-- zs in a row of the call's own, off the blocks between n1 and W's. -/
structure RgSt (W wr : World) (n1 base : Nat) (A : Option Addr) (c : Nat) (zs : List Int) : Prop where
  own : OwnAt wr base 3 1 A zs.length c (ints zs)
  blk : ∀ g, A.map (·.block) = some g → g < n1 ∨ W.heap.size ≤ g
  keep : ∀ p : Addr, n1 ≤ p.block → p.block < W.heap.size → wr.cell? p = W.cell? p
  below : Below base W wr
  size : W.heap.size ≤ wr.heap.size
theorem RgSt.alloc {W wr : World} {n1 base : Nat} {A : Option Addr} {c : Nat} {zs : List Int} (h : RgSt W wr n1 base A c zs) (hb : base ≤ wr.heap.size) (o : Obj) : RgSt W (wr.alloc o) n1 base A c zs where
  own := h.own.below ((Below.refl _ _).alloc (Nat.le_refl _) _)
  blk := h.blk
  keep := fun p h1 h2 => (((Below.refl wr.heap.size wr).alloc (Nat.le_refl _) o).cell (Nat.lt_of_lt_of_le h2 h.size)).trans (h.keep p h1 h2)
  below := h.below.alloc hb o
  size := Nat.le_trans h.size (by simp)
theorem RgSt.grow {W wr w' : World} {n1 base : Nat} {A A' : Option Addr} {c c' : Nat} {zs zs' : List Int} (h : RgSt W wr n1 base A c zs) (hb : base ≤ wr.heap.size) (h2 : OwnAt w' base 3 1 A' zs'.length c' (ints zs')) (h3 : wr.grownBy w' (A.map (·.block))) (h4 : ∀ g, A'.map (·.block) = some g → A.map (·.block) = some g ∨ wr.heap.size ≤ g) : RgSt W w' n1 base A' c' zs' where
  own := h2
  blk := fun g hg => (h4 g hg).elim (h.blk g) (fun e => .inr (Nat.le_trans h.size e))
  keep := fun p h1 h5 => by
    have hne : some p.block ≠ A.map (·.block) := fun e => by
      rcases h.blk p.block e.symm with h6 | h6 <;> omega
    have := h3.block p.block (Nat.lt_of_lt_of_le h5 h.size) hne
    have h7 : w'.cell? p = wr.cell? p := by simp only [World.cell?, this]
    exact h7.trans (h.keep p h1 h5)
  below := h.below.grown h3 hb (own_lo h.own (Nat.le_refl _))
  size := Nat.le_trans h.size h3.size
/-- Arm k in such a world: its two cells, its registers. -/
theorem RgSt.arm {W wr : World} {n1 base : Nat} {A Aa : Option Addr} {c : Nat} {zs : List Int} {l : List ArC} {vs : List ArV} (h : RgSt W wr n1 base A c zs) (ha : Arms W Aa l vs) (hlo : ∀ b, Aa.map (·.block) = some b → n1 ≤ b) (hel : ∀ y ∈ l, ∀ b, y.A.map (·.block) = some b → n1 ≤ b) {k : Nat} (hk : k < l.length) :
    ∃ b o, Aa = some ⟨b, o, none⟩ ∧ wr.cell? ⟨b, o + k * 2, none⟩ = some (.int .i64 (l.getD k arc0).pc) ∧ wr.cell? ⟨b, o + k * 2 + 1, none⟩ = some (.slice (l.getD k arc0).A (vs.getD k arv0).2.length (l.getD k arc0).cap) ∧ Row wr W.heap.size (l.getD k arc0).A (ints (vs.getD k arv0).2) := by
  obtain ⟨b, o, rfl, hb, c0, c1⟩ := ha.2.1.ar hk arc0
  obtain ⟨_, e2, e3⟩ := ha.2.2 k hk
  have hn := hlo b rfl
  rw [e2] at c1
  refine ⟨b, o, rfl, (h.keep _ hn hb).trans c0, (h.keep _ hn hb).trans c1, fun hp => ?_⟩
  obtain ⟨b2, o2, e, hb2, hc⟩ := e3 hp
  refine ⟨b2, o2, e, hb2, fun i v hv => (h.keep _ ?_ hb2).trans (hc i v hv)⟩
  exact hel _ (getD_mem arc0 hk) b2 (by rw [e]; rfl)
theorem wrL_in (x : InC) : wrL x = if (shapeF x.op).wr = true then [x.a] else [] := rfl
theorem armRegs_take (vs : List ArV) {k : Nat} (h : k < vs.length) : armRegs (vs.take (k + 1)) = armRegs (vs.take k) ++ (vs.getD k arv0).2 := by
  unfold armRegs
  rw [List.take_add_one, List.getD_eq_getElem?_getD, List.getElem?_eq_getElem h, List.flatMap_append]
  simp
theorem armRegs_len (vs : List ArV) (h : ∀ i, i < vs.length → (vs.getD i arv0).2.length ≤ 1048576) : ∀ k, k ≤ vs.length → (armRegs (vs.take k)).length ≤ k * 1048576
  | 0, _ => by simp [armRegs]
  | k + 1, hk => by
    rw [armRegs_take vs (by omega), List.length_append]
    have h1 := armRegs_len vs h k (by omega)
    have h2 := h k (by omega)
    omega
theorem reads_len (x : InC) (h : x.args.length ≤ 1048576) : (readsT x).length ≤ 4194304 := by
  have h1 := readL_len x h (shapeF x.op).s.data.toList
  have h2 := (strs_small _ (shape_mem x.op)).1
  unfold readsT
  omega
end Go.Proofs.Ythglcnodoophaaa
namespace Go.Proofs.Ythglcnodoophaaa
open Go.RowKit

set_option maxRecDepth 100000 in
set_option maxHeartbeats 4000000 in
theorem valid_any (B n : Nat) (v : CkV) (P : CkP) (y : FcC) (x : InC) (t : Int) (w : World) (h : CkIn w B n v P) (hok : InOk w B x) (ht0 : 0 ≤ t) (ht1 : t ≤ 1099511627776) :
    Calls Try.prog 12 #[.agg (ckC v P), fcV y, inV x, .int .i64 t] w fun e w' => e = .returned (.bool (validF P y.len y.r x t)) ∧ Below w.heap.size w w' := by
  obtain ⟨r, hr⟩ : ∃ r, validF P y.len y.r x t = r := ⟨_, rfl⟩
  rw [hr]
  unfold validF regsT at hr
  rw [wrL_in] at hr
  have hB := hok.hB
  have HNX := Lib.hid (fun w1 (hb : Below w.heap.size w w1) => next_any x t B w1 (hok.below hb) ht0 ht1)
  have HRD := Lib.hid (fun w1 (hb : Below w.heap.size w w1) => reads_any x B w1 (hok.below hb))
  have HWR := Lib.hid (fun w1 => writes_any x w1)
  have HWO := Lib.hid (fun w1 => writesOp_any x.op w1)
  have HAR := Lib.hid (fun w1 (hb : Below w.heap.size w w1) => arms_any x B w1 (hok.below hb))
  have HVF := Lib.hid (fun w1 (hb : Below w.heap.size w w1) => validFields_any B n v P x w1 (h.below (hb.mono hB)) (hok.below hb))
  have HAS := Lib.hid (armsT_small x hok.len)
  have HRL := Lib.hid (reads_len x hok.len)
  unfold writesT at HWR
  obtain ⟨nx, hnx⟩ : ∃ nx, nextT x t = nx := ⟨_, rfl⟩
  rw [hnx] at HNX hr
  obtain ⟨rd, hrd⟩ : ∃ rd, readsT x = rd := ⟨_, rfl⟩
  rw [hrd] at HRD HRL hr
  obtain ⟨vs, hvs⟩ : ∃ vs, armsT x = vs := ⟨_, rfl⟩
  rw [hvs] at HAR HAS hr
  obtain ⟨wv, hwv⟩ : ∃ wv, (shapeF x.op).wr = wv := ⟨_, rfl⟩
  rw [hwv] at HWR HWO hr
  obtain ⟨ff, hff⟩ : ∃ ff, fieldsF P x = ff := ⟨_, rfl⟩
  rw [hff] at HVF hr
  clear hnx hrd hvs hwv hff
  obtain ⟨q0, q1, A2, c2, A3, c3, A4, c4, A5, c5, A6, c6⟩ := v
  obtain ⟨nT, nN, fns, acs, ims, mks, pats⟩ := P
  obtain ⟨op, a, b, c, A, cap, args⟩ := x
  obtain ⟨yn, yp, yh, fr, yA, fl, yc⟩ := y
  unfold inV ckC at HVF
  unfold inV at HNX HRD HWR HAR
  unfold inV ckC fcV
  dsimp only at HNX HRD HWR HAR HVF HWO hr ⊢
  clear h hok
  have hb : Below w.heap.size w (((w.alloc (.cells #[.slice q0.A nT q0.cap, .slice q1.A nN q1.cap, .slice A2 fns.length c2, .slice A3 acs.length c3, .slice A4 ims.length c4, .slice A5 mks.length c5, .slice A6 pats.length c6] 30)).alloc (.cells #[.string yn, .int .i64 yp, .int .i64 yh, .int .i64 fr, .slice yA fl yc] 36)).alloc (.cells #[.int .i64 op, .int .i64 a, .int .i64 b, .int .i64 c, .slice A args.length cap] 33)) := (((Below.refl _ _).alloc (Nat.le_refl _) _).alloc (by simp) _).alloc (by simp; omega) _
  have hxc := ((Box.new w 30 #[.slice q0.A nT q0.cap, .slice q1.A nN q1.cap, .slice A2 fns.length c2, .slice A3 acs.length c3, .slice A4 ims.length c4, .slice A5 mks.length c5, .slice A6 pats.length c6]).alloc (.cells #[.string yn, .int .i64 yp, .int .i64 yh, .int .i64 fr, .slice yA fl yc] 36)).alloc (.cells #[.int .i64 op, .int .i64 a, .int .i64 b, .int .i64 c, .slice A args.length cap] 33)
  have hxf := (Box.new (w.alloc (.cells #[.slice q0.A nT q0.cap, .slice q1.A nN q1.cap, .slice A2 fns.length c2, .slice A3 acs.length c3, .slice A4 ims.length c4, .slice A5 mks.length c5, .slice A6 pats.length c6] 30)) 36 #[.string yn, .int .i64 yp, .int .i64 yh, .int .i64 fr, .slice yA fl yc]).alloc (.cells #[.int .i64 op, .int .i64 a, .int .i64 b, .int .i64 c, .slice A args.length cap] 33)
  rw [show (w.alloc (.cells #[.slice q0.A nT q0.cap, .slice q1.A nN q1.cap, .slice A2 fns.length c2, .slice A3 acs.length c3, .slice A4 ims.length c4, .slice A5 mks.length c5, .slice A6 pats.length c6] 30)).heap.size = w.heap.size + 1 by simp] at hxf
  have hxi := Box.new ((w.alloc (.cells #[.slice q0.A nT q0.cap, .slice q1.A nN q1.cap, .slice A2 fns.length c2, .slice A3 acs.length c3, .slice A4 ims.length c4, .slice A5 mks.length c5, .slice A6 pats.length c6] 30)).alloc (.cells #[.string yn, .int .i64 yp, .int .i64 yh, .int .i64 fr, .slice yA fl yc] 36)) 33 #[.int .i64 op, .int .i64 a, .int .i64 b, .int .i64 c, .slice A args.length cap]
  rw [show ((w.alloc (.cells #[.slice q0.A nT q0.cap, .slice q1.A nN q1.cap, .slice A2 fns.length c2, .slice A3 acs.length c3, .slice A4 ims.length c4, .slice A5 mks.length c5, .slice A6 pats.length c6] 30)).alloc (.cells #[.string yn, .int .i64 yp, .int .i64 yh, .int .i64 fr, .slice yA fl yc] 36)).heap.size = w.heap.size + 2 by simp] at hxi
  have HR := Lib.hid hr
  have HB := Lib.hid hb
  have HXC := Lib.hid hxc
  have HXF := Lib.hid hxf
  have HXI := Lib.hid hxi
  clear hr hb hxc hxf hxi
  go_enter Try.func12, Try.ntmps12
  go_upto_region 1 with fail
  generalize ((w.alloc (.cells #[.slice q0.A nT q0.cap, .slice q1.A nN q1.cap, .slice A2 fns.length c2, .slice A3 acs.length c3, .slice A4 ims.length c4, .slice A5 mks.length c5, .slice A6 pats.length c6] 30)).alloc (.cells #[.string yn, .int .i64 yp, .int .i64 yh, .int .i64 fr, .slice yA fl yc] 36)).alloc (.cells #[.int .i64 op, .int .i64 a, .int .i64 b, .int .i64 c, .slice A args.length cap] 33) = w1 at *
  have ui0 : w1.cell? ⟨w.heap.size + 2, 0, none⟩ = some (.int .i64 op) := HXI.out.cell 0
  have ui1 : w1.cell? ⟨w.heap.size + 2, 1, none⟩ = some (.int .i64 a) := HXI.out.cell 1
  have ui2 : w1.cell? ⟨w.heap.size + 2, 2, none⟩ = some (.int .i64 b) := HXI.out.cell 2
  have ui3 : w1.cell? ⟨w.heap.size + 2, 3, none⟩ = some (.int .i64 c) := HXI.out.cell 3
  have ui4 : w1.cell? ⟨w.heap.size + 2, 4, none⟩ = some (.slice A args.length cap) := HXI.out.cell 4
  by_cases o1 : op < 1
  · have HRV : Hid (r = false) := by show _ = _; rw [← HR.out, show decide (1 ≤ op ∧ op < 28) = false from decide_eq_false (by omega)]; rfl
    have d1 : decide (op < 1) = true := decide_eq_true o1
    clear HR
    go_wp2_with fail
    go_ret
    exact ⟨by rw [HRV.out]; rfl, HB.out⟩
  have d1 : decide (op < 1) = false := decide_eq_false o1
  by_cases o2 : op < 28
  case neg =>
    have HRV : Hid (r = false) := by show _ = _; rw [← HR.out, show decide (1 ≤ op ∧ op < 28) = false from decide_eq_false (by omega)]; rfl
    have d2 : (28 : Int) ≤ op := by omega
    have d3 : op ≥ 28 := d2
    have d4 : decide (op ≥ 28) = true := decide_eq_true d2
    clear HR
    go_wp2_with fail
    go_ret
    exact ⟨by rw [HRV.out]; rfl, HB.out⟩
  have d2 : ¬ (28 : Int) ≤ op := by omega
  have d3 : ¬ op ≥ 28 := d2
  have d4 : decide (op ≥ 28) = false := decide_eq_false d2
  rw [show decide (1 ≤ op ∧ op < 28) = true from decide_eq_true (by omega), Bool.true_and] at HR
  clear o1 o2
  go_wp2_with fail
  refine (HNX.out _ HB.out).mono ?_
  rintro e w2 ⟨AN, cn, rfl, hon, hbn⟩
  have HNR := Lib.hid hon.row
  have hmx := hon.cap_le
  unfold maxLen at hmx
  have hnl : nx.length ≤ 9223372036854775807 := Nat.le_trans hmx.1 hmx.2
  clear hmx
  have HBN := Lib.hid hbn
  have HB2 := Lib.hid (HB.out.trans (hbn.mono HB.out.size))
  clear hon hbn HNX d1 d2 d3 d4 ui0 ui1 ui2 ui3 ui4
  have ui0 : w2.cell? ⟨w.heap.size + 2, 0, none⟩ = some (.int .i64 op) := (HXI.out.below HBN.out HXI.out.lt).cell 0
  have ui1 : w2.cell? ⟨w.heap.size + 2, 1, none⟩ = some (.int .i64 a) := (HXI.out.below HBN.out HXI.out.lt).cell 1
  have ui2 : w2.cell? ⟨w.heap.size + 2, 2, none⟩ = some (.int .i64 b) := (HXI.out.below HBN.out HXI.out.lt).cell 2
  have ui3 : w2.cell? ⟨w.heap.size + 2, 3, none⟩ = some (.int .i64 c) := (HXI.out.below HBN.out HXI.out.lt).cell 3
  have ui4 : w2.cell? ⟨w.heap.size + 2, 4, none⟩ = some (.slice A args.length cap) := (HXI.out.below HBN.out HXI.out.lt).cell 4
  have uf4 : w2.cell? ⟨w.heap.size + 1, 4, none⟩ = some (.slice yA fl yc) := (HXF.out.below HBN.out HXF.out.lt).cell 4
  go_wp2_with fail
  go_loopg [29] nx.length (fun gk i wr => ∃ k : Nat, gk = nx.length - k ∧ k ≤ nx.length ∧ i = .int .i64 k ∧ (nx.drop k).all (fun z => inB z fl) = nx.all (fun z => inB z fl) ∧ w2 = wr)
  case atStart => exact ⟨0, by omega, by omega, rfl, rfl, rfl⟩
  case round =>
    obtain ⟨k, hgk, hk, rfl, hall, rfl⟩ := hrel
    have HK := Lib.hid hgk
    have HAL := Lib.hid hall
    clear hgk hall
    by_cases hlt : k < nx.length
    · obtain ⟨b1, o1, rfl, _, hc⟩ := HNR.out (by rw [ints_len]; omega)
      have z0 := hc k (.int .i64 (nx.getD k 0)) (by simp [ints, List.getD_eq_getElem?_getD, List.getElem?_eq_getElem hlt])
      have HD := Lib.hid (all_drop (fun z => inB z fl) nx 0 hlt)
      generalize nx.getD k 0 = q at *
      have HWQ := Lib.hid (fun w' => within_any q fl w')
      have hk1 : (k : Int) < (nx.length : Int) := by omega
      clear hc
      cases hq : inB q fl with
      | false =>
        rw [hq] at HWQ HD
        have HRV : Hid (r = false) := by show _ = _; rw [← HR.out, ← HAL.out, HD.out]; simp
        clear HR HD HAL
        go_wp2_with fail
        refine (HWQ.out _).mono ?_
        rintro e w9 ⟨rfl, rfl⟩
        go_wp2_with fail
        go_ret
        exact ⟨by rw [HRV.out]; rfl, HB2.out⟩
      | true =>
        rw [hq] at HWQ HD
        have HAL2 : Hid ((nx.drop (k + 1)).all (fun z => inB z fl) = nx.all (fun z => inB z fl)) := by show _ = _; rw [← HAL.out, HD.out, Bool.true_and]
        clear HR HD HAL
        go_wp2_with fail
        refine (HWQ.out _).mono ?_
        rintro e w9 ⟨rfl, rfl⟩
        go_wp2_with fail
        go_roundg (nx.length - (k + 1))
        case measure => have := HK.out; omega
        case rel => exact ⟨k + 1, rfl, by omega, by go_num, HAL2.out, rfl⟩
    · obtain rfl : k = nx.length := by omega
      have hln : ¬ (nx.length : Int) < (nx.length : Int) := by omega
      have HALT : Hid (nx.all (fun z => inB z fl) = true) := by show _ = _; rw [← HAL.out, all_end]
      clear HAL HK
      rw [HALT.out, Bool.true_and] at HR
      clear hlt hln hk HALT HNR hnl
      go_wp2_with fail
      refine (HRD.out _ HB2.out).mono ?_
      rintro e w3 ⟨AR, cr, rfl, hor, hbr⟩
      have HOR := Lib.hid (hor.lower (HBN.out.size))
      have hb3 : Below w1.heap.size w1 w3 := HBN.out.trans (hbr.mono HBN.out.size)
      have HB3 := Lib.hid hb3
      clear hor hbr HRD HB2 hb3 ui0 ui1 ui2 ui3 ui4 uf4
      have ui0 : w3.cell? ⟨w.heap.size + 2, 0, none⟩ = some (.int .i64 op) := (HXI.out.below HB3.out HXI.out.lt).cell 0
      have ui1 : w3.cell? ⟨w.heap.size + 2, 1, none⟩ = some (.int .i64 a) := (HXI.out.below HB3.out HXI.out.lt).cell 1
      have ui2 : w3.cell? ⟨w.heap.size + 2, 2, none⟩ = some (.int .i64 b) := (HXI.out.below HB3.out HXI.out.lt).cell 2
      have ui3 : w3.cell? ⟨w.heap.size + 2, 3, none⟩ = some (.int .i64 c) := (HXI.out.below HB3.out HXI.out.lt).cell 3
      have ui4 : w3.cell? ⟨w.heap.size + 2, 4, none⟩ = some (.slice A args.length cap) := (HXI.out.below HB3.out HXI.out.lt).cell 4
      go_wp2_with fail
      refine (HWR.out _).mono ?_
      rintro e w4 ⟨rfl, hb4⟩
      have hb5 : Below w1.heap.size w1 w4 := HB3.out.trans (hb4.mono HB3.out.size)
      have HB4 := Lib.hid hb5
      have HO4 := Lib.hid (HOR.out.below hb4)
      clear hb4 hb5 HWR HOR ui0 ui1 ui2 ui3 ui4
      have ui0 : w4.cell? ⟨w.heap.size + 2, 0, none⟩ = some (.int .i64 op) := (HXI.out.below HB4.out HXI.out.lt).cell 0
      have ui1 : w4.cell? ⟨w.heap.size + 2, 1, none⟩ = some (.int .i64 a) := (HXI.out.below HB4.out HXI.out.lt).cell 1
      have ui2 : w4.cell? ⟨w.heap.size + 2, 2, none⟩ = some (.int .i64 b) := (HXI.out.below HB4.out HXI.out.lt).cell 2
      have ui3 : w4.cell? ⟨w.heap.size + 2, 3, none⟩ = some (.int .i64 c) := (HXI.out.below HB4.out HXI.out.lt).cell 3
      have ui4 : w4.cell? ⟨w.heap.size + 2, 4, none⟩ = some (.slice A args.length cap) := (HXI.out.below HB4.out HXI.out.lt).cell 4
      have HZL : Hid ((rd ++ (if wv = true then [a] else [])).length ≤ 4194305) := by
        show _ ≤ _
        rw [List.length_append]
        have := HRL.out
        split <;> simp <;> omega
      go_upto_region 11 with fail
      go_cut [50] from 44 to 50 (fun v wx => v = .bool wv ∧ Below w4.heap.size w4 wx)
      case first =>
        cases wv with
        | true =>
          simp only [if_true]
          by_cases a0 : 0 ≤ a
          · have a1 : a ≥ 0 := a0
            have a2 : decide (a ≥ 0) = true := decide_eq_true a0
            go_wp2_with fail
            go_meet
            exact ⟨rfl, Below.refl _ _⟩
          · have a1 : ¬ a ≥ 0 := a0
            have a2 : decide (a ≥ 0) = false := decide_eq_false a0
            go_wp2_with fail
            refine (HWO.out _).mono ?_
            rintro e w5 ⟨rfl, hb5⟩
            have HBB := Lib.hid hb5
            clear hb5
            go_wp2_with fail
            go_meet
            exact ⟨rfl, HBB.out⟩
        | false =>
          have a1 : ¬ (-1 : Int) ≥ 0 := by decide
          have a2 : decide ((-1 : Int) ≥ 0) = false := by decide
          simp only [Bool.false_eq_true, if_false]
          go_wp2_with fail
          refine (HWO.out _).mono ?_
          rintro e w5 ⟨rfl, hb5⟩
          have HBB := Lib.hid hb5
          clear hb5
          go_wp2_with fail
          go_meet
          exact ⟨rfl, HBB.out⟩
      case rest =>
      obtain ⟨rfl, hb5⟩ := hcut
      generalize (if wv = true then a else -1) = wi at *
      obtain ⟨w5, hw5⟩ : ∃ w5, w5 = wc := ⟨_, rfl⟩
      subst hw5
      have hbb : Below w1.heap.size w1 w5 := HB4.out.trans (hb5.mono HB4.out.size)
      have HBB := Lib.hid hbb
      have HO5 := Lib.hid (HO4.out.below hb5)
      clear hb5 hbb HWO ui0 ui1 ui2 ui3 ui4
      go_upto_if 50 with fail
      go_cut [11] from 51 to 55 (fun v wx => ∃ A9 c9, v = .slice A9 (rd ++ (if wv = true then [a] else [])).length c9 ∧ OwnAt wx w1.heap.size 3 1 A9 (rd ++ (if wv = true then [a] else [])).length c9 (ints (rd ++ (if wv = true then [a] else []))) ∧ Below w1.heap.size w1 wx)
      case first =>
        cases wv with
        | true =>
          have HRL2 : Hid (rd.length + [a].length ≤ 4398046511104) := by show _ ≤ _; have := HRL.out; simp; omega
          have hsz5 : w1.heap.size ≤ (w5.alloc (.cells #[.int .i64 a] 3)).heap.size := by simp; have := HBB.out.size; omega
          have HSZ5 := Lib.hid hsz5
          have HOW := Lib.hid (HO5.out.below ((Below.refl w5.heap.size w5).alloc (Nat.le_refl _) (.cells #[.int .i64 a] 3)))
          have HBA := Lib.hid (HBB.out.alloc HBB.out.size (.cells #[.int .i64 a] 3))
          have HRN := Lib.hid (row_new w5 [a])
          clear hsz5
          have ui1 : w5.cell? ⟨w.heap.size + 2, 1, none⟩ = some (.int .i64 a) := (HXI.out.below HBB.out HXI.out.lt).cell 1
          go_wp2_with (at_builtin; refine wpList_append_i rfl (.tmp 51) (.tmp 54) rfl w1.heap.size AR cr rd rfl HOW.out (some ⟨w5.heap.size, 0, none⟩) 1 (w5.heap.size + 1) [a] rfl HRN.out HRL2.out HSZ5.out ?_; intro A9 c9 w9 j1 j2 j3; have H9 := Lib.hid (And.intro j1 (HBA.out.grown j2 HSZ5.out (own_lo HOW.out (Nat.le_refl _)))); clear j1 j2 j3)
          go_meet
          exact ⟨A9, c9, by simp, by simpa using H9.out.1, H9.out.2⟩
        | false =>
          go_wp2_with fail
          go_meet
          exact ⟨AR, cr, by simp, by simpa using HO5.out, HBB.out⟩
      case rest =>
      obtain ⟨A7, c7, rfl, ho7, hb7⟩ := hcut
      clear HO4 HO5 HBB HB4 HB3 HRL
      generalize (rd ++ (if wv = true then [a] else [])) = z0 at *
      have HO7 := Lib.hid ho7
      have HB7 := Lib.hid hb7
      clear ho7 hb7
      have ui0 : wc.cell? ⟨w.heap.size + 2, 0, none⟩ = some (.int .i64 op) := (HXI.out.below HB7.out HXI.out.lt).cell 0
      have ui1 : wc.cell? ⟨w.heap.size + 2, 1, none⟩ = some (.int .i64 a) := (HXI.out.below HB7.out HXI.out.lt).cell 1
      have ui2 : wc.cell? ⟨w.heap.size + 2, 2, none⟩ = some (.int .i64 b) := (HXI.out.below HB7.out HXI.out.lt).cell 2
      have ui3 : wc.cell? ⟨w.heap.size + 2, 3, none⟩ = some (.int .i64 c) := (HXI.out.below HB7.out HXI.out.lt).cell 3
      have ui4 : wc.cell? ⟨w.heap.size + 2, 4, none⟩ = some (.slice A args.length cap) := (HXI.out.below HB7.out HXI.out.lt).cell 4
      go_wp2_with fail
      refine (HAR.out _ (HB.out.trans (HB7.out.mono HB.out.size))).mono ?_
      rintro e w6 ⟨va, rfl, Aa, ca, la, rfl, ha, hb6, hlo, hel⟩
      have hsz7 := HB7.out.size
      have hst0 : RgSt w6 w6 wc.heap.size w1.heap.size A7 c7 z0 := ⟨HO7.out.below hb6, fun g hg => .inl (by rcases HO7.out.form with ⟨e, _⟩ | ⟨g1, o1, e⟩ <;> subst e <;> simp at hg; subst hg; exact HO7.out.lt.2), fun _ _ _ => rfl, Below.refl _ _, Nat.le_refl _⟩
      have HST := Lib.hid hst0
      have HB6 := Lib.hid (HB7.out.trans (hb6.mono HB7.out.size))
      have HAA := Lib.hid ha
      have HLO := Lib.hid hlo
      have HEL := Lib.hid hel
      have HLL := Lib.hid ha.1
      clear hst0 hb6 ha hlo hel HAR HO7 hsz7 ui0 ui1 ui2 ui3 ui4
      go_wp2_with fail
      go_loopg [59, 11] vs.length (fun gk i q wr => ∃ (k : Nat) (A9 : Option Addr) (c9 : Nat), gk = vs.length - k ∧ k ≤ vs.length ∧ i = .int .i64 k ∧ q = .slice A9 (z0 ++ armRegs (vs.take k)).length c9 ∧ RgSt w6 wr wc.heap.size w1.heap.size A9 c9 (z0 ++ armRegs (vs.take k)))
      case atStart => exact ⟨0, A7, c7, rfl, Nat.zero_le _, rfl, by simp [armRegs], by simpa [armRegs] using HST.out⟩
      case round =>
        obtain ⟨k, A9, c9, hgk, hk, rfl, rfl, hst⟩ := hrel
        have HK := Lib.hid hgk
        clear hgk HST
        by_cases hlt : k < vs.length
        · have hkl : k < la.length := by rw [HLL.out]; exact hlt
          obtain ⟨b1, o1, rfl, e0, e1, hrow⟩ := hst.arm HAA.out HLO.out HEL.out hkl
          have HTK := Lib.hid (armRegs_take vs hlt)
          have HLN : Hid ((z0 ++ armRegs (vs.take k)).length + (vs.getD k arv0).2.length ≤ 4398046511104) := by
            show _ ≤ _
            have h1 := armRegs_len vs HAS.out.2 k (by omega)
            have h2 := HAS.out.2 k hlt
            have h3 := HAS.out.1
            have h4 := HZL.out
            rw [List.length_append]
            omega
          have hwsz : w1.heap.size ≤ wr.heap.size := Nat.le_trans HB6.out.size hst.size
          have hk1 : (k : Int) < (la.length : Int) := by omega
          have hvl := HAS.out.1
          generalize la.getD k arc0 = y at *
          generalize vs.getD k arv0 = av at *
          obtain ⟨ypc, yA9, yl9, yc9⟩ := y
          obtain ⟨apc, ars⟩ := av
          dsimp only at e0 e1 hrow HTK HLN
          have hst2 := hst.alloc hwsz (.cells #[.int .i64 ypc, .slice yA9 ars.length yc9] 60)
          have HS2 := Lib.hid hst2
          have HRO := Lib.hid (hrow.below ((Below.refl wr.heap.size wr).alloc (Nat.le_refl _) (.cells #[.int .i64 ypc, .slice yA9 ars.length yc9] 60) |>.mono hst.size))
          have HSZ : Hid (w1.heap.size ≤ (wr.alloc (.cells #[.int .i64 ypc, .slice yA9 ars.length yc9] 60)).heap.size) := by show _ ≤ _; simp; omega
          clear hst hst2 hrow hwsz
          go_wp2_with (at_builtin; refine wpList_append_i rfl (.tmp 63) (.tmp 65) rfl w1.heap.size A9 c9 (z0 ++ armRegs (vs.take k)) rfl HS2.out.own yA9 yc9 w6.heap.size ars rfl HRO.out HLN.out HSZ.out ?_; intro A8 c8 w8 j1 j2 j3; have H8 := Lib.hid (HS2.out.grow HSZ.out j1 j2 j3); clear j1 j2 j3)
          go_roundg (vs.length - (k + 1))
          case measure => have := HK.out; omega
          case rel => exact ⟨k + 1, A8, c8, rfl, hlt, by go_num, by rw [HTK.out, ← List.append_assoc]; simp only [List.length_append, Nat.add_assoc], by rw [HTK.out, ← List.append_assoc]; exact H8.out⟩
        · obtain rfl : k = vs.length := by omega
          have hln : ¬ (vs.length : Int) < (la.length : Int) := by have := HLL.out; omega
          have hln2 : ¬ vs.length < la.length := by have := HLL.out; omega
          rw [List.take_length] at hst ⊢
          generalize z0 ++ armRegs vs = zs at *
          have HZR := Lib.hid hst.own.row
          have hmx := hst.own.cap_le
          unfold maxLen at hmx
          have hzl : zs.length ≤ 9223372036854775807 := Nat.le_trans hmx.1 hmx.2
          clear hmx
          have hbw : Below w1.heap.size w1 wr := HB6.out.trans hst.below
          have HBW := Lib.hid hbw
          have HBWW := Lib.hid (HB.out.trans (hbw.mono HB.out.size))
          have HR3 := Lib.hid (show (zs.all (fun z => inB z fr) && ff) = r from HR.out)
          clear HR
          have HR := HR3
          clear hst HK hlt hk HAA HLO HEL hbw HR3
          have uf3 : wr.cell? ⟨w.heap.size + 1, 3, none⟩ = some (.int .i64 fr) := (HXF.out.below HBW.out HXF.out.lt).cell 3
          go_wp2_with fail
          go_loopg [70] zs.length (fun gk i wy => ∃ k : Nat, gk = zs.length - k ∧ k ≤ zs.length ∧ i = .int .i64 k ∧ (zs.drop k).all (fun z => inB z fr) = zs.all (fun z => inB z fr) ∧ wr = wy)
          case atStart => exact ⟨0, by omega, by omega, rfl, rfl, rfl⟩
          case round =>
            obtain ⟨k, hgk, hk, rfl, hall, rfl⟩ := hrel
            have HK := Lib.hid hgk
            have HAL := Lib.hid hall
            clear hgk hall
            by_cases hlt : k < zs.length
            · obtain ⟨b1, o1, rfl, _, hc⟩ := HZR.out (by rw [ints_len]; omega)
              have z0 := hc k (.int .i64 (zs.getD k 0)) (by simp [ints, List.getD_eq_getElem?_getD, List.getElem?_eq_getElem hlt])
              have HD := Lib.hid (all_drop (fun z => inB z fr) zs 0 hlt)
              generalize zs.getD k 0 = q at *
              have HWQ := Lib.hid (fun w' => within_any q fr w')
              have hk1 : (k : Int) < (zs.length : Int) := by omega
              clear hc
              cases hq : inB q fr with
              | false =>
                rw [hq] at HWQ HD
                have HRV : Hid (r = false) := by show _ = _; rw [← HR.out, ← HAL.out, HD.out]; simp
                clear HR HD HAL
                go_wp2_with fail
                refine (HWQ.out _).mono ?_
                rintro e w9 ⟨rfl, rfl⟩
                go_wp2_with fail
                go_ret
                exact ⟨by rw [HRV.out]; rfl, HBWW.out⟩
              | true =>
                rw [hq] at HWQ HD
                have HAL2 : Hid ((zs.drop (k + 1)).all (fun z => inB z fr) = zs.all (fun z => inB z fr)) := by show _ = _; rw [← HAL.out, HD.out, Bool.true_and]
                clear HR HD HAL
                go_wp2_with fail
                refine (HWQ.out _).mono ?_
                rintro e w9 ⟨rfl, rfl⟩
                go_wp2_with fail
                go_roundg (zs.length - (k + 1))
                case measure => have := HK.out; omega
                case rel => exact ⟨k + 1, rfl, by omega, by go_num, HAL2.out, rfl⟩
            · obtain rfl : k = zs.length := by omega
              have hln : ¬ (zs.length : Int) < (zs.length : Int) := by omega
              have HALT : Hid (zs.all (fun z => inB z fr) = true) := by show _ = _; rw [← HAL.out, all_end]
              clear HAL HK
              have HR2 : Hid (ff = r) := by
                have h1 := HR.out
                rw [HALT.out, Bool.true_and] at h1
                exact h1
              clear HR hlt hk uf3
              have uc0 : wr.cell? ⟨w.heap.size, 0, none⟩ = some (.slice q0.A nT q0.cap) := (HXC.out.below HBW.out HXC.out.lt).cell 0
              have uc1 : wr.cell? ⟨w.heap.size, 1, none⟩ = some (.slice q1.A nN q1.cap) := (HXC.out.below HBW.out HXC.out.lt).cell 1
              have uc2 : wr.cell? ⟨w.heap.size, 2, none⟩ = some (.slice A2 fns.length c2) := (HXC.out.below HBW.out HXC.out.lt).cell 2
              have uc3 : wr.cell? ⟨w.heap.size, 3, none⟩ = some (.slice A3 acs.length c3) := (HXC.out.below HBW.out HXC.out.lt).cell 3
              have uc4 : wr.cell? ⟨w.heap.size, 4, none⟩ = some (.slice A4 ims.length c4) := (HXC.out.below HBW.out HXC.out.lt).cell 4
              have uc5 : wr.cell? ⟨w.heap.size, 5, none⟩ = some (.slice A5 mks.length c5) := (HXC.out.below HBW.out HXC.out.lt).cell 5
              have uc6 : wr.cell? ⟨w.heap.size, 6, none⟩ = some (.slice A6 pats.length c6) := (HXC.out.below HBW.out HXC.out.lt).cell 6
              have ui0 : wr.cell? ⟨w.heap.size + 2, 0, none⟩ = some (.int .i64 op) := (HXI.out.below HBW.out HXI.out.lt).cell 0
              have ui1 : wr.cell? ⟨w.heap.size + 2, 1, none⟩ = some (.int .i64 a) := (HXI.out.below HBW.out HXI.out.lt).cell 1
              have ui2 : wr.cell? ⟨w.heap.size + 2, 2, none⟩ = some (.int .i64 b) := (HXI.out.below HBW.out HXI.out.lt).cell 2
              have ui3 : wr.cell? ⟨w.heap.size + 2, 3, none⟩ = some (.int .i64 c) := (HXI.out.below HBW.out HXI.out.lt).cell 3
              have ui4 : wr.cell? ⟨w.heap.size + 2, 4, none⟩ = some (.slice A args.length cap) := (HXI.out.below HBW.out HXI.out.lt).cell 4
              go_wp2_with fail
              refine (HVF.out _ HBWW.out).mono ?_
              rintro e w9 ⟨rfl, hb9⟩
              have HBX := Lib.hid (HBWW.out.trans (hb9.mono HBWW.out.size))
              clear hb9
              go_wp2_with fail
              go_ret
              exact ⟨by rw [HR2.out]; rfl, HBX.out⟩
end Go.Proofs.Ythglcnodoophaaa
