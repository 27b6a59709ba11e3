
/-
  An object at a place of a heap (roadref3.ObjectAt).
-/
import Derived.Test.YtdjahlkjfpbifaaHp7
namespace Go.Proofs.Ytdjahlkjfpbifaa
open Go.RowKit

def raF (h : List Nat) (p : Int) : Option Ob := if p < 0 ∨ (h.length : Int) ≤ p then none else progF h p.toNat
def RaP (w : World) (h : List Nat) (p : Int) (e : Ending) (w' : World) : Prop := Below w.heap.size w w' ∧ ∃ (y : OC) (b : Bool), e = .returned (.tuple #[ocV y, .bool b]) ∧ raF h p = (if b = true then some y.o else none) ∧ (b = false → y.o = oc0.o) ∧ PNew w' w.heap.size y
theorem raP_none {w w' : World} {h : List Nat} {p : Int} (hb : Below w.heap.size w w') (h1 : raF h p = none) : RaP w h p (.returned (.tuple #[ocV oc0, .bool false])) w' :=
  ⟨hb, oc0, false, rfl, by rw [h1]; rfl, fun _ => rfl, oc0_new _ _⟩
theorem raF_in {h : List Nat} {p : Nat} (hp : p < h.length) : raF h p = refF h p := by
  unfold raF
  rw [if_neg (by omega), Int.toNat_natCast, refF_eq h p hp]
/-- Words appended inside a region that draws. -/
theorem step_append_hu {w : World} {ops : Array Oper} {o : Oper} {a : Act} {K : Act → World → Prop} {Q : Exit → Act → World → Prop} {E : Prop} (hgd : o.guard = none) (s x : Operand)
    (ho : o.op = .call { callee := .builtin .append, args := #[s, x], argTypes := #[88, 88] })
    (base : Nat) (v : Value) (zs : List Nat) (hs : a.eval s = v) (hown : UOwn w base v zs) (ad : Addr) (c n B : Nat) (ys : List Nat) (hn : ys.length = n) (hx : a.eval x = .slice (some ad) n c) (hr : Row w B (some ad) (flat huC ys))
    (hb : (zs.length + n) * 8 ≤ 140737488355328) (hbase : base ≤ w.heap.size)
    (h : ∀ v' w', UOwn w' base v' (zs ++ ys) → w.grownBy w' v.ownBlock → K (a.put o.dst v') w') :
    if Region.wanted o (yielded ops a.tmps) = true then Oper.wp Try.prog o a w K Q else E := by
  have hw : Region.wanted o (yielded ops a.tmps) = true := by simp [Region.wanted, hgd]
  rw [if_pos hw]
  obtain ⟨i0, z0, hi0, hz0, hz1, hz2, hz3⟩ := hu_parts
  subst hn
  refine wp_append_own w s x _ ho base 90 i0 z0 1 8 Try.underlying88 hi0 hz0 hz1 hz2 hz3 (by decide) v zs.length (flat huC zs) hs hown ad ys.length c (flat huC ys) hx (flat_len huC_len ys) ?_ (hu_one_all ys) (by unfold maxLen; omega) hb hbase ?_
  · clear hb hown h hbase
    intro j u hu
    have hj : j < (flat huC ys).length := (List.getElem?_eq_some_iff.1 hu).1
    obtain ⟨b, o, e, _, hc⟩ := hr (by omega)
    obtain rfl : ad = ⟨b, o, none⟩ := Option.some.inj e
    rw [addr_add]
    exact hc j u hu
  · intro v' w' h1 h2 _
    refine h v' w' ?_ h2
    unfold UOwn
    rw [List.length_append, flat_append]
    exact h1
theorem wrapEq64 (x : Int) : IntKind.i64.wrap x = wrap64 x := by rw [IntKind.wrap_i64]; unfold wrap64; omega
theorem pnew_of_own {w : World} {base : Nat} {A : Option Addr} {c : Nat} (o : Ob) (hoa : OwnAt w base 90 1 A o.parts.length c (flat huC o.parts)) : PNew w base ⟨o, A, c⟩ := by
  refine ⟨hoa.row, fun e => ?_, hoa.cap_le.1, hoa.cap_le.2, fun a ha => ?_, hoa⟩
  · rcases hoa.form with ⟨_, _, h3⟩ | ⟨g, o, h3⟩
    · exact h3
    · rw [show A = none from e] at h3
      cases h3
  · rcases hoa.form with ⟨h3, _, _⟩ | ⟨g, o, h3⟩
    · rw [show A = some a from ha] at h3
      cases h3
    · obtain rfl : a = ⟨g, o, none⟩ := by
        rw [show A = some a from ha] at h3
        injection h3
      subst h3
      exact hoa.lt
/-- The words from a place on agree with R so far. -/
def eqAt (h : List Nat) (p : Nat) (R : List Nat) (m : Nat) : Prop := ∀ i, i < m → h.getD (p + i) 0 = R.getD i 0
theorem eqAt_take {h R : List Nat} {p : Nat} (hl : p + R.length ≤ h.length) (he : eqAt h p R R.length) : (h.drop p).take R.length = R := by
  apply List.ext_getElem (by rw [List.length_take, List.length_drop]; omega)
  intro i h1 h2
  have := he i h2
  rw [List.getElem_take, List.getElem_drop]
  simpa [List.getD_eq_getElem?_getD, h2, show p + i < h.length by omega] using this
theorem take_eqAt {h R : List Nat} {p m : Nat} (_hl : p + R.length ≤ h.length) (he : (h.drop p).take R.length = R) (hm : m < R.length) : h.getD (p + m) 0 = R.getD m 0 := by
  have h1 : ((h.drop p).take R.length).getD m 0 = R.getD m 0 := by rw [he]
  rw [← h1]
  simp [List.getD_eq_getElem?_getD, hm]
theorem str_push (t : List UInt8) (b : UInt8) : (⟨t.toArray⟩ : ByteArray) ++ ⟨#[b]⟩ = ⟨(t ++ [b]).toArray⟩ := by
  apply ByteArray.ext
  simp

set_option maxRecDepth 100000 in
set_option maxHeartbeats 4000000 in
theorem objectAt_out (A : Option Addr) (c : Nat) (h : List Nat) (p : Int) (w : World) (hc : h.length ≤ maxLen) (hp : p < 0 ∨ (h.length : Int) ≤ p) : Calls Try.prog 49 #[.slice A h.length c, .int .i64 p] w (RaP w h p) := by
  have hb1 := (Below.refl w.heap.size w).alloc (Nat.le_refl _) (.cells #[.int .i64 0, .int .i64 0, .int .i64 0, .string ⟨#[]⟩, .slice none 0 0] 113)
  have hbx : ObBox (w.alloc (.cells #[.int .i64 0, .int .i64 0, .int .i64 0, .string ⟨#[]⟩, .slice none 0 0] 113)) w.heap.size 0 0 0 [] none 0 0 := Box.new w 113 #[.int .i64 0, .int .i64 0, .int .i64 0, .string ⟨#[]⟩, .slice none 0 0]
  have HI := Lib.hid (hin_any p 0 ((h.length : Int) - 1))
  rw [show decide ((0 : Int) ≤ p ∧ p ≤ (h.length : Int) - 1) = false by rw [decide_eq_false_iff_not]; omega] at HI
  have hn : raF h p = none := by unfold raF; rw [if_pos hp]
  unfold maxLen at hc
  clear hp
  go_enter Try.func49, Try.ntmps49
  go_upto_region 1 with fail
  generalize w.alloc (.cells #[.int .i64 0, .int .i64 0, .int .i64 0, .string ⟨#[]⟩, .slice none 0 0] 113) = w1 at *
  have HBB := Lib.hid hb1
  have HN := Lib.hid hn
  clear hb1 hn
  go_upto_if 28 with (go_at_call 63; refine (HI.out _).mono ?_; rintro e wk ⟨rfl, rfl⟩)
  obtain ⟨e0, e1, e2, e3, e4⟩ := ObBox.cells hbx
  have z0 := hbx.frozen 0
  have z1 := hbx.frozen 1
  have z2 := hbx.frozen 2
  have z3 := hbx.frozen 3
  have z4 := hbx.frozen 4
  go_wp2_with fail
  obtain ⟨wr, hwr⟩ : ∃ wr, wr = ((((w1.setCell ⟨w.heap.size, 0, none⟩ (.int .i64 0)).setCell ⟨w.heap.size, 1, none⟩ (.int .i64 0)).setCell ⟨w.heap.size, 2, none⟩ (.int .i64 0)).setCell ⟨w.heap.size, 3, none⟩ (.string ⟨#[]⟩)).setCell ⟨w.heap.size, 4, none⟩ (.slice none 0 0) := ⟨_, rfl⟩
  rw [← hwr]
  obtain ⟨hxr, hor⟩ := ob_stored hbx 0 0 0 [] none 0 0 wr hwr
  obtain ⟨r0, r1, r2, r3, r4⟩ := ObBox.cells hxr
  refine bodyPost_ret (v := .tuple #[ocV oc0, .bool false]) (by unfold ocV oc0; simp [results, Try.results49, r0, r1, r2, r3, r4, go_sem]) rfl ?_
  refine raP_none (hor.to_below HBB.out HBB.out.size (fun i hi => Nat.le_of_eq hi.symm)) ?_
  exact HN.out

set_option maxRecDepth 100000 in
set_option maxHeartbeats 4000000 in
theorem objectAt_in (A : Option Addr) (c : Nat) (h : List Nat) (p : Nat) (w : World) (hh : HpIn w A c h) (hp : p < h.length) : Calls Try.prog 49 #[.slice A h.length c, .int .i64 (p : Int)] w (RaP w h p) := by
  obtain ⟨b, o, rfl, hbb, hc0⟩ := Row.u hh.row hp
  have hfit := hh.getD p
  have HRA := Lib.hid ((raF_in hp).trans (show refF h p = if 4294967296 ≤ h.getD p 0 then none
    else if isNum (kindF (h.getD p 0)) = true ∧ h.length ≤ p + 1 then none
    else if (restF h p (h.getD p 0)).length < (bytesF (h.getD p 0) + 7) / 8 + partsF (h.getD p 0) then none
    else if OkAt h p (h.getD p 0) then some (obF h p (h.getD p 0)) else none from rfl))
  have hb1 := (Below.refl w.heap.size w).alloc (Nat.le_refl _) (.cells #[.int .i64 0, .int .i64 0, .int .i64 0, .string ⟨#[]⟩, .slice none 0 0] 113)
  have hbx : ObBox (w.alloc (.cells #[.int .i64 0, .int .i64 0, .int .i64 0, .string ⟨#[]⟩, .slice none 0 0] 113)) w.heap.size 0 0 0 [] none 0 0 := Box.new w 113 #[.int .i64 0, .int .i64 0, .int .i64 0, .string ⟨#[]⟩, .slice none 0 0]
  generalize h.getD p 0 = hd at *
  have HHH := Lib.hid hh
  have HFIT := Lib.hid hfit
  have hcap := hh.cap
  have hle := hh.le
  unfold maxLen at hcap
  have hrow0 := hh.row.below hb1
  have hc1 : (w.alloc (.cells #[.int .i64 0, .int .i64 0, .int .i64 0, .string ⟨#[]⟩, .slice none 0 0] 113)).cell? ⟨b, o + p, none⟩ = some (.int .u64 (hd : Int)) := (hb1.cell (p := ⟨b, o + p, none⟩) hbb).trans hc0
  have HI := Lib.hid (hin_any (p : Int) 0 ((h.length : Int) - 1))
  rw [show decide ((0 : Int) ≤ (p : Int) ∧ (p : Int) ≤ (h.length : Int) - 1) = true by rw [decide_eq_true_iff]; omega] at HI
  clear hh hc0
  go_enter Try.func49, Try.ntmps49
  go_upto_region 1 with fail
  have HSZ := Lib.hid (show (w.alloc (.cells #[.int .i64 0, .int .i64 0, .int .i64 0, .string ⟨#[]⟩, .slice none 0 0] 113)).heap.size = w.heap.size + 1 by simp)
  generalize w.alloc (.cells #[.int .i64 0, .int .i64 0, .int .i64 0, .string ⟨#[]⟩, .slice none 0 0] 113) = w1 at *
  have HBB := Lib.hid hb1
  have HROW0 := Lib.hid hrow0
  clear hb1 hrow0
  by_cases hlarge : 4294967296 ≤ hd
  · have d1 : decide (0 < (hd : Int) / 4294967296) = true := by rw [decide_eq_true_iff]; omega
    have q1 : 0 < (hd : Int) / 4294967296 := by omega
    have q2 : ¬ (hd : Int) / 4294967296 ≤ 0 := by omega
    have q3 : 0 < hd / 4294967296 := by omega
    have HL := Lib.hid hlarge
    clear hlarge
    go_upto_if 28 with (go_at_call 63; refine (HI.out _).mono ?_; rintro e wk ⟨rfl, rfl⟩)
    obtain ⟨e0, e1, e2, e3, e4⟩ := ObBox.cells hbx
    have z0 := hbx.frozen 0
    have z1 := hbx.frozen 1
    have z2 := hbx.frozen 2
    have z3 := hbx.frozen 3
    have z4 := hbx.frozen 4
    go_wp2_with fail
    obtain ⟨wr, hwr⟩ : ∃ wr, wr = ((((w1.setCell ⟨w.heap.size, 0, none⟩ (.int .i64 0)).setCell ⟨w.heap.size, 1, none⟩ (.int .i64 0)).setCell ⟨w.heap.size, 2, none⟩ (.int .i64 0)).setCell ⟨w.heap.size, 3, none⟩ (.string ⟨#[]⟩)).setCell ⟨w.heap.size, 4, none⟩ (.slice none 0 0) := ⟨_, rfl⟩
    rw [← hwr]
    obtain ⟨hxr, hor⟩ := ob_stored hbx 0 0 0 [] none 0 0 wr hwr
    obtain ⟨r0, r1, r2, r3, r4⟩ := ObBox.cells hxr
    refine bodyPost_ret (v := .tuple #[ocV oc0, .bool false]) (by unfold ocV oc0; simp [results, Try.results49, r0, r1, r2, r3, r4, go_sem]) rfl ?_
    refine raP_none (hor.to_below HBB.out HBB.out.size (fun i hi => Nat.le_of_eq hi.symm)) ?_
    rw [HRA.out, if_pos HL.out]
  have d1 : decide (0 < (hd : Int) / 4294967296) = false := by rw [decide_eq_false_iff_not]; omega
  have q1 : ¬ 0 < (hd : Int) / 4294967296 := by omega
  have q2 : (hd : Int) / 4294967296 ≤ 0 := by omega
  have q3 : ¬ 0 < hd / 4294967296 := by omega
  have HL := Lib.hid hlarge
  have hra := HRA.out
  rw [if_neg HL.out] at hra
  have hhd : hd < 4294967296 := by omega
  clear hlarge HRA hfit
  go_upto_if 28 with (go_at_call 63; refine (HI.out _).mono ?_; rintro e wk ⟨rfl, rfl⟩)
  go_upto_region 4 with fail
  have hsz1 : w1.heap.size = w.heap.size + 1 := HSZ.out
  rw [hsz1]
  have HKE := Lib.hid (show ((hd : Int) % 256) = kindF hd by unfold kindF; omega)
  rw [HKE.out]
  generalize hk : kindF hd = k at *
  have hst : RdSt w (w1.alloc (.cells #[.int .i64 p, .int .i64 k, .int .i64 0, .string ⟨#[]⟩, .slice none 0 0] 113)) ⟨⟨p, k, 0, [], []⟩, none, 0⟩ := by
    have b1 := Box.new w1 113 #[.int .i64 p, .int .i64 k, .int .i64 0, .string ⟨#[]⟩, .slice none 0 0]
    rw [hsz1] at b1
    exact ⟨HBB.out.alloc (by omega) _, by simp; omega, hbx.alloc _, b1⟩
  have hc2 : (w1.alloc (.cells #[.int .i64 p, .int .i64 k, .int .i64 0, .string ⟨#[]⟩, .slice none 0 0] 113)).cell? ⟨b, o + p, none⟩ = some (.int .u64 (hd : Int)) := by
    rw [World.cell?_alloc_lt _ _ ⟨b, o + p, none⟩ (lt_of_cell hc1)]
    exact hc1
  generalize w1.alloc (.cells #[.int .i64 p, .int .i64 k, .int .i64 0, .string ⟨#[]⟩, .slice none 0 0] 113) = w2 at *
  clear hc1 hbx
  go_quiet (fail)
  rw [show (hd : Int) / 256 % 4096 = (bytesF hd : Int) by unfold bytesF; omega, show (hd : Int) / 1048576 = (partsF hd : Int) by unfold partsF; omega]
  have hst3 := hst.on (below_drewN (Below.refl _ w2) nq)
  generalize w2.drewN nq = w3 at *
  clear hst hc2
  have hrow1 := (row_drop HHH.out.row (p + 1) hle).below hst3.below
  obtain ⟨A1, hA1⟩ : ∃ A1 : Addr, (if c = p + 1 then some (⟨b, o, none⟩ : Addr) else some ⟨b, o + (p + 1), none⟩) = some A1 := by split <;> exact ⟨_, rfl⟩
  go_upto_region 6 with fail
  rw [hA1] at hrow1
  obtain ⟨l1, hl1⟩ : ∃ l1, l1 = h.drop (p + 1) := ⟨_, rfl⟩
  have hl1len : l1.length = h.length - (p + 1) := by rw [hl1, List.length_drop]
  rw [← hl1len]
  rw [← hl1] at hrow1
  have HRF := Lib.hid (show restF h p hd = if isNum k = true then l1.drop 1 else l1 by unfold restF; rw [hk, hl1, List.drop_drop])
  have HNF := Lib.hid (show numF h p hd = if isNum k = true ∧ 0 < l1.length then wrap64 (l1.getD 0 0 : Nat) else 0 by
    unfold numF
    rw [hk, hl1, List.length_drop, show (h.drop (p + 1)).getD 0 0 = h.getD (p + 1) 0 by simp [List.getD_eq_getElem?_getD]]
    by_cases hx : p + 1 < h.length
    · simp only [hx, eq_true (show 0 < h.length - (p + 1) by omega)]
    · simp only [hx, eq_false (show ¬0 < h.length - (p + 1) by omega)])
  have HLL := Lib.hid (show h.length ≤ p + 1 ↔ l1.length = 0 by omega)
  have hc1 : c - (p + 1) ≤ 9223372036854775807 := by omega
  have hlc1 : l1.length ≤ c - (p + 1) := by omega
  generalize c - (p + 1) = c1 at *
  have HROW1 := Lib.hid hrow1
  have HST := Lib.hid hst3
  have HRA := Lib.hid hra
  obtain ⟨f0, f1, f2, f3, f4⟩ := hst3.cells
  have g2 := hst3.b1.frozen 2
  dsimp only at f0 f1 f2 f3 f4
  have hx0 := hst3.b0
  have HBB := Lib.hid hst3.below
  have HN0 : Hid (∀ x ∈ l1, x < 18446744073709551616) := Lib.hid (fun x hx => HHH.out.fit x (by rw [hl1] at hx; exact List.mem_of_mem_drop hx))
  clear hA1 hl1 hl1len hrow1 hst3 hbb hra
  go_cut [62] (fun v wx => v = .bool (isNum k) ∧ w3 = wx)
  case first =>
    by_cases h1 : k = 1
    · subst h1
      go_wp2_with fail
      go_meet
      exact ⟨rfl, rfl⟩
    · have q1 : (k == 1) = false := by simp [h1]
      have HK := Lib.hid (show isNum k = (k == 4) by simp [isNum, h1])
      clear h1
      go_wp2_with fail
      go_meet
      exact ⟨by rw [HK.out], rfl⟩
  obtain ⟨rfl, rfl⟩ := hcut
  go_upto_if 62 with fail
  go_cut [9] (fun v wx => ∃ (A2 : Addr) (c2 : Nat) (l2 : List Nat) (nm : Int), v = .slice (some A2) l2.length c2 ∧ l2 = restF h p hd ∧ nm = numF h p hd ∧ Row wx w.heap.size (some A2) (flat huC l2) ∧ l2.length ≤ c2 ∧ c2 ≤ 9223372036854775807 ∧ RdSt w wx ⟨⟨p, k, nm, [], []⟩, none, 0⟩ ∧ ¬ (isNum k = true ∧ l1.length = 0))
  case first =>
    cases hN : isNum k with
    | true =>
      have HNK := Lib.hid hN
      clear hN
      by_cases hl0 : l1.length = 0
      · have d5 : decide ((l1.length : Int) = 0) = true := decide_eq_true (by omega)
        have d6 : ((l1.length : Int) == 0) = true := by simp [hl0]
        have d7 : (l1.length : Int) = 0 := by omega
        have HL0 := Lib.hid hl0
        clear hl0
        obtain ⟨e0, e1, e2, e3, e4⟩ := ObBox.cells hx0
        have z0 := hx0.frozen 0
        have z1 := hx0.frozen 1
        have z2 := hx0.frozen 2
        have z3 := hx0.frozen 3
        have z4 := hx0.frozen 4
        go_wp2_with fail
        obtain ⟨wr, hwr⟩ : ∃ wr, wr = ((((w3.setCell ⟨w.heap.size, 0, none⟩ (.int .i64 0)).setCell ⟨w.heap.size, 1, none⟩ (.int .i64 0)).setCell ⟨w.heap.size, 2, none⟩ (.int .i64 0)).setCell ⟨w.heap.size, 3, none⟩ (.string ⟨#[]⟩)).setCell ⟨w.heap.size, 4, none⟩ (.slice none 0 0) := ⟨_, rfl⟩
        rw [← hwr]
        obtain ⟨hxr, hor⟩ := ob_stored hx0 0 0 0 [] none 0 0 wr hwr
        obtain ⟨r0, r1, r2, r3, r4⟩ := ObBox.cells hxr
        refine bodyPost_ret (v := .tuple #[ocV oc0, .bool false]) (by unfold ocV oc0; simp [results, Try.results49, r0, r1, r2, r3, r4, go_sem]) rfl ?_
        refine raP_none (hor.to_below HBB.out HBB.out.size (fun i hi => Nat.le_of_eq hi.symm)) ?_
        rw [HRA.out, if_pos ⟨HNK.out, HLL.out.2 HL0.out⟩]
      · obtain ⟨b1, o1, hAe, _, hcc⟩ := Row.u HROW1.out (show 0 < l1.length by omega)
        injection hAe with hAe
        subst hAe
        rw [Nat.add_zero] at hcc
        have hpos : 0 < l1.length := by omega
        have d5 : decide ((l1.length : Int) = 0) = false := decide_eq_false (by omega)
        have d6 : ((l1.length : Int) == 0) = false := by rw [beq_eq_false_iff_ne]; omega
        have hst := (HST.out.num (IntKind.i64.wrap (l1.getD 0 0 : Nat))).drew
        have hnm : IntKind.i64.wrap (l1.getD 0 0 : Nat) = numF h p hd := by rw [HNF.out, if_pos ⟨HNK.out, hpos⟩, wrapEq64]
        have hl2 : l1.drop 1 = restF h p hd := by rw [HRF.out, if_pos HNK.out]
        have hrow := (row_drop (HROW1.out) 1 hlc1).below (below_drewX ((Below.refl w.heap.size w3).setCell (p := ⟨w.heap.size + 1, 2, none⟩) (by simp) (.int .i64 (IntKind.i64.wrap (l1.getD 0 0 : Nat)))))
        obtain ⟨A2, hA2⟩ : ∃ A2 : Addr, (if c1 = 1 then (some ⟨b1, o1, none⟩ : Option Addr) else some ⟨b1, o1 + 1, none⟩) = some A2 := by split <;> exact ⟨_, rfl⟩
        rw [hA2] at hrow
        have hrun : ∀ w, (Instr.slice 88 (.slice (some ⟨b1, o1, none⟩) l1.length c1) (some (.int .i64 1)) none none).run Try.prog w = .ok (.slice (some A2) (l1.length - 1) (c1 - 1)) w := fun w => by
          obtain ⟨i0, z0, hi0, hz0, hz1, hz2, hz3⟩ := hu_parts
          have he : Try.prog.elem 88 = 90 := by simp [Program.elem, Try.underlying88]
          rw [run_slice_l w _ _ l1.length c1 (by rw [he]; exact Try.underlying88) .i64 1 (by omega) (by omega), he]
          rw [← hA2]
          by_cases hc11 : c1 = 1
          · simp [sizeOf, typeInfo, hi0, hz1, sliced, hc11]
          · simp [sizeOf, typeInfo, hi0, hz1, sliced, hc11, addr_add]
        have e0 : ((l1[0] : Nat) : Int) = ((l1.getD 0 0 : Nat) : Int) := by rw [List.getD_eq_getElem?_getD, List.getElem?_eq_getElem hpos, Option.getD_some]
        have H1 := Lib.hid (And.intro hst (And.intro hnm (And.intro hl2 (And.intro hrow e0))))
        have HL0 := Lib.hid hl0
        clear hst hnm hl2 hrow e0 hl0 hA2
        go_upto_region 9 with fail
        go_region_law (fail)
        all_goals (
          simp only [List.getElem_toArray, List.getElem_cons_succ, List.getElem_cons_zero]
          go_frame
          go_wp2_with fail
          go_meet
          obtain ⟨hst, hnm, hl2, hrow, e0⟩ := H1.out
          rw [e0]
          exact ⟨_, _, l1.drop 1, _, by rw [List.length_drop], hl2, hnm, hrow, by rw [List.length_drop]; omega, by omega, hst, fun hx => HL0.out hx.2⟩)
    | false =>
      have HNK := Lib.hid hN
      clear hN
      go_wp2_with fail
      go_meet
      refine ⟨A1, c1, l1, 0, rfl, by rw [HRF.out, HNK.out]; rfl, by rw [HNF.out, HNK.out]; simp, HROW1.out, hlc1, hc1, HST.out, fun hx => by rw [HNK.out] at hx; cases hx.1⟩
  obtain ⟨A2, c2, l2, nm, rfl, hl2, hnm, hrow2, hlc2, hc2, hst, hnot⟩ := hcut
  have HROW2 := Lib.hid hrow2
  have HL2 := Lib.hid hl2
  have HNM := Lib.hid hnm
  have HST2 := Lib.hid hst
  have hx0 := hst.b0
  have hra := HRA.out
  rw [if_neg (fun hx => hnot ⟨hx.1, HLL.out.1 hx.2⟩), ← HL2.out] at hra
  have HLEN : Hid (isNum k = true → p + 1 < h.length) := Lib.hid (fun hN => Nat.lt_of_not_le (fun hle => hnot ⟨hN, HLL.out.1 hle⟩))
  have HBB := Lib.hid hst.below
  clear hrow2 hl2 hnm HROW1 HST f0 f1 f2 f3 f4 g2 HRF HNF hlc1 hc1 HRA hnot hst HN0
  have hnbf : bytesF hd < 4096 := by unfold bytesF; omega
  have hnpf : partsF hd < 4096 := by have := hhd; unfold partsF; omega
  generalize hnb : bytesF hd = nb at *
  generalize hnp : partsF hd = np at *
  by_cases hbad : l2.length < (nb + 7) / 8 + np
  · have d7 : decide ((l2.length : Int) < ((nb : Int) + 7) / 8 + (np : Int)) = true := decide_eq_true (by omega)
    have d8 : (l2.length : Int) < ((nb : Int) + 7) / 8 + (np : Int) := by omega
    have HG := Lib.hid hbad
    have HRA := Lib.hid hra
    clear hbad hra
    obtain ⟨e0, e1, e2, e3, e4⟩ := ObBox.cells hx0
    have z0 := hx0.frozen 0
    have z1 := hx0.frozen 1
    have z2 := hx0.frozen 2
    have z3 := hx0.frozen 3
    have z4 := hx0.frozen 4
    go_wp2_with fail
    obtain ⟨wr, hwr⟩ : ∃ wr, wr = ((((wc.setCell ⟨w.heap.size, 0, none⟩ (.int .i64 0)).setCell ⟨w.heap.size, 1, none⟩ (.int .i64 0)).setCell ⟨w.heap.size, 2, none⟩ (.int .i64 0)).setCell ⟨w.heap.size, 3, none⟩ (.string ⟨#[]⟩)).setCell ⟨w.heap.size, 4, none⟩ (.slice none 0 0) := ⟨_, rfl⟩
    rw [← hwr]
    obtain ⟨hxr, hor⟩ := ob_stored hx0 0 0 0 [] none 0 0 wr hwr
    obtain ⟨r0, r1, r2, r3, r4⟩ := ObBox.cells hxr
    refine bodyPost_ret (v := .tuple #[ocV oc0, .bool false]) (by unfold ocV oc0; simp [results, Try.results49, r0, r1, r2, r3, r4, go_sem]) rfl ?_
    refine raP_none (hor.to_below HBB.out HBB.out.size (fun i hi => Nat.le_of_eq hi.symm)) ?_
    rw [HRA.out, if_pos HG.out]
  have d7 : decide ((l2.length : Int) < ((nb : Int) + 7) / 8 + (np : Int)) = false := decide_eq_false (by omega)
  have d8 : ¬ (l2.length : Int) < ((nb : Int) + 7) / 8 + (np : Int) := by omega
  have HG := Lib.hid hbad
  rw [if_neg HG.out] at hra
  have HRA := Lib.hid hra
  clear hbad hra
  have HF2 : Hid (∀ i, l2.getD i 0 < 18446744073709551616) := Lib.hid (fun i => by
    rw [HL2.out]
    unfold restF
    split
    · rw [show (h.drop (p + 2)).getD i 0 = h.getD (p + 2 + i) 0 by simp [List.getD_eq_getElem?_getD]]
      exact HHH.out.getD _
    · rw [show (h.drop (p + 1)).getD i 0 = h.getD (p + 1 + i) 0 by simp [List.getD_eq_getElem?_getD]]
      exact HHH.out.getD _)
  clear hx0 HBB
  go_wp2_with fail
  go_loopg [11, 12, 85] nb (fun gk _k _x i wr => ∃ (j : Nat), gk = nb - j ∧ j ≤ nb ∧ i = .int .i64 j ∧ RdSt w wr ⟨⟨p, k, nm, textF l2 j, []⟩, none, 0⟩ ∧ Row wr w.heap.size (some A2) (flat huC l2))
  case atStart => exact ⟨0, by omega, by omega, rfl, HST2.out, HROW2.out⟩
  case round =>
    obtain ⟨j, hgk, hj, rfl, hst, hrow⟩ := hrel
    have HGK := Lib.hid hgk
    have HST := Lib.hid hst
    have HROW := Lib.hid hrow
    clear hgk HST2 HROW2
    by_cases hlt : j < nb
    · obtain ⟨b2, o2, hAe, _, hcl⟩ := Row.u (i := j / 8) hrow (by have := HG.out; omega)
      injection hAe with hAe
      subst hAe
      have hj8 : j / 8 < l2.length := by have := HG.out; omega
      have hts := textF_succ l2 j
      have hx64 := HF2.out (j / 8)
      generalize l2.getD (j / 8) 0 = x at hcl hts hx64
      have HTS := Lib.hid hts
      clear hts hrow hst
      go_wp2_with fail
      obtain ⟨wo, hwo⟩ : ∃ wo, wo = wr := ⟨_, rfl⟩
      subst hwo
      go_loopg [12, 95] (j % 8) (fun gk2 xv mv wr2 => ∃ (m y : Nat), gk2 = j % 8 - m ∧ m ≤ j % 8 ∧ mv = .int .i64 m ∧ xv = .int .u64 (y : Int) ∧ y = x / 256 ^ m ∧ wo = wr2)
      case atStart => exact ⟨0, x, by omega, by omega, rfl, rfl, by simp, rfl⟩
      case round =>
        obtain ⟨m, y, hgk2, hm, rfl, rfl, hy, rfl⟩ := hrel
        have HGK2 := Lib.hid hgk2
        have hy64 : y < 18446744073709551616 := by rw [hy]; exact Nat.lt_of_le_of_lt (Nat.div_le_self _ _) hx64
        have HY := Lib.hid hy
        clear hgk2 hy
        by_cases hm8 : m < j % 8
        · have hm8' : (m : Int) < (j : Int) % 8 := by omega
          go_wp2_with fail
          go_roundg (j % 8 - (m + 1))
          case measure => have := HGK2.out; omega
          case rel => exact ⟨m + 1, y / 256, rfl, by omega, by go_num, by simp, by rw [HY.out, Nat.div_div_eq_div_mul, Nat.pow_succ], rfl⟩
        · obtain rfl : m = j % 8 := by omega
          have hm8' : ¬ ((j % 8 : Nat) : Int) < (j : Int) % 8 := by omega
          have hbt : ((UInt8.ofNat (y % 256)).toNat : Int) = (y : Int) % 256 := by simp
          have hcv : (convert 200 9 (.slice (some ⟨wo.heap.size, 0, none⟩) 1 1)).run Try.prog (wo.alloc (.cells #[.int .u8 ((y : Int) % 256)] 5)) = .ok (.string ⟨#[UInt8.ofNat (y % 256)]⟩) (wo.alloc (.cells #[.int .u8 ((y : Int) % 256)] 5)) := by8_string (some ⟨wo.heap.size, 0, none⟩) 1 (wo.heap.size + 1) [UInt8.ofNat (y % 256)] (wo.alloc (.cells #[.int .u8 ((y : Int) % 256)] 5)) (by
            intro _
            refine ⟨wo.heap.size, 0, rfl, by omega, fun i v hv => ?_⟩
            match i, hv with
            | 0, hv =>
              simp only [by8, List.map_cons, List.map_nil, List.getElem?_cons_zero, Option.some.injEq] at hv
              subst hv
              rw [hbt]
              exact (Box.new wo 5 #[.int .u8 ((y : Int) % 256)]).cell 0
            | i + 1, hv => simp [by8] at hv)
          have hst2 := (HST.out.text (textF l2 j ++ [UInt8.ofNat (y % 256)])).alloc (.cells #[.int .u8 ((y : Int) % 256)] 5)
          rw [HY.out, ← HTS.out, ← HY.out] at hst2
          have hrow2 := (HROW.out.below (((Below.refl w.heap.size wo).setCell (p := ⟨w.heap.size + 1, 3, none⟩) (by simp) (.string ⟨(textF l2 (j + 1)).toArray⟩)).alloc (by have := HST.out.size; simp; omega) (.cells #[.int .u8 ((y : Int) % 256)] 5)))
          have HST3 := Lib.hid hst2
          have HROW3 := Lib.hid hrow2
          have HSP := Lib.hid ((str_push (textF l2 j) (UInt8.ofNat (y % 256))).trans (by rw [HY.out, ← HTS.out]))
          obtain ⟨f0, f1, f2, f3, f4⟩ := HST.out.cells
          have g3 := HST.out.b1.frozen 3
          dsimp only at f0 f1 f2 f3 f4
          have hal := HST.out.alloc (.cells #[.int .u8 ((y : Int) % 256)] 5)
          obtain ⟨_, _, _, k3, _⟩ := hal.cells
          have m3 := hal.b1.frozen 3
          dsimp only at k3
          have hlt1 : w.heap.size + 1 < wo.heap.size := by have := HST.out.size; omega
          have hsl : ¬ 9223372036854775807 < (textF l2 j).length + 1 := by rw [textF_len]; omega
          clear hst2 hrow2 hbt hal
          go_wp2_with fail
          rw [HSP.out]
          go_roundg (nb - (j + 1))
          case measure => have := HGK.out; omega
          case rel => exact ⟨j + 1, rfl, by omega, by go_num, HST3.out, HROW3.out⟩
    · obtain rfl : j = nb := by omega
      obtain ⟨ps, hpe⟩ : ∃ ps, ps = (l2.drop ((j + 7) / 8)).take np := ⟨_, rfl⟩
      have hps : ps.length = np := by
        have := HG.out
        rw [hpe, List.length_take, List.length_drop]
        omega
      have HPE := Lib.hid hpe
      have HPS := Lib.hid hps
      have HSZ2 : Hid (w.heap.size + 2 ≤ wr.drew.heap.size) := Lib.hid hst.size
      have HG8 : (j + 7) / 8 + np ≤ l2.length := by have := HG.out; omega
      obtain ⟨f0, f1, f2, f3, f4⟩ := hst.cells
      have g4 := hst.b1.frozen 4
      dsimp only at f0 f1 f2 f3 f4
      have hwk : IntKind.i64.wrap (((j : Int) + 7) / 8 + (np : Int)) = ((j : Int) + 7) / 8 + (np : Int) := IntWalk.i64_in _ (by omega)
      obtain ⟨A3, hA3⟩ : ∃ A3 : Addr, (if c2 = (j + 7) / 8 then (some A2 : Option Addr) else some (A2.add ((j + 7) / 8))) = some A3 := by split <;> exact ⟨_, rfl⟩
      have hrun : ∀ w, (Instr.slice 88 (.slice (some A2) l2.length c2) (some (.int .i64 (((j : Int) + 7) / 8))) (some (.int .i64 (((j : Int) + 7) / 8 + (np : Int)))) none).run Try.prog w = .ok (.slice (some A3) np (c2 - (j + 7) / 8)) w := fun w => by
        obtain ⟨i0, z0, hi0, hz0, hz1, hz2, hz3⟩ := hu_parts
        have he : Try.prog.elem 88 = 90 := by simp [Program.elem, Try.underlying88]
        rw [run_slice_lh w _ _ _ _ (by rw [he]; exact Try.underlying88) .i64 .i64 _ _ (by omega) (by omega) (by omega), he]
        rw [show (((j : Int) + 7) / 8).toNat = (j + 7) / 8 by omega, show (((j : Int) + 7) / 8 + (np : Int)).toNat = (j + 7) / 8 + np by omega, ← hA3]
        by_cases hc11 : c2 = (j + 7) / 8
        · simp [sizeOf, typeInfo, hi0, hz1, sliced, hc11]
        · simp [sizeOf, typeInfo, hi0, hz1, sliced, hc11]
      have hrow3 : Row wr w.heap.size (some A3) (flat huC ps) := by
        rw [← hA3]
        by_cases hc11 : c2 = (j + 7) / 8
        · have hp0 : ps = [] := List.eq_nil_of_length_eq_zero (by omega)
          rw [hp0]
          exact Row.nil
        · rw [if_neg hc11, hpe]
          exact row_mid hrow _ _
      have HROW3 := Lib.hid hrow3
      clear hpe hps hA3 hrow3
      go_upto_region 23 with fail
      go_region_law (refine step_append_hu rfl (.tmp 111) (.tmp 117) rfl (w.heap.size + 2) (.slice none 0 0) [] rfl (World.ownsRow_nil _ _ _ _) A3 (c2 - (j + 7) / 8) np w.heap.size ps HPS.out rfl (HROW3.out.below (below_drewX (Below.refl _ _))) (by simp; omega) HSZ2.out ?_; intro v' w5 hown' hg'; obtain ⟨A5, c5, rfl, hoa5⟩ := OwnAt.of_own hown'; have hst5 := HST.out.drew.grown hg' (fun b hb => by cases hb); obtain ⟨k0, k1, k2, k3, k4⟩ := hst5.cells; have m4 := hst5.b1.frozen 4)
      have hst6 := hst5.parts A5 ps c5
      have hoa := hoa5
      rw [List.nil_append] at hoa
      have hpn5 : PNew w5 (w.heap.size + 2) ⟨⟨p, k, nm, textF l2 j, ps⟩, A5, c5⟩ := pnew_of_own ⟨p, k, nm, textF l2 j, ps⟩ hoa
      have hpn := hpn5.only (((Only.refl (fun b => b = w.heap.size + 1) w5).set (p := ⟨w.heap.size + 1, 4, none⟩) rfl (.slice A5 ps.length c5))) (fun i hi => by omega)
      clear hpn5 hoa hoa5 hst5 k0 k1 k2 k3 k4 m4 hg' hown' f0 f1 f2 f3 f4 g4 HST HROW
      generalize w5.setCell ⟨w.heap.size + 1, 4, none⟩ (.slice A5 ps.length c5) = w6 at *
      have HX := Lib.hid (show obF h p hd = ⟨p, k, nm, textF l2 j, ps⟩ by
        unfold obF
        rw [hk, ← HNM.out, ← HL2.out, hnb, hnp, ← HPE.out])
      have HOK := Lib.hid (show OkAt h p hd ↔ (OkO ⟨p, k, nm, textF l2 j, ps⟩ ∧ (h.drop p).take (wordsF ⟨p, k, nm, textF l2 j, ps⟩).length = wordsF ⟨p, k, nm, textF l2 j, ps⟩) by
        unfold OkAt
        rw [HX.out])
      have HWL := Lib.hid (show p + (wordsF ⟨p, k, nm, textF l2 j, ps⟩).length ≤ h.length by
        have h1 := congrArg List.length HL2.out
        have h2 := HG.out
        have h3 := HLEN.out
        rw [wordsF_len, textF_len, HPS.out]
        unfold restF numW at *
        dsimp only
        rw [hk] at h1
        by_cases hN : isNum k = true
        · rw [if_pos hN, List.length_drop] at h1
          rw [if_pos hN]
          have := h3 hN
          simp only [List.length_singleton]
          omega
        · rw [if_neg hN, List.length_drop] at h1
          rw [if_neg hN]
          simp only [List.length_nil]
          omega)
      generalize textF l2 j = tx at *
      obtain ⟨f0, f1, f2, f3, f4⟩ := hst6.cells
      dsimp only at f0 f1 f2 f3 f4
      obtain ⟨ok, hok⟩ : ∃ ok, ok = decide (OkO ⟨p, k, nm, tx, ps⟩) := ⟨_, rfl⟩
      have hv : Calls Try.prog 98 #[.agg #[.int .i64 p, .int .i64 k, .int .i64 nm, .string ⟨tx.toArray⟩, .slice A5 ps.length c5]] w6 fun e w' => e = .returned (.bool ok) ∧ Below w6.heap.size w6 w' := by
        rw [hok]
        exact objectIs_any ⟨⟨p, k, nm, tx, ps⟩, A5, c5⟩ w6
      have HV := Lib.hid hv
      have HK := Lib.hid hok
      have HS := Lib.hid hst6
      have HP := Lib.hid hpn
      clear hv hok hst6 hpn
      go_upto_if 122 with (go_at_call 98; refine HV.out.mono ?_; rintro e w7 ⟨rfl, hb7⟩)
      have hst7 := HS.out.on hb7
      have HP7 := Lib.hid (HP.out.below hb7)
      have HS7 := Lib.hid hst7
      have HBB := Lib.hid hst7.below
      have hx0 := hst7.b0
      clear f0 f1 f2 f3 f4 HV HP HS hb7
      cases ok with
      | false =>
        obtain ⟨e0, e1, e2, e3, e4⟩ := ObBox.cells hx0
        have z0 := hx0.frozen 0
        have z1 := hx0.frozen 1
        have z2 := hx0.frozen 2
        have z3 := hx0.frozen 3
        have z4 := hx0.frozen 4
        go_wp2_with fail
        obtain ⟨wr, hwr⟩ : ∃ wr, wr = ((((w7.setCell ⟨w.heap.size, 0, none⟩ (.int .i64 0)).setCell ⟨w.heap.size, 1, none⟩ (.int .i64 0)).setCell ⟨w.heap.size, 2, none⟩ (.int .i64 0)).setCell ⟨w.heap.size, 3, none⟩ (.string ⟨#[]⟩)).setCell ⟨w.heap.size, 4, none⟩ (.slice none 0 0) := ⟨_, rfl⟩
        rw [← hwr]
        obtain ⟨hxr, hor⟩ := ob_stored hx0 0 0 0 [] none 0 0 wr hwr
        obtain ⟨r0, r1, r2, r3, r4⟩ := ObBox.cells hxr
        refine bodyPost_ret (v := .tuple #[ocV oc0, .bool false]) (by unfold ocV oc0; simp [results, Try.results49, r0, r1, r2, r3, r4, go_sem]) rfl ?_
        refine raP_none (hor.to_below HBB.out HBB.out.size (fun i hi => Nat.le_of_eq hi.symm)) ?_
        rw [HRA.out, if_neg]
        intro hh
        have := (HOK.out.1 hh).1
        have h2 := HK.out
        rw [decide_eq_true this] at h2
        cases h2
      | true =>
        have hoko : OkO ⟨p, k, nm, tx, ps⟩ := of_decide_eq_true HK.out.symm
        obtain ⟨f0, f1, f2, f3, f4⟩ := hst7.cells
        dsimp only at f0 f1 f2 f3 f4
        have hw := objectWords_any ⟨⟨p, k, nm, tx, ps⟩, A5, c5⟩ w7 hoko HP7.out.row HP7.out.none
        have hRle := wordsF_le hoko
        unfold ocV at hw
        dsimp only at hw
        have HO := Lib.hid hoko
        have hwl := HWL.out
        have hRp := wordsF_pos ⟨p, k, nm, tx, ps⟩
        generalize wordsF ⟨p, k, nm, tx, ps⟩ = R at *
        have HW := Lib.hid hw
        clear hw hoko hst7 hx0 HBB
        go_upto_region 27 with (go_at_call 94; refine HW.out.mono ?_; rintro e w8 ⟨v, rfl, hown, hb8⟩; obtain ⟨g, c7, rfl, hg⟩ := UOwn.form hown hRp)
        obtain ⟨A7, c8, hv7, hoa⟩ := OwnAt.of_own hown
        injection hv7 with e1 e2 e3
        subst e1 e3
        have HROW8 := Lib.hid hoa.row
        have hst8 := HS7.out.on hb8
        have HP8 := Lib.hid (HP7.out.below hb8)
        have HS8 := Lib.hid hst8
        have HBB := Lib.hid hst8.below
        have hx0 := hst8.b0
        have HH8 := Lib.hid (HHH.out.row.below hst8.below)
        clear HW HP7 HS7 hb8 f0 f1 f2 f3 f4 e2 hown hoa hg hst8
        go_loopg [13, 14, 127] R.length (fun gk2 _a _b i wr2 => ∃ (m : Nat), gk2 = R.length - m ∧ m ≤ R.length ∧ i = .int .i64 m ∧ eqAt h p R m ∧ w8 = wr2)
        case atStart => exact ⟨0, by omega, by omega, rfl, fun i hi => by omega, rfl⟩
        case round =>
          obtain ⟨m, hgk2, hm, rfl, heq, rfl⟩ := hrel
          have HGK2 := Lib.hid hgk2
          have HEQ := Lib.hid heq
          clear hgk2 heq
          by_cases hlt2 : m < R.length
          · obtain ⟨b7, o7, hAe, _, hc7⟩ := Row.u HROW8.out hlt2
            injection hAe with hAe
            injection hAe with e1 e2 e3
            subst e1 e2
            rw [Nat.zero_add] at hc7
            obtain ⟨b8, o8, hAe, _, hc8⟩ := Row.u HH8.out (show p + m < h.length by omega)
            injection hAe with hAe
            injection hAe with e1 e2 e3
            subst e1 e2
            have HST8 : Hid (h.getD (p + m) 0 = R.getD m 0 → eqAt h p R (m + 1)) := Lib.hid (fun he i hi => by
              rcases Nat.lt_or_ge i m with h1 | h1
              · exact HEQ.out i h1
              · obtain rfl : i = m := by omega
                exact he)
            have HNE : Hid (h.getD (p + m) 0 ≠ R.getD m 0 → ¬ (h.drop p).take R.length = R) := Lib.hid (fun hne he => hne (take_eqAt hwl he hlt2))
            generalize h.getD (p + m) 0 = y at *
            generalize R.getD m 0 = x at *
            have hpm : (p : Int) + (m : Int) < (h.length : Int) := by omega
            by_cases hxy : y = x
            · have b3 : ((y : Int) != (x : Int)) = false := by simp [hxy]
              have b4 : decide (¬ (y : Int) = (x : Int)) = false := by simp [hxy]
              have HX2 := Lib.hid hxy
              clear hxy
              go_wp2_with fail
              go_roundg (R.length - (m + 1))
              case measure => have := HGK2.out; omega
              case rel => exact ⟨m + 1, rfl, by omega, by go_num, HST8.out HX2.out, rfl⟩
            · have b3 : ((y : Int) != (x : Int)) = true := by simp; omega
              have HX2 := Lib.hid hxy
              clear hxy
              obtain ⟨e0, e1, e2, e3, e4⟩ := ObBox.cells hx0
              have z0 := hx0.frozen 0
              have z1 := hx0.frozen 1
              have z2 := hx0.frozen 2
              have z3 := hx0.frozen 3
              have z4 := hx0.frozen 4
              go_wp2_with fail
              obtain ⟨wr, hwr⟩ : ∃ wr, wr = ((((w8.setCell ⟨w.heap.size, 0, none⟩ (.int .i64 0)).setCell ⟨w.heap.size, 1, none⟩ (.int .i64 0)).setCell ⟨w.heap.size, 2, none⟩ (.int .i64 0)).setCell ⟨w.heap.size, 3, none⟩ (.string ⟨#[]⟩)).setCell ⟨w.heap.size, 4, none⟩ (.slice none 0 0) := ⟨_, rfl⟩
              rw [← hwr]
              obtain ⟨hxr, hor⟩ := ob_stored hx0 0 0 0 [] none 0 0 wr hwr
              obtain ⟨r0, r1, r2, r3, r4⟩ := ObBox.cells hxr
              refine bodyPost_ret (v := .tuple #[ocV oc0, .bool false]) (by unfold ocV oc0; simp [results, Try.results49, r0, r1, r2, r3, r4, go_sem]) rfl ?_
              refine raP_none (hor.to_below HBB.out HBB.out.size (fun i hi => Nat.le_of_eq hi.symm)) ?_
              rw [HRA.out, if_neg]
              intro hh
              exact HNE.out HX2.out (HOK.out.1 hh).2
          · obtain rfl : m = R.length := by omega
            obtain ⟨f0, f1, f2, f3, f4⟩ := HS8.out.cells
            dsimp only at f0 f1 f2 f3 f4
            obtain ⟨y0, y1, y2, y3, y4⟩ := HS8.out.cells0
            have z0 := hx0.frozen 0
            have z1 := hx0.frozen 1
            have z2 := hx0.frozen 2
            have z3 := hx0.frozen 3
            have z4 := hx0.frozen 4
            go_wp2_with fail
            obtain ⟨wf, hwf⟩ : ∃ wf, wf = ((((w8.setCell ⟨w.heap.size, 0, none⟩ (.int .i64 p)).setCell ⟨w.heap.size, 1, none⟩ (.int .i64 k)).setCell ⟨w.heap.size, 2, none⟩ (.int .i64 nm)).setCell ⟨w.heap.size, 3, none⟩ (.string ⟨tx.toArray⟩)).setCell ⟨w.heap.size, 4, none⟩ (.slice A5 ps.length c5) := ⟨_, rfl⟩
            rw [← hwf]
            obtain ⟨hxr, hor⟩ := ob_stored hx0 p k nm tx A5 ps.length c5 wf hwf
            obtain ⟨r0, r1, r2, r3, r4⟩ := ObBox.cells hxr
            refine bodyPost_ret (v := .tuple #[ocV ⟨⟨p, k, nm, tx, ps⟩, A5, c5⟩, .bool true]) (by unfold ocV; simp [results, Try.results49, r0, r1, r2, r3, r4, go_sem]) rfl ?_
            refine ⟨hor.to_below HBB.out HBB.out.size (fun i hi => Nat.le_of_eq hi.symm), ⟨⟨p, k, nm, tx, ps⟩, A5, c5⟩, true, rfl, ?_, fun e => by (cases e), (HP8.out.only hor (fun i hi => by omega)).lower (by omega)⟩
            rw [HRA.out, if_pos (HOK.out.2 ⟨HO.out, eqAt_take hwl HEQ.out⟩), HX.out]
            rfl

theorem objectAt_any (A : Option Addr) (c : Nat) (h : List Nat) (p : Int) (w : World) (hh : HpIn w A c h) : Calls Try.prog 49 #[.slice A h.length c, .int .i64 p] w (RaP w h p) := by
  by_cases hp : p < 0 ∨ (h.length : Int) ≤ p
  · exact objectAt_out A c h p w (Nat.le_trans hh.le hh.cap) hp
  · obtain ⟨q, rfl⟩ : ∃ q : Nat, p = q := ⟨p.toNat, by omega⟩
    exact objectAt_in A c h q w hh (by omega)
end Go.Proofs.Ytdjahlkjfpbifaa
