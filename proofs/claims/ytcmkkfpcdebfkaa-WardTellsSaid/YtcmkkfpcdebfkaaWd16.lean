/-
  The reference's comparisons, of equal supervisors and plans.
-/
import Derived.Test.YtcmkkfpcdebfkaaWd15
namespace Go.Proofs.Ytcmkkfpcdebfkaa
open Go.RowKit

set_option maxRecDepth 100000 in
theorem sameInts_t (A A' : Option Addr) (c c' : Nat) (xs : List Int) (B B' : Nat) (w : World) (h : Row w B A (ints xs)) (h' : Row w B' A' (ints xs)) (hc : xs.length ≤ c) (hc2 : c ≤ maxLen) (_hd : xs.length ≤ c') (_hd2 : c' ≤ maxLen) :
    Calls Try.prog 185 #[.slice A xs.length c, .slice A' xs.length c'] w fun e w' => e = .returned (.bool true) ∧ Below w.heap.size w w' := by
  have HR := Lib.hid h
  have HR' := Lib.hid h'
  unfold maxLen at hc2
  clear h h'
  go_enter Try.func185, Try.ntmps185
  go_wp2_with fail
  go_loopg [13] xs.length (fun gk i wr => ∃ k n : Nat, gk = xs.length - k ∧ k ≤ xs.length ∧ i = .int .i64 k ∧ wr = w.drewN n)
  case atStart => exact ⟨0, 0, by omega, by omega, rfl, rfl⟩
  case round =>
    obtain ⟨k, n, hgk, hk, rfl, rfl⟩ := hrel
    have HK := Lib.hid hgk
    clear hgk
    by_cases hlt : k < xs.length
    · obtain ⟨b, o, hA, _, hc⟩ := HR.out.int hlt
      subst hA
      obtain ⟨b', o', hA', _, hc'⟩ := HR'.out.int hlt
      subst hA'
      have hd : (w.drewN n).cell? ⟨b, o + k, none⟩ = some (.int .i64 (xs.getD k 0)) := hc
      have hd' : (w.drewN n).cell? ⟨b', o' + k, none⟩ = some (.int .i64 (xs.getD k 0)) := hc'
      generalize xs.getD k 0 = u at *
      go_wp2_with fail
      go_quiet (fail)
      go_wp2_with fail
      go_roundg (xs.length - (k + 1))
      case measure => have := HK.out; omega
      case rel => exact ⟨k + 1, n + nq, rfl, by omega, by go_num, rfl⟩
    · go_wp2_with fail
      go_ret
      exact ⟨rfl, below_drewN (Below.refl _ _) n⟩

theorem wc_fields : Try.prog.underlying 230 = some (.struct (Try.prog.fieldsOf 230)) := by kernel_rfl
theorem wc_neq (w : World) (x y : Ch) : (binOp .neq 230 (.agg #[.int .i64 x.1, .int .i64 x.2.1, .bool x.2.2]) (.agg #[.int .i64 y.1, .int .i64 y.2.1, .bool y.2.2])).run Try.prog w = .ok (.bool (!decide (x = y))) w := by
  rw [run_neq_struct, run_equalIn_struct w 9999 _ _ _ wc_fields (by kernel_rfl)]
  obtain ⟨a0, a1, a2⟩ := x
  obtain ⟨b0, b1, b2⟩ := y
  simp [Program.fieldsOf, Try.underlying230, Op.eqFields, go_sem]
  by_cases h0 : a0 = b0 <;> by_cases h1 : a1 = b1 <;> by_cases h2 : a2 = b2 <;> simp [h0, h1, h2]
set_option maxRecDepth 100000 in
set_option maxHeartbeats 4000000 in
theorem sameWard_t (x x' : WA) (v : Wd) (W : World) (h : WIn W x v) (h' : WIn W x' v) :
    Calls Try.prog 122 #[wardV x v, wardV x' v] W fun e w' => e = .returned (.bool true) ∧ Below W.heap.size W w' := by
  have HIN := Lib.hid h
  have HIN' := Lib.hid h'
  have hc1 := h.c1
  have hc2 := h.c2
  have hd1 := h'.c1
  have hd2 := h'.c2
  clear h h'
  obtain ⟨A, c, B, d⟩ := x
  obtain ⟨A', c', B', d'⟩ := x'
  obtain ⟨how, most, win, ch, tm⟩ := v
  dsimp only at hc1 hc2 hd1 hd2
  unfold maxLen at hc2 hd2
  have hb0 := ((Below.refl W.heap.size W).alloc (Nat.le_refl _) (.cells #[.int .i64 how, .int .i64 most, .int .i64 win, .slice A ch.length c, .slice B tm.length d] 215)).alloc (by simp) (.cells #[.int .i64 how, .int .i64 most, .int .i64 win, .slice A' ch.length c', .slice B' tm.length d'] 215)
  have hbx := (Box.new W 215 #[.int .i64 how, .int .i64 most, .int .i64 win, .slice A ch.length c, .slice B tm.length d]).alloc (.cells #[.int .i64 how, .int .i64 most, .int .i64 win, .slice A' ch.length c', .slice B' tm.length d'] 215)
  have hby := Box.new (W.alloc (.cells #[.int .i64 how, .int .i64 most, .int .i64 win, .slice A ch.length c, .slice B tm.length d] 215)) 215 #[.int .i64 how, .int .i64 most, .int .i64 win, .slice A' ch.length c', .slice B' tm.length d']
  rw [show (W.alloc (.cells #[.int .i64 how, .int .i64 most, .int .i64 win, .slice A ch.length c, .slice B tm.length d] 215)).heap.size = W.heap.size + 1 by simp] at hby
  have HB0 := Lib.hid hb0
  have HBX := Lib.hid hbx
  have HBY := Lib.hid hby
  have HI1 := Lib.hid (HIN.out.below hb0)
  have HI1' := Lib.hid (HIN'.out.below hb0)
  unfold wardV
  dsimp only
  clear hb0 hbx hby
  go_enter Try.func122, Try.ntmps122
  go_upto_region 1 with fail
  generalize (W.alloc (.cells #[.int .i64 how, .int .i64 most, .int .i64 win, .slice A ch.length c, .slice B tm.length d] 215)).alloc (.cells #[.int .i64 how, .int .i64 most, .int .i64 win, .slice A' ch.length c', .slice B' tm.length d'] 215) = w1 at *
  obtain ⟨a0, a1, a2, a3, a4⟩ := cells5 HBX.out
  obtain ⟨b0, b1, b2, b3, b4⟩ := cells5 HBY.out
  go_wp2_with fail
  refine (sameInts_t B B' d d' tm _ _ w1 HI1.out.tm HI1'.out.tm HI1.out.d1 HI1.out.d2 HI1'.out.d1 HI1'.out.d2).mono ?_
  rintro e w2 ⟨rfl, hb2⟩
  have HX2 := Lib.hid (HBX.out.below hb2 HBX.out.lt)
  have HY2 := Lib.hid (HBY.out.below hb2 HBY.out.lt)
  have HI2 := Lib.hid (HI1.out.below hb2)
  have HI2' := Lib.hid (HI1'.out.below hb2)
  have HB2 := Lib.hid (HB0.out.trans (hb2.mono HB0.out.size))
  clear hb2 a0 a1 a2 a3 a4 b0 b1 b2 b3 b4
  have a3 := HX2.out.cell 3
  have b3 := HY2.out.cell 3
  simp only [List.getElem?_toArray, List.getElem?_cons_zero, List.getElem?_cons_succ] at a3 b3
  go_wp2_with fail
  go_loopg [45] ch.length (fun gk i wr => ∃ k n : Nat, gk = ch.length - k ∧ k ≤ ch.length ∧ i = .int .i64 k ∧ w2.drewN n = wr)
  case atStart => exact ⟨0, 0, by omega, by omega, rfl, rfl⟩
  case round =>
    obtain ⟨k, n, hgk, hk, rfl, rfl⟩ := hrel
    have HK := Lib.hid hgk
    clear hgk
    by_cases hlt : k < ch.length
    · have e1 : decide ((k : Int) < (ch.length : Int)) = true := decide_eq_true (by omega)
      have e1' : decide (k < ch.length) = true := decide_eq_true hlt
      obtain ⟨b, o, rfl, _, c0, c1, c2⟩ := HI2.out.ch.wc hlt (0, 0, false)
      obtain ⟨b', o', rfl, _, f0, f1, f2⟩ := HI2'.out.ch.wc hlt (0, 0, false)
      generalize ch.getD k (0, 0, false) = y at *
      have hq := fun w => wc_neq w y y
      rw [show decide (y = y) = true by simp] at hq
      go_upto_region 6 with fail
      go_quiet (fail)
      go_wp2_with fail
      go_roundg (ch.length - (k + 1))
      case measure => have := HK.out; omega
      case rel => exact ⟨k + 1, _, rfl, by omega, by go_num, rfl⟩
    · have e1 : decide ((k : Int) < (ch.length : Int)) = false := decide_eq_false (by omega)
      have e1' : decide (k < ch.length) = false := decide_eq_false hlt
      go_wp2_with fail
      go_ret
      exact ⟨rfl, below_drewN HB2.out n⟩

/-- A plan reads so. -/
structure PIn (w : World) (p : PA) (q : PlV) : Prop where
  stop : Row w w.heap.size p.C (ints q.1)
  start : Row w w.heap.size p.D (ints q.2.1)
  c1 : q.1.length ≤ p.k
  c2 : p.k ≤ maxLen
  d1 : q.2.1.length ≤ p.l
  d2 : p.l ≤ maxLen
theorem POwn.pin {w : World} {base : Nat} {p : PA} {q : PlV} (h : POwn w base p q) : PIn w p q := ⟨h.stop.row, h.start.row, h.stop.cap_le.1, h.stop.cap_le.2, h.start.cap_le.1, h.start.cap_le.2⟩
theorem PIn.below {w w' : World} {p : PA} {q : PlV} (h : PIn w p q) (hb : Below w.heap.size w w') : PIn w' p q := ⟨(h.stop.below hb).more hb.size, (h.start.below hb).more hb.size, h.c1, h.c2, h.d1, h.d2⟩
set_option maxRecDepth 100000 in
set_option maxHeartbeats 4000000 in
theorem samePlan_t (p p' : PA) (q : PlV) (W : World) (h : PIn W p q) (h' : PIn W p' q) :
    Calls Try.prog 123 #[planV p q, planV p' q] W fun e w' => e = .returned (.bool true) ∧ Below W.heap.size W w' := by
  have HIN := Lib.hid h
  have HIN' := Lib.hid h'
  clear h h'
  obtain ⟨C, k, D, l⟩ := p
  obtain ⟨C', k', D', l'⟩ := p'
  obtain ⟨s, t, b⟩ := q
  have hb0 := ((Below.refl W.heap.size W).alloc (Nat.le_refl _) (.cells #[.slice C s.length k, .slice D t.length l, .bool b] 220)).alloc (by simp) (.cells #[.slice C' s.length k', .slice D' t.length l', .bool b] 220)
  have hbx := (Box.new W 220 #[.slice C s.length k, .slice D t.length l, .bool b]).alloc (.cells #[.slice C' s.length k', .slice D' t.length l', .bool b] 220)
  have hby := Box.new (W.alloc (.cells #[.slice C s.length k, .slice D t.length l, .bool b] 220)) 220 #[.slice C' s.length k', .slice D' t.length l', .bool b]
  rw [show (W.alloc (.cells #[.slice C s.length k, .slice D t.length l, .bool b] 220)).heap.size = W.heap.size + 1 by simp] at hby
  have HB0 := Lib.hid hb0
  have HBX := Lib.hid hbx
  have HBY := Lib.hid hby
  have HI1 := Lib.hid (HIN.out.below hb0)
  have HI1' := Lib.hid (HIN'.out.below hb0)
  unfold planV
  dsimp only
  clear hb0 hbx hby
  go_enter Try.func123, Try.ntmps123
  go_upto_region 1 with fail
  generalize (W.alloc (.cells #[.slice C s.length k, .slice D t.length l, .bool b] 220)).alloc (.cells #[.slice C' s.length k', .slice D' t.length l', .bool b] 220) = w1 at *
  have a0 := HBX.out.cell 0
  have a2 := HBX.out.cell 2
  have b0 := HBY.out.cell 0
  have b2 := HBY.out.cell 2
  simp only [List.getElem?_toArray, List.getElem?_cons_zero, List.getElem?_cons_succ] at a0 a2 b0 b2
  go_wp2_with fail
  refine (sameInts_t C C' k k' s _ _ w1 HI1.out.stop HI1'.out.stop HI1.out.c1 HI1.out.c2 HI1'.out.c1 HI1'.out.c2).mono ?_
  rintro e w2 ⟨rfl, hb2⟩
  have HX2 := Lib.hid (HBX.out.below hb2 HBX.out.lt)
  have HY2 := Lib.hid (HBY.out.below hb2 HBY.out.lt)
  have HI2 := Lib.hid (HI1.out.below hb2)
  have HI2' := Lib.hid (HI1'.out.below hb2)
  have HB2 := Lib.hid (HB0.out.trans (hb2.mono HB0.out.size))
  clear hb2 a0 a2 b0 b2
  have a1 := HX2.out.cell 1
  have b1 := HY2.out.cell 1
  simp only [List.getElem?_toArray, List.getElem?_cons_zero, List.getElem?_cons_succ] at a1 b1
  go_wp2_with fail
  refine (sameInts_t D D' l l' t _ _ w2 HI2.out.start HI2'.out.start HI2.out.d1 HI2.out.d2 HI2'.out.d1 HI2'.out.d2).mono ?_
  rintro e w3 ⟨rfl, hb3⟩
  have HB3 := Lib.hid (HB2.out.trans (hb3.mono HB2.out.size))
  clear hb3 a1 b1
  go_wp2_with fail
  go_ret
  exact ⟨rfl, HB3.out⟩
end Go.Proofs.Ytcmkkfpcdebfkaa
