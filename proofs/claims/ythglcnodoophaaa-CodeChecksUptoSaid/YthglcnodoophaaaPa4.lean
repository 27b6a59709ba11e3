
/-
  The reference's Binds: breadth first, over a queue of the call's own.
-/
import Derived.Test.YthglcnodoophaaaPa3
namespace Go.Proofs.Ythglcnodoophaaa
open Go.RowKit

/-- Nothing appended. -/
theorem run_append_z {P : Program} (w : World) (t ty e : TypeId) (i : TypeInfo) (ht : P.underlying t = some (.slice e)) (hi : P.info? e = some i) (A : Option Addr) (n cap : Nat) (hc : n ≤ cap) (X : Option Addr) (c : Nat) :
    (Builtin.append_ #[t, t] ty #[.slice A n cap, .slice X 0 c]).run P w = .ok (.slice A n cap) w := by
  have hf : (Builtin.firstCells i.size 0 (.slice X 0 c)).run P w = .ok #[] w := by
    cases X with
    | none => exact run_firstCells_none w i.size 0 0 c
    | some a => exact run_firstCells_some w i.size 0 a 0 c [] (by simp) (fun j u h => by simp at h)
  cases A with
  | none => simp [Builtin.append_, run_underlying ht, sizeOf, typeInfo, hi, Builtin.lenOf, hf, hc]
  | some a => simp [Builtin.append_, run_underlying ht, sizeOf, typeInfo, hi, Builtin.lenOf, hf, hc, storeCells]

theorem wpList_append_z {P : Program} {w : World} {ops : Array Oper} {rest : List Oper} {o : Oper} {a : Act} {Q : Exit → Act → World → Prop} (hgd : o.guard = none) (s x : Operand) (t : TypeId)
    (ho : o.op = .call { callee := .builtin .append, args := #[s, x], argTypes := #[t, t] })
    (e : TypeId) (i : TypeInfo) (ht : P.underlying t = some (.slice e)) (hi : P.info? e = some i)
    (A : Option Addr) (n cap : Nat) (hc : n ≤ cap) (hs : a.eval s = .slice A n cap) (X : Option Addr) (c : Nat) (hx : a.eval x = .slice X 0 c)
    (h : wpList P ops Q rest (a.put o.dst (.slice A n cap)) w) : wpList P ops Q (o :: rest) a w := by
  refine wpList_plain hgd fun K hK => ?_
  have hrun := run_append_z (P := P) w t o.type e i ht hi A n cap hc X c
  unfold Oper.wp
  simp [execOp, ho, resolve, invoke, builtin, hs, hx, hrun, Result.andThen]
  exact hK _ _ h

/-- A queue of patterns: its row is the call's own, from base on; its elements' parts lie under B. -/
def PaQ (w : World) (base B n : Nat) (A : Option Addr) (c : Nat) (l : List PaC) (vs : List Pt) : Prop :=
  l.length = vs.length ∧ OwnAt w base 41 4 A l.length c (flat paC l) ∧ ∀ i, i < l.length → PaIn w (· < B) n (l.getD i pac0) (vs.getD i pt0)
theorem PaQ.below {w w' : World} {base B n : Nat} {A : Option Addr} {c : Nat} {l : List PaC} {vs : List Pt} (h : PaQ w base B n A c l vs) (hb : Below w.heap.size w w') (hB : B ≤ w.heap.size) : PaQ w' base B n A c l vs :=
  ⟨h.1, h.2.1.below hb, fun i hi => (h.2.2 i hi).below hb fun _ h => Nat.lt_of_lt_of_le h hB⟩
theorem PaQ.tail {w : World} {base B n : Nat} {A : Option Addr} {c : Nat} {y : PaC} {l : List PaC} {v : Pt} {vs : List Pt} {A' : Option Addr} {c' : Nat} (h : PaQ w base B n A c (y :: l) (v :: vs)) (ho : OwnAt w base 41 4 A' l.length c' (flat paC l)) : PaQ w base B n A' c' l vs :=
  ⟨by have := h.1; simpa using this, ho, fun i hi => by
    have := h.2.2 (i + 1) (by simpa using hi)
    simpa using this⟩
theorem PaQ.append {w w' : World} {base B n : Nat} {A A' : Option Addr} {c c' : Nat} {l m : List PaC} {vs us : List Pt} (h : PaQ w base B n A c l vs) (hm : m.length = us.length) (hin : ∀ i, i < m.length → PaIn w (· < B) n (m.getD i pac0) (us.getD i pt0))
    (hb : Below B w w') (ho : OwnAt w' base 41 4 A' (l ++ m).length c' (flat paC (l ++ m))) : PaQ w' base B n A' c' (l ++ m) (vs ++ us) := by
  refine ⟨by simp [h.1, hm], ho, fun i hi => ?_⟩
  have hl := h.1
  simp only [List.length_append] at hi
  simp only [List.getD_eq_getElem?_getD] at *
  rcases Nat.lt_or_ge i l.length with h1 | h1
  · rw [List.getElem?_append_left h1, List.getElem?_append_left (by omega)]
    have := h.2.2 i h1
    simp only [List.getD_eq_getElem?_getD] at this
    exact this.below hb fun _ h => h
  · rw [List.getElem?_append_right h1, List.getElem?_append_right (by omega), hl]
    exact (hin (i - vs.length) (by omega)).below hb fun _ h => h

theorem few_tail {v : Pt} {vs : List Pt} (h : Few (v :: vs)) : Few vs := by unfold Few at *; simp only [Pt.sizes] at h; omega
theorem few_more {k : Int} {us vs : List Pt} (h : Few (Pt.mk k us :: vs)) : Few (vs ++ us) := by unfold Few at *; simp only [Pt.sizes, Pt.size] at h; rw [sizes_append]; omega
theorem few_len {vs : List Pt} (h : Few vs) : vs.length ≤ 1048576 := Nat.le_trans (sizes_len vs) h
theorem sizes_less (v : Pt) (vs : List Pt) : Pt.sizes vs < Pt.sizes (v :: vs) := by have := size_pos v; simp only [Pt.sizes]; omega
theorem sizes_less2 (k : Int) (us vs : List Pt) : Pt.sizes (vs ++ us) < Pt.sizes (Pt.mk k us :: vs) := by rw [sizes_append]; simp only [Pt.sizes, Pt.size]; omega
theorem few_bns {z : Nat} {vs : List Pt} {v : Pt} (h : z + Pt.bns vs = v.bn) (hs : v.size ≤ 1048576) : z + 1 ≤ 4611686018427387904 := by have := bn_le v; omega

set_option maxRecDepth 100000 in
set_option maxHeartbeats 1000000 in
theorem rbinds_pa (n : Nat) (x : PaC) (v : Pt) (B : Nat) (w : World) (h : PaIn w (· < B) n x v) (hB : B ≤ w.heap.size) (hs : v.size ≤ 1048576) :
    Calls Try.prog 18 #[paV x] w fun e w' => e = .returned (.int .i64 (v.bn : Nat)) ∧ Below w.heap.size w w' := by
  obtain ⟨i0, z0, hi0, hz0, hz1, hz2, hz3⟩ := pa_parts
  have hbA : Below w.heap.size w ((w.alloc (.cells #[.int .i64 x.kind, .int .i64 x.num, .string x.text, .slice x.A x.len x.cap] 41)).alloc (.cells #[.int .i64 x.kind, .int .i64 x.num, .string x.text, .slice x.A x.len x.cap] 41)) := ((Below.refl _ _).alloc (Nat.le_refl _) _).alloc (by simp) _
  have HQ0 : Hid (PaQ ((w.alloc (.cells #[.int .i64 x.kind, .int .i64 x.num, .string x.text, .slice x.A x.len x.cap] 41)).alloc (.cells #[.int .i64 x.kind, .int .i64 x.num, .string x.text, .slice x.A x.len x.cap] 41)) w.heap.size B n (some ⟨w.heap.size + 1, 0, none⟩) 1 [x] [v]) := by
    refine ⟨rfl, ?_, fun i hi => ?_⟩
    · have ho := World.ownsRow_lit (base := w.heap.size) (e := 41) (size := 4) (w.alloc (.cells #[.int .i64 x.kind, .int .i64 x.num, .string x.text, .slice x.A x.len x.cap] 41)) #[.int .i64 x.kind, .int .i64 x.num, .string x.text, .slice x.A x.len x.cap] 1 (by simp) (by unfold maxLen; decide) rfl
      obtain ⟨A', c', hv, hq⟩ := OwnAt.of_own ho
      injection hv with e1 e2 e3
      subst e1 e3
      have hh : (w.alloc (.cells #[.int .i64 x.kind, .int .i64 x.num, .string x.text, .slice x.A x.len x.cap] 41)).heap.size = w.heap.size + 1 := by simp
      rw [hh] at hq
      exact hq
    · obtain rfl : i = 0 := by simpa using hi
      exact h.below hbA (fun _ hb => Nat.lt_of_lt_of_le hb hB)
  have HB0 := Lib.hid hbA
  have HSZ := Lib.hid hs
  have hBB := hB
  unfold paV
  clear h hbA hs
  go_enter Try.func18, Try.ntmps18
  go_wp2_with fail
  go_loopg [4, 3] v.size (fun gk q z wr => ∃ (A : Option Addr) (c : Nat) (l : List PaC) (vs : List Pt) (k : Nat), gk = Pt.sizes vs ∧ Few vs ∧ q = .slice A l.length c ∧ z = .int .i64 k ∧ k + Pt.bns vs = v.bn ∧ PaQ wr w.heap.size B n A c l vs ∧ Below w.heap.size w wr)
  case atStart => exact ⟨_, 1, [x], [v], 0, by simp [Pt.sizes], by show Pt.sizes [v] ≤ 1048576; have := HSZ.out; simp only [Pt.sizes]; omega, rfl, rfl, by simp [Pt.bns], HQ0.out, HB0.out⟩
  case round =>
    obtain ⟨A, c, l, vs, k, hgk, hfew, rfl, rfl, hsum, hq, hb⟩ := hrel
    clear HQ0 HB0
    rcases l with _ | ⟨y, l⟩
    · have hv : vs = [] := List.eq_nil_of_length_eq_zero (by have := hq.1; simpa using this.symm)
      subst hv
      have hk : k = v.bn := by simpa [Pt.bns] using hsum
      subst hk
      clear hsum hgk hfew hq
      go_wp2_with fail
      go_ret
      exact ⟨rfl, hb⟩
    obtain ⟨v0, vr, rfl⟩ : ∃ v0 vr, vs = v0 :: vr := by
      rcases vs with _ | ⟨v0, vr⟩
      · have := hq.1; simp at this
      · exact ⟨v0, vr, rfl⟩
    have hq0 := hq.2.2 0 (by simp)
    simp only [List.getD_cons_zero] at hq0
    obtain _ | n := n
    · exact hq0.elim
    obtain ⟨kd, us⟩ := v0
    obtain ⟨⟨e1, e2⟩, _, m, hml, hmr, hmin⟩ := hq0
    change y.kind = kd at e1
    change y.len = us.length at e2
    change ∀ i, i < m.length → PaIn wr (· < B) n (m.getD i pac0) (us.getD i pt0) at hmin
    obtain ⟨g, o, rfl, hcc⟩ := hq.2.1.some_of (by simp)
    have c0 := hq.2.1.cells 0 (.int .i64 y.kind) rfl
    have c1 := hq.2.1.cells 1 (.int .i64 y.num) rfl
    have c2 := hq.2.1.cells 2 (.string y.text) rfl
    have c3 := hq.2.1.cells 3 (.slice y.A y.len y.cap) rfl
    simp only [Nat.add_zero] at c0
    obtain ⟨o', hrun, hown⟩ := hq.2.1.tail Try.underlying39 hi0 hz1 (by simp)
    rw [show (flat paC (y :: l)).drop 4 = flat paC l from rfl, show (y :: l).length - 1 = l.length from rfl] at hown
    rw [show (y :: l).length - 1 = l.length from rfl] at hrun
    have hqt := hq.tail hown
    have hbA : Below wr.heap.size wr (wr.alloc (.cells #[.int .i64 y.kind, .int .i64 y.num, .string y.text, .slice y.A y.len y.cap] 41)) := (Below.refl _ _).alloc (Nat.le_refl _) _
    have hBr := Nat.le_trans hB hb.size
    have HQT := Lib.hid (hqt.below hbA hBr)
    have HB := Lib.hid (hb.alloc hb.size (.cells #[.int .i64 y.kind, .int .i64 y.num, .string y.text, .slice y.A y.len y.cap] 41))
    have hpos : (0 : Int) < ((y :: l).length : Int) := by simp
    have hpos' : 0 < (y :: l).length := by simp
    have HML := Lib.hid (hml.trans e2)
    have HGK := Lib.hid hgk
    have HFEW := Lib.hid hfew
    have HSUM := Lib.hid hsum
    have HMIN := Lib.hid hmin
    have HMR := Lib.hid hmr
    have HBA := Lib.hid hbA
    have HBR := Lib.hid hBr
    have HOWN := Lib.hid HQT.out.2.1
    have hcap : l.length ≤ c - 1 := hown.cap_le.1
    have HLL := Lib.hid (show l.length + us.length ≤ 1048576 by
      have h1 := few_len (few_more hfew)
      have h2 := hqt.1
      rw [List.length_append] at h1
      omega)
    rw [e1, e2] at *
    generalize hLe : (y :: l).length = L at *
    clear hq hqt hown hb hbA hBr hgk hfew hsum hmin hmr hcc hLe
    by_cases k2 : kd = 2
    · subst k2
      have hwz := wrap_add (a := k) (b := 1) (few_bns (v := v) (vs := Pt.mk 2 us :: vr) HSUM.out HSZ.out)
      have hwz' : wrap64 ((k : Int) + 1) = ((k + 1 : Nat) : Int) := hwz
      clear hwz
      go_wp2_with fail
      go_roundg (Pt.sizes vr)
      case measure => rw [HGK.out]; exact sizes_less _ _
      case rel => exact ⟨_, _, l, vr, k + 1, rfl, few_tail HFEW.out, rfl, by first | rfl | exact congrArg _ hwz', by have := HSUM.out; simp only [Pt.bns, bn_var] at this; clear hwz'; omega, HQT.out, HB.out⟩
    have b2 : (kd == 2) = false := by simp [k2]
    by_cases k6 : kd = 6
    case neg =>
      have b6 : (kd == 6) = false := by simp [k6]
      go_wp2_with fail
      go_roundg (Pt.sizes vr)
      case measure => rw [HGK.out]; exact sizes_less _ _
      case rel => exact ⟨_, _, l, vr, k, rfl, few_tail HFEW.out, rfl, rfl, by have := HSUM.out; simp only [Pt.bns, bn_else us k2 k6] at this; omega, HQT.out, HB.out⟩
    subst k6
    clear k2
    have hgw : w.heap.size ≤ g := HOWN.out.lt.1
    rcases us with _ | ⟨u0, ur⟩
    · clear HMIN HMR
      go_wp2_with (at_builtin; refine wpList_append_z rfl (.tmp 24) (.tmp 26) 39 rfl 41 i0 Try.underlying39 hi0 (some ⟨g, o', none⟩) l.length (c - 1) hcap rfl y.A y.cap rfl ?_)
      go_roundg (Pt.sizes vr)
      case measure => rw [HGK.out]; exact sizes_less _ _
      case rel => exact ⟨_, _, l, vr, k, rfl, few_tail HFEW.out, rfl, rfl, by have := HSUM.out; simp only [Pt.bns, bn_make] at this; omega, HQT.out, HB.out⟩
    · have hm0 : m.length = (u0 :: ur).length := HML.out
      have hmp : 0 < (flat paC m).length := by rw [flat_len paC_len, hm0]; simp
      obtain ⟨b2, o2, hya, hbb, hcc⟩ := HMR.out hmp
      have HYA := Lib.hid hya
      clear hya
      have hbb' : b2 < wr.heap.size := Nat.lt_of_lt_of_le hbb HBR.out
      have HNW : Hid (∀ j u, (flat paC m)[j]? = some u → (wr.alloc (.cells #[.int .i64 6, .int .i64 y.num, .string y.text, .slice y.A (u0 :: ur).length y.cap] 41)).cell? ((⟨b2, o2, none⟩ : Addr).add j) = some u) := fun j u hu => by
        rw [addr_add]
        exact (HBA.out.cell (p := ⟨b2, o2 + j, none⟩) hbb').trans (hcc j u hu)
      have HLM : Hid ((flat paC m).length = (u0 :: ur).length * 4) := (flat_len paC_len m).trans (by rw [hm0])
      have HM0 := Lib.hid hm0
      have HUP := Lib.hid (show 0 < (u0 :: ur).length by simp)
      have HBW : Hid (w.heap.size ≤ (wr.alloc (.cells #[.int .i64 6, .int .i64 y.num, .string y.text, .slice y.A (u0 :: ur).length y.cap] 41)).heap.size) := HB.out.size
      have HBY : Hid ((l.length + (u0 :: ur).length) * 56 ≤ 140737488355328) := by have := HLL.out; show _ ≤ _; omega
      have HMX : Hid (l.length + (u0 :: ur).length ≤ maxLen) := by have := HLL.out; show _ ≤ _; unfold maxLen; omega
      clear HMR hbb hbb' hcc hmp hm0 hml
      generalize hUU : (u0 :: ur).length = U at *
      go_wp2_with (at_builtin; refine wpList_append_q rfl (.tmp 24) (.tmp 26) 39 rfl w.heap.size 41 i0 z0 4 56 Try.underlying39 hi0 hz0 hz1 hz2 hz3 (by decide) (some ⟨g, o', none⟩) l.length (c - 1) (flat paC l) rfl HOWN.out ⟨b2, o2, none⟩ U y.cap (flat paC m) (by rw [← HYA.out]; rfl) HLM.out HNW.out (pa_one_all m) HMX.out HBY.out HBW.out HUP.out ?_; intro g2 p2 d2 w4 k1 k2 k3)
      have hbg := (Below.refl w.heap.size (wr.alloc (.cells #[.int .i64 6, .int .i64 y.num, .string y.text, .slice y.A U y.cap] 41))).grown k2 HBW.out (fun k hk => by simp at hk; subst hk; exact hgw)
      have hq4 := HQT.out.append (HM0.out.trans hUU.symm |>.trans rfl) (fun i hi => ((HMIN.out i hi).below HBA.out (fun _ h => Nat.lt_of_lt_of_le h HBR.out)).more (Nat.le_succ n)) (hbg.mono hB) (by rw [List.length_append, HM0.out, flat_append]; exact k1)
      have HQ4 := Lib.hid hq4
      have HB4 := Lib.hid (HB.out.trans (hbg.mono (Nat.le_refl _)))
      have hle : (l ++ m).length = l.length + U := by rw [List.length_append, HM0.out]
      rw [← hle]
      clear hbg hq4 k1 k2 k3
      go_wp2_with fail
      go_roundg (Pt.sizes (vr ++ u0 :: ur))
      case measure => rw [HGK.out]; exact sizes_less2 _ _ _
      case rel => exact ⟨_, _, l ++ m, vr ++ u0 :: ur, k, rfl, few_more HFEW.out, rfl, rfl, by have := HSUM.out; simp only [Pt.bns, bn_make] at this; rw [bns_append]; simp only [Pt.bns]; omega, HQ4.out, HB4.out⟩
end Go.Proofs.Ythglcnodoophaaa
