/-
  sameArms: two rows of arms that read alike are the same.
-/
import Derived.Test.YtlnjapbpfhcloaaAr2
import Derived.Test.YtlnjapbpfhcloaaEqual
namespace Go.Proofs.Ytlnjapbpfhcloaa
open Go.RowKit

theorem RowS.rowW {w : World} {A : Option Addr} {xs : List Value} (h : RowS w (· < w.heap.size) A xs) : Row w w.heap.size A xs := h

set_option maxRecDepth 100000 in
set_option maxHeartbeats 1000000 in
theorem armEq (y y' : ArC) (v : ArV) (w : World) (h : ArElem w (· < w.heap.size) y v) (h' : ArElem w (· < w.heap.size) y' v) (hl : v.2.length ≤ 1000) :
    Calls Try.prog 75 #[.agg #[.int .i64 y.pc, .slice y.A y.len y.cap], .agg #[.int .i64 y'.pc, .slice y'.A y'.len y'.cap]] w fun e w' => e = .returned (.bool true) ∧ Below w.heap.size w w' := by
  obtain ⟨a1, a2, a3⟩ := h
  obtain ⟨b1, b2, b3⟩ := h'
  obtain ⟨pc, A, len, cap⟩ := y
  obtain ⟨pc', A', len', cap'⟩ := y'
  obtain ⟨p, xs⟩ := v
  simp only at a1 a2 a3 b1 b2 b3 hl
  subst a1 a2 b1 b2
  have hb : Below w.heap.size w ((w.alloc (.cells #[.int .i64 pc', .slice A xs.length cap] 147)).alloc (.cells #[.int .i64 pc', .slice A' xs.length cap'] 147)) := ((Below.refl _ _).alloc (Nat.le_refl _) _).alloc (by simp) _
  have HE := Lib.hid (equal_any A A' cap cap' xs xs _ _ _ (a3.rowW.below hb) (b3.rowW.below hb) (by unfold maxLen; omega) (by unfold maxLen; omega))
  have HB := Lib.hid hb
  clear a3 b3 hb
  go_enter Try.func75, Try.ntmps75
  go_wp2_with fail
  refine HE.out.mono ?_
  rintro e w1 ⟨rfl, nq, rfl⟩
  simp only [decide_true]
  go_wp2_with fail
  go_ret
  exact ⟨rfl, below_drewN HB.out nq⟩

set_option maxRecDepth 100000 in
set_option maxHeartbeats 1000000 in
theorem armsFunc_same (A A' : Option Addr) (c c' : Nat) (l l' : List ArC) (vs : List ArV) (w : World) (h : Arms w A l vs) (h' : Arms w A' l' vs) (hn : vs.length ≤ 1000) (hv : ∀ i, i < vs.length → (vs.getD i arv0).2.length ≤ 1000) :
    Calls Try.prog 74 #[.slice A l.length c, .slice A' l'.length c', .func (.func 75) #[] #[]] w fun e w' => e = .returned (.bool true) ∧ Below w.heap.size w w' := by
  have he : ∀ args w, (callFunc 75 args).run Try.prog w = .ok (.enter 75 args) w := fun _ _ => by kernel_rfl
  have h1 := h.1
  have h1' := h'.1
  have HH := Lib.hid h
  have HH' := Lib.hid h'
  rw [h1, h1']
  clear h h'
  go_enter Try.func74, Try.ntmps74
  go_wp2_with fail
  go_loopg [17] vs.length (fun gk i wr => ∃ k : Nat, gk = vs.length - k ∧ k ≤ vs.length ∧ i = .int .i64 k ∧ Below w.heap.size w wr)
  case atStart => exact ⟨0, by omega, by omega, rfl, Below.refl _ _⟩
  case round =>
    obtain ⟨k, hgk, hk, rfl, hb⟩ := hrel
    have HK := Lib.hid hgk
    clear hgk
    by_cases hlt : k < vs.length
    · have hw := HH.out.below hb
      have hw' := HH'.out.below hb
      obtain ⟨b, o, rfl, hbl, hc0, hc1⟩ := hw.2.1.ar (show k < l.length by omega) arc0
      obtain ⟨b2, o2, rfl, hbl2, hd0, hd1⟩ := hw'.2.1.ar (show k < l'.length by omega) arc0
      have e1 := hw.2.2 k (by omega)
      have e2 := hw'.2.2 k (by omega)
      have hvk := hv k hlt
      generalize l.getD k arc0 = y at *
      generalize l'.getD k arc0 = y' at *
      generalize vs.getD k arv0 = v at *
      have hbA : Below wr.heap.size wr ((wr.alloc (.cells #[.int .i64 y.pc, .slice y.A y.len y.cap] 147)).alloc (.cells #[.int .i64 y'.pc, .slice y'.A y'.len y'.cap] 147)) := ((Below.refl _ _).alloc (Nat.le_refl _) _).alloc (by simp) _
      have kp : ∀ z : ArC, ArElem wr (· < wr.heap.size) z v → ArElem ((wr.alloc (.cells #[.int .i64 y.pc, .slice y.A y.len y.cap] 147)).alloc (.cells #[.int .i64 y'.pc, .slice y'.A y'.len y'.cap] 147)) (· < ((wr.alloc (.cells #[.int .i64 y.pc, .slice y.A y.len y.cap] 147)).alloc (.cells #[.int .i64 y'.pc, .slice y'.A y'.len y'.cap] 147)).heap.size) z v := fun z hz => hz.keep (fun _ hp _ => hbA.cell hp) fun _ hb' _ => Nat.lt_of_lt_of_le hb' hbA.size
      have HF := Lib.hid (armEq y y' v _ (kp y e1) (kp y' e2) hvk)
      have HB := Lib.hid (hb.trans (hbA.mono hb.size))
      have hbw2 : b2 < wr.heap.size := hbl2
      clear hb hbA kp e1 e2 hvk hw hw'
      go_wp2_with fail
      refine HF.out.mono ?_
      rintro e w5 ⟨rfl, hb5⟩
      have HB5 := Lib.hid (HB.out.trans (hb5.mono HB.out.size))
      clear hb5
      go_wp2_with fail
      go_roundg (vs.length - (k + 1))
      case measure => have := HK.out; omega
      case rel => exact ⟨k + 1, rfl, by omega, by go_num, HB5.out⟩
    · clear HK
      go_wp2_with fail
      go_ret
      exact ⟨rfl, hb⟩

theorem sameArms_same (A A' : Option Addr) (c c' : Nat) (l l' : List ArC) (vs : List ArV) (w : World) (h : Arms w A l vs) (h' : Arms w A' l' vs) (hn : vs.length ≤ 1000) (hv : ∀ i, i < vs.length → (vs.getD i arv0).2.length ≤ 1000) :
    Calls Try.prog 14 #[.slice A l.length c, .slice A' l'.length c'] w fun e w' => e = .returned (.bool true) ∧ Below w.heap.size w w' := by
  have HC := Lib.hid (armsFunc_same A A' c c' l l' vs w h h' hn hv)
  clear h h'
  go_enter Try.func14, Try.ntmps14
  go_wp2_with fail
  refine HC.out.mono ?_
  rintro e w1 ⟨rfl, hb⟩
  go_wp2_with fail
  go_ret
  exact ⟨rfl, hb⟩
end Go.Proofs.Ytlnjapbpfhcloaa
