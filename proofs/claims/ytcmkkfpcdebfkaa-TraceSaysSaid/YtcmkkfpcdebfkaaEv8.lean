/-
  Histories: the walk of clock.Numbers.
-/
import Derived.Test.YtcmkkfpcdebfkaaEv7
namespace Go.Proofs.Ytcmkkfpcdebfkaa
open Go.RowKit Go.Maps

/-- An event list that came in. -/
structure EvIn (w : World) (A : Option Addr) (c : Nat) (l : List Ev) : Prop where
  row : Row w w.heap.size A (flat evC l)
  le : l.length ≤ c
  cap : c ≤ maxLen
  wf : ∀ x ∈ l, I64 x.2.2
theorem EvIn.below {w w' : World} {A : Option Addr} {c : Nat} {l : List Ev} (h : EvIn w A c l) (hb : Below w.heap.size w w') : EvIn w' A c l := ⟨(h.row.below hb).more hb.size, h.le, h.cap, h.wf⟩
theorem EvIn.check {w : World} {A : Option Addr} {c : Nat} {l : List Ev} (h : EvIn w A c l) :
    Calls Try.prog 74 #[.slice A l.length c] w fun e w' => e = .returned (.int .i64 (history l)) ∧ Below w.heap.size w w' :=
  checkE_any A c l w h.row (by have := h.le; have := h.cap; omega) h.wf

set_option maxHeartbeats 400000 in
theorem numbers_bad (A : Option Addr) (c : Nat) (l : List Ev) (W : World) (h : EvIn W A c l) (hbad : history l ≠ 0) :
    Calls Try.prog 72 #[.slice A l.length c] W fun e w' => e = .returned (.tuple #[.slice none 0 0, .int .i64 (history l)]) ∧ Below W.heap.size W w' := by
  have HC := Lib.hid h.check
  have q1 : (history l != 0) = true := by rw [bne_iff_ne]; exact hbad
  generalize history l = e0 at *
  clear h hbad
  go_enter Try.func72, Try.ntmps72
  go_wp2_with fail
  refine HC.out.mono ?_
  rintro e w1 ⟨rfl, hb⟩
  have HB := Lib.hid hb
  clear hb
  go_wp2_with fail
  go_ret2
  exact ⟨rfl, HB.out⟩

set_option maxRecDepth 100000 in
set_option maxHeartbeats 4000000 in
theorem numbers_ok (A : Option Addr) (c : Nat) (l : List Ev) (W : World) (h : EvIn W A c l) (h0 : history l = 0) :
    Calls Try.prog 72 #[.slice A l.length c] W fun e w' => ∃ v, e = .returned (.tuple #[v, .int .i64 0]) ∧ w'.ownsRow W.heap.size 3 1 v (nv l.length (num l)).length (ints (nv l.length (num l))) ∧ Below W.heap.size W w' := by
  have hmk := @run_makeMap Try.prog
  have hl200 := (hist_good h0).1
  have HG := Lib.hid (hist_good h0).2
  have hck := h.check
  rw [h0] at hck
  have HC := Lib.hid hck
  have HR := Lib.hid h.row
  clear h h0 hck
  go_enter Try.func72, Try.ntmps72
  go_wp2_with fail
  refine HC.out.mono ?_
  rintro e w1 ⟨rfl, hb⟩
  have HST := Lib.hid (show NumSt l W ((w1.alloc (.map #[] 0)).alloc (.map #[] 0)) w1.heap.size (w1.heap.size + 1) 0 (.slice none 0 0) by
    have hm := MapV.made (f := intL) (P := Try.prog) (k := 3) (w1.alloc (.map #[] 0))
    rw [show (w1.alloc (.map #[] 0)).heap.size = w1.heap.size + 1 by simp] at hm
    refine ⟨⟨_, (MapV.made w1).alloc _, fun p => ?_⟩, ⟨_, hm, fun p => ?_⟩, World.ownsRow_nil _ _ _ _, (hb.alloc hb.size _).alloc (by have := hb.size; simp; omega) _, by have := hb.size; omega⟩
    · rw [mx_none (fun j _ h => by obtain ⟨k, hk, _⟩ := h; omega)]; rfl
    · rw [mx_none (fun j _ h => by obtain ⟨k, hk, _⟩ := h; omega)]; rfl)
  clear hb
  go_wp2_with fail
  clear hmk
  generalize w1.heap.size = g1 at *
  generalize (w1.alloc (.map #[] 0)).alloc (.map #[] 0) = w2 at *
  go_loopg [7, 20] l.length (fun gk v i wr => ∃ (k : Nat), gk = l.length - k ∧ k ≤ l.length ∧ i = .int .i64 k ∧ NumSt l W wr g1 (g1 + 1) k v)
  case atStart => exact ⟨0, by omega, by omega, rfl, HST.out⟩
  case round =>
    clear HST HC
    obtain ⟨k, hgk, hk, rfl, hst⟩ := hrel
    have HK := Lib.hid hgk
    clear hgk
    by_cases hlt : k < l.length
    · obtain ⟨b, o, hA, hbl, hc0, hc1, hc2⟩ := (HR.out.below hst.bel).ev hlt (0, 0, 0)
      have hgood := HG.out k hlt
      have HE := Lib.hid (show evAt l k = l.getD k (0, 0, 0) from rfl)
      have hp := hgood.place
      have hkd := hgood.kind
      have hmg := hgood.msg
      have hg1l : g1 + 1 < wr.heap.size := by obtain ⟨F, hF, _⟩ := hst.m2; exact hF.lt
      have hst1 := fun ob => hst.alloc ob
      have HST := Lib.hid hst1
      have hlook := fun x hx ob => (hst.alloc ob).look (x := x) hx
      have HLK := Lib.hid hlook
      have HGD := Lib.hid hgood
      have HSTEP := Lib.hid (num_step (l := l) (i := k) (n := l.length) (by omega))
      have hnl := num_le (l := l) k
      rw [HE.out] at hp hkd hmg
      have hsz := hst.bel.size
      clear hst hst1 hlook hgood
      generalize hy : l.getD k (0, 0, 0) = y at *
      clear hy
      obtain ⟨ep, ek, em⟩ := y
      dsimp only at hc0 hc1 hc2 hp hkd hmg
      subst hA
      have l1 := (HLK.out ep (by unfold I64; omega) (.cells #[.int .i64 ep, .int .i64 ek, .int .i64 em] 146)).1
      generalize hv1 : mx (num l) (Lst l k ep) l.length = a at *
      have hml : mx (num l) (Lst l k ep) l.length ≤ 200 := mx_bound fun j hj => by have := num_le (l := l) j; omega
      have hms : mx (num l) (Snd l k em) l.length ≤ 200 := mx_bound fun j hj => by have := num_le (l := l) j; omega
      rw [hv1] at hml
      generalize hv2 : mx (num l) (Snd l k em) l.length = a2 at *
      have HV1 := Lib.hid hv1
      have HV2 := Lib.hid hv2
      have HVS := Lib.hid (show num l k = max a (if ek = 3 then a2 else 0) + 1 by rw [HSTEP.out, HE.out]; dsimp only; rw [hv1, hv2])
      clear hv1 hv2
      go_upto_if 30 with fail
      have HST3 := Lib.hid (HST.out (.cells #[.int .i64 ep, .int .i64 ek, .int .i64 em] 146))
      have l2 := fun hx => (HLK.out em hx (.cells #[.int .i64 ep, .int .i64 ek, .int .i64 em] 146)).2
      rw [HV2.out] at l2
      have L2 := Lib.hid l2
      have hbx := Box.new wr 146 #[.int .i64 ep, .int .i64 ek, .int .i64 em]
      clear l1 l2 hc0 hc1 hc2 HLK HST
      generalize wr.heap.size = ge at *
      generalize wr.alloc (.cells #[.int .i64 ep, .int .i64 ek, .int .i64 em] 146) = w3 at *
      have c0 := hbx.cell 0
      have c1 := hbx.cell 1
      have c2 := hbx.cell 2
      simp only [List.getElem?_toArray, List.getElem?_cons_zero, List.getElem?_cons_succ] at c0 c1 c2
      have HBX := Lib.hid hbx
      clear hbx
      obtain ⟨v0, hv0⟩ : ∃ v0, num l k = v0 + 1 := ⟨_, HVS.out⟩
      have HV0 := Lib.hid hv0
      have hv200 : v0 ≤ 200 := by omega
      clear hnl hv0
      go_cut [10] (fun v wx => v = .int .i64 (v0 : Int) ∧ w3 = wx)
      case first =>
        by_cases k3 : ek = 3
        · have q3 : (ek == 3) = true := by rw [beq_iff_eq]; exact k3
          have l2 := L2.out (by unfold I64; omega)
          by_cases hab : a < a2
          · have d1 : decide ((a : Int) < (a2 : Int)) = true := decide_eq_true (by omega)
            have d2 : decide (a < a2) = true := decide_eq_true hab
            have HEQ := Lib.hid (show v0 = a2 by have := HVS.out; rw [HV0.out, if_pos k3, Nat.max_eq_right (by omega)] at this; omega)
            clear k3
            go_wp2_with fail
            go_meet
            exact ⟨by rw [HEQ.out], rfl⟩
          · have d1 : decide ((a : Int) < (a2 : Int)) = false := decide_eq_false (by omega)
            have d2 : decide (a < a2) = false := decide_eq_false hab
            have HEQ := Lib.hid (show v0 = a by have := HVS.out; rw [HV0.out, if_pos k3, Nat.max_eq_left (by omega)] at this; omega)
            clear k3
            go_wp2_with fail
            go_meet
            exact ⟨by rw [HEQ.out], rfl⟩
        · have q3 : (ek == 3) = false := by rw [beq_eq_false_iff_ne]; exact k3
          have HEQ := Lib.hid (show v0 = a by have := HVS.out; rw [HV0.out, if_neg k3, Nat.max_eq_left (by omega)] at this; omega)
          clear k3
          go_wp2_with fail
          go_meet
          exact ⟨by rw [HEQ.out], rfl⟩
      case rest =>
        obtain ⟨rfl, rfl⟩ := hcut
        have hnv : ((num l k : Nat) : Int) = (v0 : Int) + 1 := by rw [HV0.out]; rfl
        have hnl : (nv k (num l)).length = k := nv_len
        have HNL := Lib.hid hnl
        clear hnl
        by_cases k2 : ek = 2
        · have q2 : (ek == 2) = true := by rw [beq_iff_eq]; exact k2
          have hput := HST3.out.put2 hlt hl200 HGD.out (by rw [HE.out]; exact k2)
          rw [hnv, HE.out] at hput
          obtain ⟨w4, r4, hg4, w5, r5, hp⟩ := hput
          dsimp only at r4 r5
          have hbx := HBX.out.grown hg4 (by simp; omega)
          have e0 := hbx.cell 0
          have e1 := hbx.cell 1
          have e2 := hbx.cell 2
          simp only [List.getElem?_toArray, List.getElem?_cons_zero, List.getElem?_cons_succ] at e0 e1 e2
          have HP := Lib.hid hp
          have hown := hp.out
          have HB := Lib.hid hp.bel
          have HSZ := Lib.hid (show W.heap.size ≤ w5.heap.size from hp.bel.size)
          have HNV := Lib.hid hnv
          clear hp hnv k2 HST3 hg4 hbx
          go_wp2_with (at_builtin; refine wpList_push rfl (.tmp 50) (.tmp 52) rfl W.heap.size _ (nv k (num l)) rfl (hown.alloc _) w5.heap.size ((v0 : Int) + 1) rfl ((Box.new _ _ _).cell 0) (by rw [HNL.out]; omega) (Nat.le_trans HSZ.out (by simp)) ?_; intro v' w6 hown' hg')
          have HNEXT := Lib.hid (HP.out.step (by rw [HNV.out]; exact hown') _ hg')
          clear hown' hg'
          go_roundg (l.length - (k + 1))
          case measure => have := HK.out; omega
          case rel => exact ⟨k + 1, rfl, by omega, by go_num, HNEXT.out⟩
        · have q2 : (ek == 2) = false := by rw [beq_eq_false_iff_ne]; exact k2
          have hput := HST3.out.put1 hlt hl200 HGD.out (by rw [HE.out]; exact k2)
          rw [hnv, HE.out] at hput
          obtain ⟨w5, r5, hp⟩ := hput
          dsimp only at r5
          have HP := Lib.hid hp
          have hown := hp.out
          have HB := Lib.hid hp.bel
          have HSZ := Lib.hid (show W.heap.size ≤ w5.heap.size from hp.bel.size)
          have HNV := Lib.hid hnv
          clear hp hnv k2 HST3
          go_wp2_with (at_builtin; refine wpList_push rfl (.tmp 50) (.tmp 52) rfl W.heap.size _ (nv k (num l)) rfl (hown.alloc _) w5.heap.size ((v0 : Int) + 1) rfl ((Box.new _ _ _).cell 0) (by rw [HNL.out]; omega) (Nat.le_trans HSZ.out (by simp)) ?_; intro v' w6 hown' hg')
          have HNEXT := Lib.hid (HP.out.step (by rw [HNV.out]; exact hown') _ hg')
          clear hown' hg'
          go_roundg (l.length - (k + 1))
          case measure => have := HK.out; omega
          case rel => exact ⟨k + 1, rfl, by omega, by go_num, HNEXT.out⟩
    · obtain rfl : k = l.length := by omega
      have HST := Lib.hid hst
      clear hst
      go_wp2_with fail
      go_ret2
      exact ⟨_, rfl, HST.out.out, HST.out.bel⟩
end Go.Proofs.Ytcmkkfpcdebfkaa
