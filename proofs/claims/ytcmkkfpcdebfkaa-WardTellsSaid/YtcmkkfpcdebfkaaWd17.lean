/-
  Plans compared one by one.
-/
import Derived.Test.YtcmkkfpcdebfkaaWd16
namespace Go.Proofs.Ytcmkkfpcdebfkaa
open Go.RowKit

theorem enters_samePlan : ∀ args w, (callFunc 123 args).run Try.prog w = .ok (.enter 123 args) w := fun _ _ => by kernel_rfl
set_option maxRecDepth 100000 in
set_option maxHeartbeats 4000000 in
theorem samePlans_t (C C' : Option Addr) (kc kc' : Nat) (outs outs' : List (PA × PlV)) (base base' : Nat) (W : World) (h : Plans W base C kc outs) (h' : Plans W base' C' kc' outs') (he : outs.map (·.2) = outs'.map (·.2)) :
    Calls Try.prog 125 #[.slice C outs.length kc, .slice C' outs'.length kc', .func (.func 123) #[] #[]] W fun e w' => e = .returned (.bool true) ∧ Below W.heap.size W w' := by
  have HP := Lib.hid h
  have HP' := Lib.hid h'
  have hl : outs.length = outs'.length := by
    have := congrArg List.length he
    simpa using this
  have HG := Lib.hid (fun k (hk : k < outs.length) => show (outs'.getD k (⟨none, 0, none, 0⟩, [], [], false)).2 = (outs.getD k (⟨none, 0, none, 0⟩, [], [], false)).2 from by
    have h1 := congrArg (fun l : List PlV => l[k]?) he
    rw [List.getElem?_map, List.getElem?_map, getD_some (⟨none, 0, none, 0⟩, [], [], false) hk, getD_some (⟨none, 0, none, 0⟩, [], [], false) (show k < outs'.length by omega)] at h1
    injection h1 with h1
    exact h1.symm)
  have hc1 := h.row.cap_le
  have hc2 := h'.row.cap_le
  unfold maxLen at hc1 hc2
  have hent := enters_samePlan
  rw [← hl]
  have b1 : ((outs.length : Int) != (outs.length : Int)) = false := by simp
  have HL := Lib.hid hl
  clear h h' he hl
  go_enter Try.func125, Try.ntmps125
  go_wp2_with fail
  go_loopg [17] outs.length (fun gk i wr => ∃ k : Nat, gk = outs.length - k ∧ k ≤ outs.length ∧ i = .int .i64 k ∧ Below W.heap.size W wr)
  case atStart => exact ⟨0, by omega, by omega, rfl, Below.refl _ _⟩
  case round =>
    obtain ⟨k, hgk, hk, rfl, hb⟩ := hrel
    have HK := Lib.hid hgk
    have HB := Lib.hid hb
    clear hgk hb
    rcases Nat.eq_or_lt_of_le hk with rfl | hlt
    · have e1 : decide ((outs.length : Int) < (outs.length : Int)) = false := decide_eq_false (by omega)
      go_wp2_with fail
      go_ret
      exact ⟨rfl, HB.out⟩
    · have e1 : decide ((k : Int) < (outs.length : Int)) = true := decide_eq_true (by omega)
      have e1' : decide (k < outs.length) = true := decide_eq_true hlt
      have hlt' : k < outs'.length := by rw [← HL.out]; exact hlt
      have HPr := Lib.hid (HP.out.below HB.out)
      have HPr' := Lib.hid (HP'.out.below HB.out)
      obtain ⟨bC, oC, rfl, hbC, f0, f1, f2⟩ := HPr.out.row.row.pn hlt (⟨none, 0, none, 0⟩, [], [], false)
      have HY := Lib.hid (HPr.out.each _ (getD_mem (⟨none, 0, none, 0⟩, [], [], false) hlt))
      have HZ := Lib.hid (HPr'.out.each _ (getD_mem (⟨none, 0, none, 0⟩, [], [], false) hlt'))
      have hgz := HG.out k hlt
      obtain ⟨bD, oD, hD⟩ : ∃ b o, C' = some ⟨b, o, none⟩ := by
        obtain ⟨b, o, e, _⟩ := HPr'.out.row.row.pn hlt' (⟨none, 0, none, 0⟩, [], [], false)
        exact ⟨b, o, e⟩
      have HZR := Lib.hid (fun w (hw : Below wr.heap.size wr w) => (HPr'.out.below hw).row.row.pn hlt' (⟨none, 0, none, 0⟩, [], [], false))
      generalize outs.getD k (⟨none, 0, none, 0⟩, [], [], false) = y at *
      generalize outs'.getD k (⟨none, 0, none, 0⟩, [], [], false) = z at *
      have HGZ := Lib.hid hgz
      subst hD
      have HBN := Lib.hid (Box.new wr 220 zP)
      clear hgz hk
      go_upto_region 6 with (guard_target =~ wpList _ _ _ ({ dst := none, op := _, type := _, pos := _, after := _, guard := _ } :: _) _ _; refine wpList_store_box rfl 220 (.tmp 8) (.tmp 21) rfl wr.heap.size rfl zP #[.slice y.1.C y.2.1.length y.1.k, .slice y.1.D y.2.2.1.length y.1.l, .bool y.2.2.2] rfl HBN rfl (by rw [plan_info]; rfl) (by simp [Value.oneCell']) ?_; intro w5 hs5)
      have hb5 := hs5.out.only.to_below ((Below.refl wr.heap.size wr).alloc (Nat.le_refl _) (.cells zP 220)) (by simp) (fun i hi => by omega)
      have HB5 := Lib.hid hb5
      have HX5 := Lib.hid hs5.out.box
      obtain ⟨b', o', e', hbD, g0, g1, g2⟩ := HZR.out w5 hb5
      obtain ⟨rfl, rfl⟩ : bD = b' ∧ oD = o' := by simp at e'; exact e'
      have hs5s : wr.heap.size < w5.heap.size := hs5.out.box.lt
      clear hb5 hs5 f0 f1 f2 e'
      have HBN2 := Lib.hid (Box.new w5 220 zP)
      go_upto_region 7 with (guard_target =~ wpList _ _ _ ({ dst := none, op := _, type := _, pos := _, after := _, guard := _ } :: _) _ _; refine wpList_store_box rfl 220 (.tmp 9) (.tmp 25) rfl w5.heap.size rfl zP #[.slice z.1.C z.2.1.length z.1.k, .slice z.1.D z.2.2.1.length z.1.l, .bool z.2.2.2] rfl HBN2 rfl (by rw [plan_info]; rfl) (by simp [Value.oneCell']) ?_; intro w6 hs6)
      have hb6 := hs6.out.only.to_below ((Below.refl w5.heap.size w5).alloc (Nat.le_refl _) (.cells zP 220)) (by simp) (fun i hi => by omega)
      have HX6 := Lib.hid (HX5.out.below hb6 hs5s)
      have HX7 := Lib.hid hs6.out.box
      have HB6 := Lib.hid (HB5.out.trans (hb6.mono HB5.out.size))
      have HPY := Lib.hid (HY.out.pin.below HB6.out)
      have HPZ := Lib.hid (HZ.out.pin.below HB6.out)
      rw [HGZ.out] at HPZ
      clear hb6 hs6 g0 g1 g2
      go_wp2_with (first | (guard_target =~ wpList _ _ _ ({ dst := some 27, op := _, type := _, pos := _, after := _, guard := _ } :: _) _ _; refine wpList_load_box rfl 220 (.tmp 8) rfl wr.heap.size rfl #[.slice y.1.C y.2.1.length y.1.k, .slice y.1.D y.2.2.1.length y.1.l, .bool y.2.2.2] _ HX6 Try.underlying220 rfl (by rw [plan_info]; rfl) ?_) | (guard_target =~ wpList _ _ _ ({ dst := some 28, op := _, type := _, pos := _, after := _, guard := _ } :: _) _ _; refine wpList_load_box rfl 220 (.tmp 9) rfl w5.heap.size rfl #[.slice z.1.C z.2.1.length z.1.k, .slice z.1.D z.2.2.1.length z.1.l, .bool z.2.2.2] _ HX7 Try.underlying220 rfl (by rw [plan_info]; rfl) ?_))
      rw [HGZ.out]
      refine (samePlan_t y.1 z.1 y.2 w6 HPY.out HPZ.out).mono ?_
      rintro e w7 ⟨rfl, hb7⟩
      have HB7 := Lib.hid (HB.out.trans ((HB6.out.mono HB.out.size).trans (hb7.mono (by have := HB.out.size; have := HB6.out.size; omega))))
      clear hb7
      go_wp2_with fail
      go_roundg (outs.length - (k + 1))
      case measure => have := HK.out; omega
      case rel => exact ⟨k + 1, rfl, by omega, by go_num, HB7.out⟩
end Go.Proofs.Ytcmkkfpcdebfkaa
