
/-
  cache: the functions' table asked (find); what lies in a cache's memory.
-/
import Derived.Test.YtdjahlkjfpbifaaWaDI
import Derived.Test.YtdjahlkjfpbifaaImRow
import Derived.Deep.CutBlock
import Derived.Deep.DeepCutAuto
import Derived.Deep.RegionHeld3
namespace Go.Proofs.Ytdjahlkjfpbifaa
open Go.RowKit Go.Maps Go.WideMaps

theorem im_drop (ims : List Im) (n t : ByteArray) (k : Nat) (hk : k < ims.length) (K : Int) : idxAt (isIm n t) (ims.drop k) K = if isIm n t (ims.getD k im0) then K else idxAt (isIm n t) (ims.drop (k + 1)) (K + 1) :=
  idxAt_drop (isIm n t) ims im0 k hk K

set_option maxRecDepth 100000 in
set_option maxHeartbeats 1000000 in
theorem find_any (gk : Nat) (AI : Option Addr) (cI : Nat) (ims : List Im) (mv hv sv : Value) (n t : ByteArray) (w : World) (hb : Box w gk 174 #[.slice AI ims.length cI, mv, hv, sv]) (hr : Row w w.heap.size AI (flat imC ims)) (hm : ims.length ≤ maxLen) :
    Calls Try.prog 88 #[.pointer (some ⟨gk, 0, none⟩), .string n, .string t] w fun e w' => e = .returned (.tuple #[.int .i64 (if 0 ≤ imAt ims n t then (ims.getD (imAt ims n t).toNat im0).fn else 0), .bool (decide (0 ≤ imAt ims n t))]) ∧ Below w.heap.size w w' := by
  have HR := Lib.hid hr
  have k0 : w.cell? ⟨gk, 0, none⟩ = some (.slice AI ims.length cI) := hb.cell 0
  obtain ⟨R, hR⟩ : ∃ R, imAt ims n t = R := ⟨_, rfl⟩
  rw [hR]
  obtain ⟨V, hV⟩ : ∃ V, (if 0 ≤ R then (ims.getD R.toNat im0).fn else 0) = V := ⟨_, rfl⟩
  obtain ⟨D, hD⟩ : ∃ D, decide (0 ≤ R) = D := ⟨_, rfl⟩
  rw [hV, hD]
  have HV := Lib.hid hV
  have HD := Lib.hid hD
  clear hV hD
  have HI := Lib.hid hR
  unfold imAt at HI
  unfold maxLen at hm
  clear hr hb hR
  go_enter Try.func88, Try.ntmps88
  go_wp2_with fail
  go_loopg [15] ims.length (fun gk' i wr => ∃ k : Nat, gk' = ims.length - k ∧ k ≤ ims.length ∧ i = .int .i64 k ∧ idxAt (isIm n t) ims 0 = idxAt (isIm n t) (ims.drop k) k ∧ Below w.heap.size w wr)
  case atStart => exact ⟨0, by omega, by omega, rfl, rfl, Below.refl _ _⟩
  case round =>
    obtain ⟨k, hgk, hk, rfl, hi, hb⟩ := hrel
    have HG := Lib.hid hgk
    have HIK := Lib.hid hi
    clear hgk hi
    by_cases hlt : k < ims.length
    · obtain ⟨p1, o1, rfl, _, hc0, hc1, hc2⟩ := (HR.out.below hb).im hlt im0
      have HID := Lib.hid (im_drop ims n t k hlt k)
      have HX := Lib.hid (rfl : ims.getD k im0 = ims.getD k im0)
      obtain ⟨x, hx⟩ : ∃ x, ims.getD k im0 = x := ⟨_, rfl⟩
      rw [hx] at hc0 hc1 hc2 HID
      have HXX := Lib.hid hx
      have HB1 := Lib.hid (fun o => hb.alloc hb.size o)
      clear hx HX
      obtain ⟨Q, hQ⟩ : ∃ Q, isIm n t x = Q := ⟨_, rfl⟩
      rw [hQ] at HID
      unfold isIm at hQ
      cases hq : (x.name.toList == n.toList) with
      | false =>
        have hQ' : Q = false := by rw [← hQ, hq]; rfl
        subst hQ'
        clear hQ
        go_wp2_with fail
        go_roundg (ims.length - (k + 1))
        case measure => have := HG.out; omega
        case rel => exact ⟨k + 1, rfl, by omega, by go_num, by rw [HIK.out, HID.out]; rfl, HB1.out _⟩
      | true =>
        cases hq2 : (x.typ.toList == t.toList) with
        | false =>
          have hQ' : Q = false := by rw [← hQ, hq, hq2]; rfl
          subst hQ'
          clear hQ
          go_wp2_with fail
          go_roundg (ims.length - (k + 1))
          case measure => have := HG.out; omega
          case rel => exact ⟨k + 1, rfl, by omega, by go_num, by rw [HIK.out, HID.out]; rfl, HB1.out _⟩
        | true =>
          have hQ' : Q = true := by rw [← hQ, hq, hq2]; rfl
          subst hQ'
          clear hQ
          have HRE := Lib.hid (show R = (k : Int) by rw [← HI.out, HIK.out, HID.out]; rfl)
          have hv : V = x.fn := by rw [← HV.out, HRE.out, if_pos (by omega), Int.toNat_natCast, HXX.out]
          have hd : D = true := by rw [← HD.out, HRE.out]; exact decide_eq_true (by omega)
          subst hv hd
          go_wp2_with fail
          go_ret2
          exact ⟨rfl, HB1.out _⟩
    · obtain rfl : k = ims.length := by omega
      have HRE := Lib.hid (show R = -1 by rw [← HI.out, HIK.out, List.drop_length]; rfl)
      have hv : V = 0 := by rw [← HV.out, HRE.out, if_neg (by decide)]
      have hd : D = false := by rw [← HD.out, HRE.out]; rfl
      subst hv hd
      go_wp2_with fail
      go_ret2
      exact ⟨rfl, hb⟩

theorem enters_look1 : Enters 86 := fun _ _ => by kernel_rfl
theorem enters_cache1 : Enters 32 := fun _ _ => by kernel_rfl
theorem enters_cache2 : Enters 34 := fun _ _ => by kernel_rfl
theorem look1_any (x : Wa) (t : ByteArray) (g : Nat) (w : World) (hg : w.cell? ⟨g, 0, none⟩ = some (.string t)) (hl : g < w.heap.size) : Calls Try.prog 86 #[waV x, .pointer (some ⟨g, 0, none⟩)] w fun e w' => e = .returned (.bool (isTag t x)) ∧ Below w.heap.size w w' := by
  have HB := Lib.hid (show ∀ o, Below w.heap.size w (w.alloc o) from fun o => (Below.refl _ _).alloc (Nat.le_refl _) _)
  unfold waV isTag
  go_enter Try.func86, Try.ntmps86
  go_wp2_with fail
  go_ret
  exact ⟨rfl, HB.out _⟩
theorem cache1_any (x : Wa) (t : ByteArray) (g : Nat) (w : World) (hg : w.cell? ⟨g, 0, none⟩ = some (.string t)) (hl : g < w.heap.size) : Calls Try.prog 32 #[waV x, .pointer (some ⟨g, 0, none⟩)] w fun e w' => e = .returned (.bool (isTag t x)) ∧ Below w.heap.size w w' := by
  have HB := Lib.hid (show ∀ o, Below w.heap.size w (w.alloc o) from fun o => (Below.refl _ _).alloc (Nat.le_refl _) _)
  unfold waV isTag
  go_enter Try.func32, Try.ntmps32
  go_wp2_with fail
  go_ret
  exact ⟨rfl, HB.out _⟩
theorem cache2_any (x : Im) (n t : ByteArray) (g g' : Nat) (w : World) (hg : w.cell? ⟨g, 0, none⟩ = some (.string n)) (hl : g < w.heap.size) (hg' : w.cell? ⟨g', 0, none⟩ = some (.string t)) (hl' : g' < w.heap.size) : Calls Try.prog 34 #[imV x, .pointer (some ⟨g, 0, none⟩), .pointer (some ⟨g', 0, none⟩)] w fun e w' => e = .returned (.bool (isIm n t x)) ∧ Below w.heap.size w w' := by
  have HB := Lib.hid (show ∀ o, Below w.heap.size w (w.alloc o) from fun o => (Below.refl _ _).alloc (Nat.le_refl _) _)
  unfold imV isIm
  cases hq : (x.name.toList == n.toList)
  all_goals (
    go_enter Try.func34, Try.ntmps34
    go_wp2_with fail
    go_ret
    exact ⟨by simp, HB.out _⟩)
end Go.Proofs.Ytdjahlkjfpbifaa
