
/-
  What the law asks beside: rows compared, the garbage of three records.
-/
import Derived.Test.YtbhdagjilmgahaaKn9
namespace Go.Proofs.Ytbhdagjilmgahaa
open Go.RowKit

theorem Row.z {w : World} {B : Nat} {A : Option Addr} {l : List SlZ} (h : Row w B A (flat slZ l)) {i : Nat} (hi : i < l.length) :
    ∃ b o, A = some ⟨b, o, none⟩ ∧ b < B ∧ w.cell? ⟨b, o + i, none⟩ = some (.slice (l.getD i slz0).A (l.getD i slz0).len (l.getD i slz0).cap) := by
  obtain ⟨b, o, e, hb, hc⟩ := Row.elem slZ_len (by decide) h (getD_some slz0 hi)
  have h0 := hc 0 _ rfl
  rw [Nat.mul_one] at h0
  exact ⟨b, o, e, hb, h0⟩
theorem RowZ.row {w : World} {B : Nat} {A : Option Addr} {vs : List Value} (h : RowZ w (fun b => b < B) A vs) : Row w B A vs := h
theorem says1_any (A A' : Option Addr) (c c' : Nat) (xs : List Int) (B : Nat) (w : World) (ra : Row w B A (ints xs)) (rb : Row w B A' (ints xs)) (hm : xs.length ≤ maxLen) :
    Calls Try.prog 12 #[.slice A xs.length c, .slice A' xs.length c'] w fun e w' => e = .returned (.bool true) ∧ Below w.heap.size w w' := by
  have he := equal_any A A' c c' xs xs B B w ra rb hm hm
  rw [show decide (xs = xs) = true by simp] at he
  have HE := Lib.hid he
  clear he
  go_enter Try.func12, Try.ntmps12
  go_wp2_with fail
  refine HE.out.mono ?_
  rintro e w1 ⟨rfl, m, rfl⟩
  have HB := Lib.hid (below_drewN (Below.refl w.heap.size w) m)
  go_wp2_with fail
  go_ret
  exact ⟨rfl, HB.out⟩
set_option maxRecDepth 100000 in
set_option maxHeartbeats 1000000 in
/-- Two rows of rows that read alike. -/
theorem rows_alike (A A' : Option Addr) (c c' B : Nat) (l l' : List SlZ) (P : List (List Int)) (w : World) (hr : Row w B A (flat slZ l)) (hr' : Row w B A' (flat slZ l')) (hz : RowsZ w (fun b => b < B) l P) (hz' : RowsZ w (fun b => b < B) l' P) (hl : P.length ≤ 1000) (hp : ∀ p ∈ P, p.length ≤ 1000) (hB : B ≤ w.heap.size) :
    Calls Try.prog 11 #[.slice A P.length c, .slice A' P.length c', .func (.func 12) #[] #[]] w fun e w' => e = .returned (.bool true) ∧ Below w.heap.size w w' := by
  have hcf : ∀ args w, (callFunc 12 args).run Try.prog w = .ok (.enter 12 args) w := fun _ _ => by kernel_rfl
  have HR := Lib.hid hr
  have HR2 := Lib.hid hr'
  have HZ := Lib.hid hz
  have HZ2 := Lib.hid hz'
  have HP := Lib.hid hp
  clear hr hr' hz hz' hp
  go_enter Try.func11, Try.ntmps11
  go_wp2_with fail
  go_loopg [17] P.length (fun gk i wr => ∃ k : Nat, gk = P.length - k ∧ k ≤ P.length ∧ i = .int .i64 k ∧ Below w.heap.size w wr)
  case atStart => exact ⟨0, by omega, by omega, rfl, Below.refl _ _⟩
  case round =>
    obtain ⟨k, hgk, hk, rfl, hbw⟩ := hrel
    have HK := Lib.hid hgk
    have HBW := Lib.hid hbw
    have hbB := hbw.mono hB
    clear hgk hbw
    by_cases hlt : k < P.length
    · obtain ⟨b, o, rfl, _, c0⟩ := (HR.out.below hbB).z (show k < l.length by rw [HZ.out.1]; exact hlt)
      obtain ⟨b2, o2, rfl, _, d0⟩   := (HR2.out.below hbB).z (show k < l'.length by rw [HZ2.out.1]; exact hlt)
      obtain ⟨e1, r1⟩ := HZ.out.2 k (by rw [HZ.out.1]; exact hlt)
      obtain ⟨e2, r2⟩ := HZ2.out.2 k (by rw [HZ2.out.1]; exact hlt)
      rw [e1] at c0
      rw [e2] at d0
      have hpl := HP.out _ (getD_mem [] hlt)
      have HS := Lib.hid (says1_any (l.getD k slz0).A (l'.getD k slz0).A (l.getD k slz0).cap (l'.getD k slz0).cap (P.getD k []) B wr (Row.below r1 hbB) (Row.below r2 hbB) (by unfold maxLen; omega))
      have hkl : (k : Int) < (P.length : Int) := by omega
      clear e1 e2 r1 r2 hpl hbB
      generalize l.getD k slz0 = y at *
      generalize l'.getD k slz0 = y' at *
      generalize P.getD k [] = xs at *
      go_wp2_with fail
      refine HS.out.mono ?_
      rintro e w1 ⟨rfl, hb1⟩
      have HB1 := Lib.hid (HBW.out.trans (hb1.mono HBW.out.size))
      clear hb1
      go_wp2_with fail
      go_roundg (P.length - (k + 1))
      case measure => have := HK.out; omega
      case rel => exact ⟨k + 1, rfl, by omega, by go_num, HB1.out⟩
    · obtain rfl : k = P.length := by omega
      have hln : ¬ (P.length : Int) < (P.length : Int) := by omega
      go_wp2_with fail
      go_ret
      exact ⟨rfl, HBW.out⟩
end Go.Proofs.Ytbhdagjilmgahaa
