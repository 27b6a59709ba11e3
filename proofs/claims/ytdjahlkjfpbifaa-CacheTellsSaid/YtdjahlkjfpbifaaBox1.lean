
/-
  Package box: what a mailbox is, and the reference's own words for it.
-/
import Derived.Test.YtdjahlkjfpbifaaValSame
import Derived.IntWalk
namespace Go.Proofs.Ytdjahlkjfpbifaa
open Go.RowKit

theorem in_any (n a b : Int) (w : World) : Calls Try.prog 63 #[.int .i64 n, .int .i64 a, .int .i64 b] w fun e w' => e = .returned (.bool (decide (a ≤ n ∧ n ≤ b))) ∧ w = w' := by
  by_cases h1 : a ≤ n
  · have d1 : decide (a ≤ n) = true := by simp; omega
    by_cases h2 : n ≤ b
    · have d2 : decide (n ≤ b) = true := by simp; omega
      rw [show decide (a ≤ n ∧ n ≤ b) = true by simp; omega]
      go_enter Try.func63, Try.ntmps63
      go_wp2_with fail
      go_ret
      exact ⟨rfl, rfl⟩
    · have d2 : decide (n ≤ b) = false := by simp; omega
      rw [show decide (a ≤ n ∧ n ≤ b) = false by simp; omega]
      go_enter Try.func63, Try.ntmps63
      go_wp2_with fail
      go_ret
      exact ⟨rfl, rfl⟩
  · have d1 : decide (a ≤ n) = false := by simp; omega
    rw [show decide (a ≤ n ∧ n ≤ b) = false by simp; omega]
    go_enter Try.func63, Try.ntmps63
    go_wp2_with fail
    go_ret
    exact ⟨rfl, rfl⟩

def okKind (k : Int) : Bool := k == 1 || k == 2
theorem okKind_in (k : Int) : decide (1 ≤ k ∧ k ≤ 2) = okKind k := by
  unfold okKind
  by_cases h1 : k = 1
  · subst h1; rfl
  · by_cases h2 : k = 2
    · subst h2; rfl
    · rw [show decide (1 ≤ k ∧ k ≤ 2) = false by simp; omega]; simp [h1, h2]
def boxF (l : List LC) (p : Int) : Int := if 60 < l.length then 2 else if p < 0 ∨ (l.length : Int) < p then 1 else if l.any (fun x => !okKind x.kind) then 3 else 0
def boxV (A : Option Addr) (n c : Nat) (p : Int) : Value := .agg #[.slice A n c, .int .i64 p]

theorem fits_any (x : LC) (w : World) : Calls Try.prog 164 #[letterV x] w fun e w' => e = .returned (.bool (okKind x.kind)) ∧ Below w.heap.size w w' := by
  unfold letterV okKind
  have HB := Lib.hid (show ∀ o, Below w.heap.size w (w.alloc o) from fun o => (Below.refl _ _).alloc (Nat.le_refl _) _)
  by_cases h1 : x.kind = 1
  · have b1 : (x.kind == 1) = true := by simp [h1]
    rw [b1]
    clear h1
    go_enter Try.func164, Try.ntmps164
    go_wp2_with fail
    go_ret
    exact ⟨rfl, HB.out _⟩
  · have b1 : (x.kind == 1) = false := by simp [h1]
    rw [b1]
    clear h1
    go_enter Try.func164, Try.ntmps164
    go_wp2_with fail
    go_ret
    exact ⟨by simp, HB.out _⟩

theorem enters_check1 : Enters 163 := fun _ _ => by kernel_rfl
theorem check1_any (x : LC) (w : World) : Calls Try.prog 163 #[letterV x] w fun e w' => e = .returned (.bool (!okKind x.kind)) ∧ Below w.heap.size w w' := by
  have HF := Lib.hid (fits_any x)
  unfold letterV at *
  generalize okKind x.kind = q at *
  go_enter Try.func163, Try.ntmps163
  go_wp2_with fail
  refine (HF.out _).mono ?_
  rintro e w1 ⟨rfl, hb⟩
  have HB := Lib.hid (show Below w.heap.size w w1 from ((Below.refl _ _).alloc (Nat.le_refl _) _).trans (hb.mono (by simp)))
  clear hb HF
  go_wp2_with fail
  go_ret
  exact ⟨rfl, HB.out⟩

set_option maxRecDepth 100000 in
theorem check_any (A : Option Addr) (c : Nat) (l : List LC) (p : Int) (w : World) (hr : Row w w.heap.size A (flat letterC l)) (hlc : l.length ≤ c) (hm : c ≤ maxLen) :
    Calls Try.prog 122 #[boxV A l.length c p] w fun e w' => e = .returned (.int .i64 (boxF l p)) ∧ Below w.heap.size w w' := by
  unfold boxV
  have HB := Lib.hid (show ∀ o, Below w.heap.size w (w.alloc o) from fun o => (Below.refl _ _).alloc (Nat.le_refl _) _)
  have hm' : l.length ≤ maxLen := by omega
  have HCF := Lib.hid (fun w1 (h1 : Below w.heap.size w w1) => containsFunc_letter A c l 163 #[] (fun x => !okKind x.kind) w.heap.size (fun w1 => Below w.heap.size w w1) w1 enters_check1 hm' (fun w1 h1 => hr.below h1) (fun x _ w1 h1 => (check1_any x w1).mono fun e w2 h2 => ⟨h2.1, h1.trans (h2.2.mono h1.size)⟩) h1)
  clear hr
  unfold boxF
  unfold maxLen at hm hm'
  by_cases h60 : 60 < l.length
  · have d1 : decide ((60 : Int) < (l.length : Int)) = true := by simp; omega
    have d2 : decide (60 < l.length) = true := by simp; omega
    rw [if_pos h60]
    go_enter Try.func122, Try.ntmps122
    go_wp2_with fail
    go_ret
    exact ⟨rfl, HB.out _⟩
  have d1 : decide ((60 : Int) < (l.length : Int)) = false := by simp; omega
  have d2 : decide (60 < l.length) = false := by simp; omega
  rw [if_neg h60]
  by_cases hp : p < 0 ∨ (l.length : Int) < p
  · rw [if_pos hp]
    by_cases h0 : p < 0
    · have d3 : decide (p < 0) = true := by simp; omega
      go_enter Try.func122, Try.ntmps122
      go_wp2_with fail
      go_ret
      exact ⟨rfl, HB.out _⟩
    · have d3 : decide (p < 0) = false := by simp; omega
      have d4 : decide ((l.length : Int) < p) = true := by simp; omega
      go_enter Try.func122, Try.ntmps122
      go_wp2_with fail
      go_ret
      exact ⟨rfl, HB.out _⟩
  · rw [if_neg hp]
    have d3 : decide (p < 0) = false := by simp; omega
    have d4 : decide ((l.length : Int) < p) = false := by simp; omega
    generalize hq : l.any (fun x => !okKind x.kind) = q at *
    go_enter Try.func122, Try.ntmps122
    go_wp2_with fail
    refine (HCF.out _ (HB.out _)).mono ?_
    rintro e w1 ⟨rfl, hb⟩
    clear HCF hq
    cases q
    · go_wp2_with fail
      go_ret
      exact ⟨rfl, hb⟩
    · go_wp2_with fail
      go_ret
      exact ⟨rfl, hb⟩

set_option maxRecDepth 100000 in
theorem boxFault_any (A : Option Addr) (c : Nat) (l : List LC) (p : Int) (w : World) (hr : Row w w.heap.size A (flat letterC l)) (_hlc : l.length ≤ c) (_hm : c ≤ maxLen) :
    Calls Try.prog 22 #[boxV A l.length c p] w fun e w' => e = .returned (.int .i64 (boxF l p)) ∧ Below w.heap.size w w' := by
  unfold boxV
  have HB := Lib.hid (show ∀ o, Below w.heap.size w (w.alloc o) from fun o => (Below.refl _ _).alloc (Nat.le_refl _) _)
  have HR := Lib.hid hr
  clear hr
  unfold boxF
  unfold maxLen at _hm
  by_cases h60 : 60 < l.length
  · have d1 : decide ((60 : Int) < (l.length : Int)) = true := by simp; omega
    have d2 : decide (60 < l.length) = true := by simp; omega
    rw [if_pos h60]
    go_enter Try.func22, Try.ntmps22
    go_wp2_with fail
    go_ret
    exact ⟨rfl, HB.out _⟩
  have d1 : decide ((60 : Int) < (l.length : Int)) = false := by simp; omega
  have d2 : decide (60 < l.length) = false := by simp; omega
  rw [if_neg h60]
  by_cases hp : p < 0 ∨ (l.length : Int) < p
  · rw [if_pos hp]
    have HD := Lib.hid (show decide ((0 : Int) ≤ p ∧ p ≤ (l.length : Int)) = false by simp; omega)
    clear hp
    go_enter Try.func22, Try.ntmps22
    go_wp2_with fail
    refine (in_any _ _ _ _).mono ?_
    rintro e w1 ⟨rfl, rfl⟩
    rw [HD.out]
    go_wp2_with fail
    go_ret
    exact ⟨rfl, HB.out _⟩
  · rw [if_neg hp]
    have HD := Lib.hid (show decide ((0 : Int) ≤ p ∧ p ≤ (l.length : Int)) = true by simp; omega)
    clear hp
    generalize hres : (if l.any (fun x => !okKind x.kind) then (3 : Int) else 0) = res at *
    have HRES := Lib.hid hres
    clear hres
    go_enter Try.func22, Try.ntmps22
    go_wp2_with fail
    refine (in_any _ _ _ _).mono ?_
    rintro e w1 ⟨rfl, rfl⟩
    rw [HD.out]
    go_wp2_with fail
    go_loopg [19] l.length (fun gk i wr => ∃ k : Nat, gk = l.length - k ∧ k ≤ l.length ∧ i = .int .i64 k ∧ Hid (l.any (fun x => !okKind x.kind) = (l.drop k).any (fun x => !okKind x.kind)) ∧ Below w.heap.size w wr)
    case atStart => exact ⟨0, by omega, by omega, rfl, rfl, HB.out _⟩
    case round =>
      obtain ⟨k, hgk, hk, rfl, HA, hb⟩ := hrel
      have HG := Lib.hid hgk
      clear hgk
      by_cases hlt : k < l.length
      · obtain ⟨b, o, rfl, _, hc0, hc1, hc2, hc3, hc4, hc5, hc6, hc7, hc8⟩ := (HR.out.below hb).letter hlt lc0
        have HDR := Lib.hid (drop_getD l lc0 hlt)
        generalize l.getD k lc0 = x at *
        have hbs := hb.size
        have HIN := Lib.hid (fun w => in_any x.kind 1 2 w)
        rw [okKind_in] at HIN
        go_wp2_with fail
        refine (HIN.out _).mono ?_
        rintro e w1 ⟨rfl, rfl⟩
        have HX := Lib.hid (rfl : okKind x.kind = okKind x.kind)
        generalize hq : okKind x.kind = q at *
        have HQ := Lib.hid hq
        clear hq HX
        cases q
        · go_wp2_with fail
          go_ret
          refine ⟨?_, hb.alloc hbs _⟩
          rw [← HRES.out, HA.out, HDR.out, List.any_cons, HQ.out]
          rfl
        · go_wp2_with fail
          go_roundg (l.length - (k + 1))
          case measure => have := HG.out; omega
          case rel =>
            refine ⟨k + 1, rfl, by omega, by go_num, ?_, hb.alloc hbs _⟩
            unfold Hid
            rw [HA.out, HDR.out, List.any_cons, HQ.out]
            rfl
      · obtain rfl : k = l.length := by omega
        go_wp2_with fail
        go_ret
        refine ⟨?_, hb⟩
        rw [← HRES.out, HA.out, List.drop_length]
        rfl
end Go.Proofs.Ytdjahlkjfpbifaa
