
/-
  What is wrong with quotas (limit.Check, the reference's LimitFault); a row found among right ones (limit.begin).
-/
import Derived.Test.YtgjimjpbogadjaaLm1
import Derived.Deep.QuietTactic
import Derived.BigQuiet
namespace Go.Proofs.Ytgjimjpbogadjaa
open Go.RowKit

def inR (n b : Int) : Bool := decide (0 ≤ n ∧ n ≤ b)
theorem inR_any (n b : Int) (w : World) : Calls Try.prog 40 #[.int .i64 n, .int .i64 0, .int .i64 b] w fun e w' => e = .returned (.bool (inR n b)) ∧ w = w' := inP_any n 0 b w

set_option maxRecDepth 100000 in
set_option maxHeartbeats 2000000 in
theorem lmcheck_any (A : Option Addr) (c : Nat) (l : List Lm) (w : World) (hr : Row w w.heap.size A (flat lmC l)) (hlm : l.length ≤ maxLen) :
    Calls Try.prog 38 #[.slice A l.length c] w fun e w' => e = .returned (.int .i64 (lmF l)) ∧ Below w.heap.size w w' := by
  have HR := Lib.hid hr
  have hlF : lmF l = if 100 < l.length then 2 else lmGo none l := rfl
  generalize lmF l = R at *
  have HL := Lib.hid hlF
  unfold maxLen at hlm
  clear hr hlF
  by_cases h1 : 100 < l.length
  · have d1 : decide ((100 : Int) < (l.length : Int)) = true := decide_eq_true (by omega)
    have d1' : decide (100 < l.length) = true := decide_eq_true h1
    have HE := Lib.hid (show R = 2 by rw [HL.out, if_pos h1])
    clear h1
    go_enter Try.func38, Try.ntmps38
    go_wp2_with fail
    go_ret
    exact ⟨by rw [HE.out]; rfl, Below.refl _ _⟩
  have d1 : decide ((100 : Int) < (l.length : Int)) = false := decide_eq_false (by omega)
  have d1' : decide (100 < l.length) = false := decide_eq_false h1
  have HRR := Lib.hid (show R = lmGo none l by rw [HL.out, if_neg h1])
  have hl1 : l.length ≤ 100 := by omega
  clear h1
  go_enter Try.func38, Try.ntmps38
  go_wp2_with fail
  clear d1 d1'
  go_loopg [10] l.length (fun gk i wr => ∃ k : Nat, gk = l.length - k ∧ k ≤ l.length ∧ i = .int .i64 k ∧ Hid (R = lmGo (if 0 < k then some (l.getD (k - 1) lm0).ref else none) (l.drop k)) ∧ Below w.heap.size w wr)
  case atStart => exact ⟨0, by omega, by omega, rfl, HRR.out, Below.refl _ _⟩
  case round =>
    obtain ⟨k, hgk, hk, rfl, HF, hb⟩ := hrel
    have HK := Lib.hid hgk
    have HB := Lib.hid hb
    have hbs := hb.size
    clear hgk hb HRR HL
    by_cases hlt : k < l.length
    · have hro := Lib.hid (HR.out.below HB.out)
      obtain ⟨b, o, rfl, hbl, c0, c1, c2, c3, c4⟩ := hro.out.lm hlt lm0
      have HD := Lib.hid (lmGo_drop (if 0 < k then some (l.getD (k - 1) lm0).ref else none) l hlt)
      have HNX := Lib.hid (show (if 0 < k + 1 then some (l.getD (k + 1 - 1) lm0).ref else none) = some (l.getD k lm0).ref by rw [if_pos (by omega)]; rfl)
      have HPV : Hid (0 < k → wr.cell? ⟨b, o + (k - 1) * 5, none⟩ = some (.int .i64 (l.getD (k - 1) lm0).ref)) := fun h0 => by
        obtain ⟨b', o', e', _, d0, _⟩ := hro.out.lm (show k - 1 < l.length by omega) lm0
        injection e' with e'
        injection e' with e1 e2
        subst e1 e2
        exact d0
      generalize l.getD k lm0 = y at *
      generalize (l.getD (k - 1) lm0).ref = pv at *
      obtain ⟨y0, y1, y2, y3, y4⟩ := y
      dsimp only at c0 c1 c2 c3 c4
      have HN := Lib.hid (show R = if okLm ⟨y0, y1, y2, y3, y4⟩ = false then 1 else if (if 0 < k then some pv else none).any (fun q => decide (y0 ≤ q)) = true then 21 else lmGo (some y0) (l.drop (k + 1)) by rw [HF.out, HD.out])
      have HBN := Lib.hid (HB.out.alloc hbs (.cells #[.int .i64 y0, .int .i64 y1, .int .i64 y2, .int .i64 y3, .int .i64 y4] 89))
      have HX : Hid (okLm ⟨y0, y1, y2, y3, y4⟩ = false → R = 1) := fun h => by rw [HN.out, if_pos h]
      clear HF HD
      by_cases u0 : amt y3 = false
      · have b0 : amt y3 = false := u0
        have HE := Lib.hid (show R = 1 from HX.out (by rw [Bool.eq_false_iff, Ne, okLm_iff]; unfold amt at u0; simp only [decide_eq_false_iff_not] at u0; dsimp only; omega))
        clear HN HX HNX HPV u0
        go_wp2_with (go_at_call 86; refine (amount_any _ _).mono ?_; rintro e w' ⟨rfl, rfl⟩)
        go_ret
        exact ⟨by rw [HE.out]; rfl, HBN.out⟩
      have b0 : amt y3 = true := by simpa using u0
      by_cases u1 : amt y4 = false
      · have b1 : amt y4 = false := u1
        have HE := Lib.hid (show R = 1 from HX.out (by rw [Bool.eq_false_iff, Ne, okLm_iff]; unfold amt at u1; simp only [decide_eq_false_iff_not] at u1; dsimp only; omega))
        clear HN HX HNX HPV u1
        go_wp2_with (go_at_call 86; refine (amount_any _ _).mono ?_; rintro e w' ⟨rfl, rfl⟩)
        go_ret
        exact ⟨by rw [HE.out]; rfl, HBN.out⟩
      have b1 : amt y4 = true := by simpa using u1
      by_cases u2 : y1 < 0
      · have b2 : decide (y1 < 0) = true := decide_eq_true u2
        have HE := Lib.hid (show R = 1 from HX.out (by rw [Bool.eq_false_iff, Ne, okLm_iff]; dsimp only; omega))
        clear HN HX HNX HPV u2
        go_wp2_with (go_at_call 86; refine (amount_any _ _).mono ?_; rintro e w' ⟨rfl, rfl⟩)
        go_ret
        exact ⟨by rw [HE.out]; rfl, HBN.out⟩
      have b2 : decide (y1 < 0) = false := decide_eq_false u2
      by_cases u3 : y3 < y1
      · have b3 : decide (y3 < y1) = true := decide_eq_true u3
        have HE := Lib.hid (show R = 1 from HX.out (by rw [Bool.eq_false_iff, Ne, okLm_iff]; dsimp only; omega))
        clear HN HX HNX HPV u3
        go_wp2_with (go_at_call 86; refine (amount_any _ _).mono ?_; rintro e w' ⟨rfl, rfl⟩)
        go_ret
        exact ⟨by rw [HE.out]; rfl, HBN.out⟩
      have b3 : decide (y3 < y1) = false := decide_eq_false u3
      by_cases u4 : y2 < 0
      · have b4 : decide (y2 < 0) = true := decide_eq_true u4
        have HE := Lib.hid (show R = 1 from HX.out (by rw [Bool.eq_false_iff, Ne, okLm_iff]; dsimp only; omega))
        clear HN HX HNX HPV u4
        go_wp2_with (go_at_call 86; refine (amount_any _ _).mono ?_; rintro e w' ⟨rfl, rfl⟩)
        go_ret
        exact ⟨by rw [HE.out]; rfl, HBN.out⟩
      have b4 : decide (y2 < 0) = false := decide_eq_false u4
      by_cases u5 : y4 < y2
      · have b5 : decide (y4 < y2) = true := decide_eq_true u5
        have HE := Lib.hid (show R = 1 from HX.out (by rw [Bool.eq_false_iff, Ne, okLm_iff]; dsimp only; omega))
        clear HN HX HNX HPV u5
        go_wp2_with (go_at_call 86; refine (amount_any _ _).mono ?_; rintro e w' ⟨rfl, rfl⟩)
        go_ret
        exact ⟨by rw [HE.out]; rfl, HBN.out⟩
      have b5 : decide (y4 < y2) = false := decide_eq_false u5
      have HOK := Lib.hid (show okLm ⟨y0, y1, y2, y3, y4⟩ = true by
        rw [okLm_iff]
        have v0 := b0; have v1 := b1
        unfold amt at v0 v1
        simp only [decide_eq_true_eq] at v0 v1
        dsimp only
        omega)
      have HN2 := Lib.hid (show R = if (if 0 < k then some pv else none).any (fun q => decide (y0 ≤ q)) = true then 21 else lmGo (some y0) (l.drop (k + 1)) by rw [HN.out, if_neg (by rw [HOK.out]; decide)])
      clear u0 u1 u2 u3 u4 u5 HX HN
      by_cases hk0 : 0 < k
      · have hd0 := HPV.out hk0
        have dk : decide ((0 : Int) < (k : Int)) = true := by simp; omega
        have dk' : decide (0 < k) = true := by simp; omega
        have hsub : (k : Int) - 1 = ((k - 1 : Nat) : Int) := by omega
        have hkl : ((k - 1 : Nat) : Int) < (l.length : Int) := by omega
        have hkl0 : k - 1 < l.length := by omega
        have HN3 := Lib.hid (show R = if decide (y0 ≤ pv) = true then 21 else lmGo (some y0) (l.drop (k + 1)) by rw [HN2.out, if_pos hk0]; rfl)
        have hd1 : (wr.alloc (.cells #[.int .i64 y0, .int .i64 y1, .int .i64 y2, .int .i64 y3, .int .i64 y4] 89)).cell? ⟨b, o + (k - 1) * 5, none⟩ = some (.int .i64 pv) := by
          rw [World.cell?_alloc_lt _ _ _ (lt_of_cell hd0)]; exact hd0
        clear HPV HN2
        by_cases hpv : y0 ≤ pv
        · have dp : decide (y0 ≤ pv) = true := by simp; omega
          have HE := Lib.hid (show R = 21 by rw [HN3.out, if_pos dp])
          clear hpv
          go_wp2_with (go_at_call 86; refine (amount_any _ _).mono ?_; rintro e w' ⟨rfl, rfl⟩)
          go_quiet (fail)
          go_wp2_with fail
          go_ret
          exact ⟨by rw [HE.out]; rfl, below_drewN HBN.out _⟩
        · have dp : decide (y0 ≤ pv) = false := by simp; omega
          have HE : Hid (R = lmGo (if 0 < k + 1 then some (l.getD (k + 1 - 1) lm0).ref else none) (l.drop (k + 1))) := by show R = _; rw [HN3.out, if_neg (by rw [dp]; decide), HNX.out]
          clear hpv
          go_wp2_with (go_at_call 86; refine (amount_any _ _).mono ?_; rintro e w' ⟨rfl, rfl⟩)
          go_quiet (fail)
          go_wp2_with fail
          go_roundg (l.length - (k + 1))
          case measure => have := HK.out; omega
          case rel => exact ⟨k + 1, rfl, by omega, by go_num, HE, below_drewN HBN.out _⟩
      · have dk : decide ((0 : Int) < (k : Int)) = false := by simp; omega
        have dk' : decide (0 < k) = false := by simp; omega
        have HE : Hid (R = lmGo (if 0 < k + 1 then some (l.getD (k + 1 - 1) lm0).ref else none) (l.drop (k + 1))) := by show R = _; rw [HN2.out, if_neg hk0, if_neg (by simp), HNX.out]
        clear HPV HN2 hk0
        go_wp2_with (go_at_call 86; refine (amount_any _ _).mono ?_; rintro e w' ⟨rfl, rfl⟩)
        go_quiet (fail)
        go_wp2_with fail
        go_roundg (l.length - (k + 1))
        case measure => have := HK.out; omega
        case rel => exact ⟨k + 1, rfl, by omega, by go_num, HE, below_drewN HBN.out _⟩
    · have HE := Lib.hid (show R = 0 by rw [HF.out, List.drop_eq_nil_of_le (by omega)]; unfold lmGo; rfl)
      go_wp2_with fail
      go_ret
      exact ⟨by rw [HE.out]; rfl, HB.out⟩

set_option maxRecDepth 100000 in
set_option maxHeartbeats 2000000 in
theorem lmfault_any (A : Option Addr) (c : Nat) (l : List Lm) (w : World) (hr : Row w w.heap.size A (flat lmC l)) (hlm : l.length ≤ maxLen) :
    Calls Try.prog 37 #[.slice A l.length c] w fun e w' => e = .returned (.int .i64 (lmF l)) ∧ Below w.heap.size w w' := by
  have HR := Lib.hid hr
  have hlF : lmF l = if 100 < l.length then 2 else lmGo none l := rfl
  generalize lmF l = R at *
  have HL := Lib.hid hlF
  unfold maxLen at hlm
  clear hr hlF
  by_cases h1 : 100 < l.length
  · have d1 : decide ((100 : Int) < (l.length : Int)) = true := decide_eq_true (by omega)
    have d1' : decide (100 < l.length) = true := decide_eq_true h1
    have HE := Lib.hid (show R = 2 by rw [HL.out, if_pos h1])
    clear h1
    go_enter Try.func37, Try.ntmps37
    go_wp2_with fail
    go_ret
    exact ⟨by rw [HE.out]; rfl, Below.refl _ _⟩
  have d1 : decide ((100 : Int) < (l.length : Int)) = false := decide_eq_false (by omega)
  have d1' : decide (100 < l.length) = false := decide_eq_false h1
  have HRR := Lib.hid (show R = lmGo none l by rw [HL.out, if_neg h1])
  have hl1 : l.length ≤ 100 := by omega
  clear h1
  go_enter Try.func37, Try.ntmps37
  go_wp2_with fail
  clear d1 d1'
  go_loopg [10] l.length (fun gk i wr => ∃ k : Nat, gk = l.length - k ∧ k ≤ l.length ∧ i = .int .i64 k ∧ Hid (R = lmGo (if 0 < k then some (l.getD (k - 1) lm0).ref else none) (l.drop k)) ∧ Below w.heap.size w wr)
  case atStart => exact ⟨0, by omega, by omega, rfl, HRR.out, Below.refl _ _⟩
  case round =>
    obtain ⟨k, hgk, hk, rfl, HF, hb⟩ := hrel
    have HK := Lib.hid hgk
    have HB := Lib.hid hb
    have hbs := hb.size
    clear hgk hb HRR HL
    by_cases hlt : k < l.length
    · have hro := Lib.hid (HR.out.below HB.out)
      obtain ⟨b, o, rfl, hbl, c0, c1, c2, c3, c4⟩ := hro.out.lm hlt lm0
      have HD := Lib.hid (lmGo_drop (if 0 < k then some (l.getD (k - 1) lm0).ref else none) l hlt)
      have HNX := Lib.hid (show (if 0 < k + 1 then some (l.getD (k + 1 - 1) lm0).ref else none) = some (l.getD k lm0).ref by rw [if_pos (by omega)]; rfl)
      have HPV : Hid (0 < k → wr.cell? ⟨b, o + (k - 1) * 5, none⟩ = some (.int .i64 (l.getD (k - 1) lm0).ref)) := fun h0 => by
        obtain ⟨b', o', e', _, d0, _⟩ := hro.out.lm (show k - 1 < l.length by omega) lm0
        injection e' with e'
        injection e' with e1 e2
        subst e1 e2
        exact d0
      generalize l.getD k lm0 = y at *
      generalize (l.getD (k - 1) lm0).ref = pv at *
      obtain ⟨y0, y1, y2, y3, y4⟩ := y
      dsimp only at c0 c1 c2 c3 c4
      have HN := Lib.hid (show R = if okLm ⟨y0, y1, y2, y3, y4⟩ = false then 1 else if (if 0 < k then some pv else none).any (fun q => decide (y0 ≤ q)) = true then 21 else lmGo (some y0) (l.drop (k + 1)) by rw [HF.out, HD.out])
      have HBN := Lib.hid (HB.out.alloc hbs (.cells #[.int .i64 y0, .int .i64 y1, .int .i64 y2, .int .i64 y3, .int .i64 y4] 89))
      have HX : Hid (okLm ⟨y0, y1, y2, y3, y4⟩ = false → R = 1) := fun h => by rw [HN.out, if_pos h]
      clear HF HD
      by_cases u0 : inR y3 1073741824 = false
      · have b0 : inR y3 1073741824 = false := u0
        have HE := Lib.hid (show R = 1 from HX.out (by rw [Bool.eq_false_iff, Ne, okLm_iff]; unfold inR at u0; simp only [decide_eq_false_iff_not] at u0; dsimp only; omega))
        clear HN HX HNX HPV u0
        go_wp2_with (go_at_call 40; refine (inR_any _ _ _).mono ?_; rintro e w' ⟨rfl, rfl⟩)
        go_ret
        exact ⟨by rw [HE.out]; rfl, HBN.out⟩
      have b0 : inR y3 1073741824 = true := by simpa using u0
      by_cases u1 : inR y4 1073741824 = false
      · have b1 : inR y4 1073741824 = false := u1
        have HE := Lib.hid (show R = 1 from HX.out (by rw [Bool.eq_false_iff, Ne, okLm_iff]; unfold inR at u1; simp only [decide_eq_false_iff_not] at u1; dsimp only; omega))
        clear HN HX HNX HPV u1
        go_wp2_with (go_at_call 40; refine (inR_any _ _ _).mono ?_; rintro e w' ⟨rfl, rfl⟩)
        go_ret
        exact ⟨by rw [HE.out]; rfl, HBN.out⟩
      have b1 : inR y4 1073741824 = true := by simpa using u1
      by_cases u2 : inR y1 y3 = false
      · have b2 : inR y1 y3 = false := u2
        have HE := Lib.hid (show R = 1 from HX.out (by rw [Bool.eq_false_iff, Ne, okLm_iff]; unfold inR at u2; simp only [decide_eq_false_iff_not] at u2; dsimp only; omega))
        clear HN HX HNX HPV u2
        go_wp2_with (go_at_call 40; refine (inR_any _ _ _).mono ?_; rintro e w' ⟨rfl, rfl⟩)
        go_ret
        exact ⟨by rw [HE.out]; rfl, HBN.out⟩
      have b2 : inR y1 y3 = true := by simpa using u2
      by_cases u3 : inR y2 y4 = false
      · have b3 : inR y2 y4 = false := u3
        have HE := Lib.hid (show R = 1 from HX.out (by rw [Bool.eq_false_iff, Ne, okLm_iff]; unfold inR at u3; simp only [decide_eq_false_iff_not] at u3; dsimp only; omega))
        clear HN HX HNX HPV u3
        go_wp2_with (go_at_call 40; refine (inR_any _ _ _).mono ?_; rintro e w' ⟨rfl, rfl⟩)
        go_ret
        exact ⟨by rw [HE.out]; rfl, HBN.out⟩
      have b3 : inR y2 y4 = true := by simpa using u3
      have HOK := Lib.hid (show okLm ⟨y0, y1, y2, y3, y4⟩ = true by
        rw [okLm_iff]
        have v0 := b0; have v1 := b1; have v2 := b2; have v3 := b3
        unfold inR at v0 v1 v2 v3
        simp only [decide_eq_true_eq] at v0 v1 v2 v3
        dsimp only
        omega)
      have HN2 := Lib.hid (show R = if (if 0 < k then some pv else none).any (fun q => decide (y0 ≤ q)) = true then 21 else lmGo (some y0) (l.drop (k + 1)) by rw [HN.out, if_neg (by rw [HOK.out]; decide)])
      clear u0 u1 u2 u3 HX HN
      by_cases hk0 : 0 < k
      · have hd0 := HPV.out hk0
        have dk : decide ((0 : Int) < (k : Int)) = true := by simp; omega
        have dk' : decide (0 < k) = true := by simp; omega
        have hsub : (k : Int) - 1 = ((k - 1 : Nat) : Int) := by omega
        have hkl : ((k - 1 : Nat) : Int) < (l.length : Int) := by omega
        have hkl0 : k - 1 < l.length := by omega
        have HN3 := Lib.hid (show R = if decide (y0 ≤ pv) = true then 21 else lmGo (some y0) (l.drop (k + 1)) by rw [HN2.out, if_pos hk0]; rfl)
        have hd1 : (wr.alloc (.cells #[.int .i64 y0, .int .i64 y1, .int .i64 y2, .int .i64 y3, .int .i64 y4] 89)).cell? ⟨b, o + (k - 1) * 5, none⟩ = some (.int .i64 pv) := by
          rw [World.cell?_alloc_lt _ _ _ (lt_of_cell hd0)]; exact hd0
        clear HPV HN2
        by_cases hpv : y0 ≤ pv
        · have dp : decide (y0 ≤ pv) = true := by simp; omega
          have HE := Lib.hid (show R = 21 by rw [HN3.out, if_pos dp])
          clear hpv
          go_wp2_with (go_at_call 40; refine (inR_any _ _ _).mono ?_; rintro e w' ⟨rfl, rfl⟩)
          go_quiet (fail)
          go_wp2_with fail
          go_ret
          exact ⟨by rw [HE.out]; rfl, below_drewN HBN.out _⟩
        · have dp : decide (y0 ≤ pv) = false := by simp; omega
          have HE : Hid (R = lmGo (if 0 < k + 1 then some (l.getD (k + 1 - 1) lm0).ref else none) (l.drop (k + 1))) := by show R = _; rw [HN3.out, if_neg (by rw [dp]; decide), HNX.out]
          clear hpv
          go_wp2_with (go_at_call 40; refine (inR_any _ _ _).mono ?_; rintro e w' ⟨rfl, rfl⟩)
          go_quiet (fail)
          go_wp2_with fail
          go_roundg (l.length - (k + 1))
          case measure => have := HK.out; omega
          case rel => exact ⟨k + 1, rfl, by omega, by go_num, HE, below_drewN HBN.out _⟩
      · have dk : decide ((0 : Int) < (k : Int)) = false := by simp; omega
        have dk' : decide (0 < k) = false := by simp; omega
        have HE : Hid (R = lmGo (if 0 < k + 1 then some (l.getD (k + 1 - 1) lm0).ref else none) (l.drop (k + 1))) := by show R = _; rw [HN2.out, if_neg hk0, if_neg (by simp), HNX.out]
        clear HPV HN2 hk0
        go_wp2_with (go_at_call 40; refine (inR_any _ _ _).mono ?_; rintro e w' ⟨rfl, rfl⟩)
        go_quiet (fail)
        go_wp2_with fail
        go_roundg (l.length - (k + 1))
        case measure => have := HK.out; omega
        case rel => exact ⟨k + 1, rfl, by omega, by go_num, HE, below_drewN HBN.out _⟩
    · have HE := Lib.hid (show R = 0 by rw [HF.out, List.drop_eq_nil_of_le (by omega)]; unfold lmGo; rfl)
      go_wp2_with fail
      go_ret
      exact ⟨by rw [HE.out]; rfl, HB.out⟩

set_option maxRecDepth 100000 in
theorem limbegin_any (id : Int) (A : Option Addr) (c : Nat) (l : List Lm) (w : World) (hr : Row w w.heap.size A (flat lmC l)) (hlm : l.length ≤ maxLen) :
    Calls Try.prog 85 #[.slice A l.length c, .int .i64 id] w fun e w' => e = .returned (.tuple #[.int .i64 (if beginE l id = 0 then lmAt l id else 0), .int .i64 (beginE l id)]) ∧ Below w.heap.size w w' := by
  have HC := Lib.hid (lmcheck_any A c l w hr hlm)
  have HFD := Lib.hid (fun (w' : World) (hb : Below w.heap.size w w') => limfind_any id A c l w' ((hr.below hb).more hb.size) hlm)
  have HBE : Hid (beginE l id = if lmF l ≠ 0 then lmF l else if lmAt l id < 0 then 4 else 0) := rfl
  clear hr hlm
  generalize lmF l = R at *
  generalize lmAt l id = K at *
  obtain ⟨E, hE⟩ : ∃ E, beginE l id = E := ⟨_, rfl⟩
  rw [hE] at HBE ⊢
  clear hE
  by_cases h1 : R = 0
  · subst h1
    rw [if_neg (by simp)] at HBE
    by_cases h2 : K < 0
    · rw [if_pos h2] at HBE
      have d1 : decide (K < 0) = true := decide_eq_true h2
      have HE := Lib.hid HBE.out
      rw [HE.out, if_neg (by decide)]
      clear HBE h2
      go_enter Try.func85, Try.ntmps85
      go_wp2_with fail
      refine HC.out.mono ?_
      rintro e w1 ⟨rfl, hb1⟩
      go_wp2_with fail
      refine (HFD.out w1 hb1).mono ?_
      rintro e w2 ⟨rfl, hb2⟩
      go_wp2_with fail
      go_ret2
      exact ⟨rfl, hb1.trans (hb2.mono hb1.size)⟩
    · rw [if_neg h2] at HBE
      have d1 : decide (K < 0) = false := decide_eq_false h2
      have HE := Lib.hid HBE.out
      rw [HE.out, if_pos rfl]
      clear HBE h2
      go_enter Try.func85, Try.ntmps85
      go_wp2_with fail
      refine HC.out.mono ?_
      rintro e w1 ⟨rfl, hb1⟩
      go_wp2_with fail
      refine (HFD.out w1 hb1).mono ?_
      rintro e w2 ⟨rfl, hb2⟩
      go_wp2_with fail
      go_ret2
      exact ⟨rfl, hb1.trans (hb2.mono hb1.size)⟩
  · rw [if_pos h1] at HBE
    have b1 : (R != 0) = true := by simpa using h1
    have HE := Lib.hid HBE.out
    rw [HE.out, if_neg h1]
    clear HBE h1
    go_enter Try.func85, Try.ntmps85
    go_wp2_with fail
    refine HC.out.mono ?_
    rintro e w1 ⟨rfl, hb1⟩
    go_wp2_with fail
    go_ret2
    exact ⟨rfl, hb1⟩
end Go.Proofs.Ytgjimjpbogadjaa
