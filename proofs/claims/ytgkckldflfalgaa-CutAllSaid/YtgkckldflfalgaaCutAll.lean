
/-
  CutAll: the law's walk.
-/
import Derived.Test.YtgkckldflfalgaaCu6
import Derived.Test.YtgkckldflfalgaaEv2
import Derived.Test.YtgkckldflfalgaaEv4
import Derived.Laws.BitsLemmas
namespace Go.Proofs.Ytgkckldflfalgaa
open Go.RowKit Go.Maps

def two3 : List Ev := [(0, 2, 5), (1, 3, 5)]
theorem two3_hist : history two3 = 0 := by decide
theorem two3_bef : Bef two3 1 0 := .one (by decide) (by decide)
theorem two3_many : manyF two3 = 3 := by
  have h0 : okM two3 0 = true := okM_iff.2 fun i hi k hk hb _ => by rw [Nat.zero_testBit] at hb; cases hb
  have h1 : okM two3 1 = true := okM_iff.2 fun i hi k hk hb _ => by
    have hi2 : i < 2 := hi
    match i, hi2 with
    | 0, _ => omega
    | 1, _ => exact absurd hb (by decide)
  have h2 : ¬ okM two3 2 = true := fun h => by
    have := okM_iff.1 h 1 (by decide) 0 (by decide) (by decide) two3_bef
    exact absurd this (by decide)
  have h3 : okM two3 3 = true := okM_iff.2 fun i hi k hk hb _ => by
    have hi2 : i < 2 := hi
    match i, hi2 with
    | 0, _ => omega
    | 1, _ =>
      obtain rfl : k = 0 := by omega
      decide
  show manyTo two3 4 = 3
  rw [many_succ, many_succ, many_succ, many_succ, if_pos h0, if_pos h1, if_neg h2, if_pos h3]
  rfl
theorem row_of_cellsC {w : World} {g : Nat} {t : TypeId} {cs : Array Value} (h : Box w g t cs) : Row w w.heap.size (some ⟨g, 0, none⟩) cs.toList := fun _ =>
  ⟨g, 0, rfl, h.lt, fun i v hv => by rw [Nat.zero_add, h.cell]; simpa using hv⟩
theorem two3_wf : ∀ x ∈ two3, I64 x.2.2 := by
  intro x hx
  simp only [two3, List.mem_cons, List.not_mem_nil, or_false] at hx
  rcases hx with rfl | rfl <;> (unfold I64; decide)
set_option maxHeartbeats 400000 in
theorem two3_any (W : World) : Calls Try.prog 5 #[] W fun e w' => ∃ g, e = .returned (.slice (some ⟨g, 0, none⟩) 2 2) ∧ Row w' w'.heap.size (some ⟨g, 0, none⟩) (flat evC two3) ∧ Below W.heap.size W w' := by
  go_enter Try.func5, Try.ntmps5
  go_wp2_with fail
  go_ret
  exact ⟨_, rfl, row_of_cellsC (Box.new W 41 ⟨flat evC two3⟩), (Below.refl _ _).alloc (Nat.le_refl _) _⟩
def CloTo (l : List Ev) (t a : Nat) : Prop := ∀ i, i < a → ∀ k, k < i → t.testBit i = true → Bef l i k → t.testBit k = true
def CloIn (l : List Ev) (t a b : Nat) : Prop := ∀ k, k < b → t.testBit a = true → Bef l a k → t.testBit k = true
theorem wrapN (n : Nat) (h : n ≤ 1024) : wrap64 (n : Int) = (n : Int) := by unfold wrap64; omega
theorem and_one (x : Nat) (hx : x < 9223372036854775808) : bits .and .i64 (x : Int) 1 = ((x % 2 : Nat) : Int) := by
  have h1 : (BitVec.ofInt 64 (x : Int)).toNat = x := by
    rw [BitVec.ofInt_natCast, BitVec.toNat_ofNat]; exact Nat.mod_eq_of_lt (by omega)
  have h2 : (BitVec.ofInt 64 (1 : Int)).toNat = 1 := by decide
  show IntKind.i64.wrap ((BitVec.ofInt 64 (x : Int) &&& BitVec.ofInt 64 (1 : Int)).toNat : Int) = _
  rw [BitVec.toNat_and, h1, h2, Nat.and_one_is_mod]
  have : x % 2 < 2 := Nat.mod_lt _ (by decide)
  rw [IntKind.wrap_i64]
  omega
theorem bit_and (t a : Nat) (ht : t ≤ 1024) : bits .and .i64 ((t : Int) / 2 ^ a) 1 = if t.testBit a = true then 1 else 0 := by
  have e : ((t : Int) / 2 ^ a) = ((t / 2 ^ a : Nat) : Int) := by push_cast; rfl
  rw [e, and_one _ (by have := Nat.div_le_self t (2 ^ a); omega)]
  have h := Nat.testBit_eq_decide_div_mod_eq (x := t) (i := a)
  by_cases hb : t.testBit a = true
  · rw [if_pos hb]
    rw [h] at hb
    have := of_decide_eq_true hb
    omega
  · rw [if_neg hb]
    rw [h] at hb
    have h2 : ¬ t / 2 ^ a % 2 = 1 := fun h3 => hb (decide_eq_true h3)
    omega
set_option maxRecDepth 100000 in
set_option maxHeartbeats 4000000 in
theorem cutAll_any (A : Option Addr) (c : Nat) (l : List Ev) (w : World) (hr : Row w w.heap.size A (flat evC l)) (hlc : l.length ≤ c) (hcm : c ≤ maxLen) (hI : ∀ x ∈ l, I64 x.2.2) :
    Calls Try.prog 3 #[.slice A l.length c] w fun e w' => e = .returned (.bool true) ∧ Below w.heap.size w w' := by
  have HTW := Lib.hid (two3_any w)
  have HR := Lib.hid (fun (w' : World) (hb : Below w.heap.size w w') => (hr.takeF evC_len 10).below hb |>.more hb.size)
  have HI : Hid (∀ x ∈ l.take 10, I64 x.2.2) := fun x hx => hI x (List.mem_of_mem_take hx)
  have HTL : Hid ((l.take 10).length = min l.length 10) := by show _ = _; rw [List.length_take, Nat.min_comm]
  unfold maxLen at hcm
  clear hr hI
  go_enter Try.func3, Try.ntmps3
  go_wp2_with fail
  refine HTW.out.mono ?_
  rintro e w1 ⟨g1, rfl, hr1, hb1⟩
  have HB1 := Lib.hid hb1
  have HA1 := Lib.hid (all_any (some ⟨g1, 0, none⟩) 2 two3 w1 hr1 (by decide) two3_wf)
  clear hr1 hb1 HTW
  go_wp2_with fail
  refine HA1.out.mono ?_
  rintro e w2 ⟨hb2, rfl⟩
  have HB2 := Lib.hid (HB1.out.trans (hb2.mono HB1.out.size))
  rw [show allR2 two3 = .tuple #[.int .i64 3, .int .i64 0] from by unfold allR2; rw [if_pos two3_hist, two3_many]; rfl]
  clear hb2 HA1 HB1
  go_upto_region 5 with fail
  have e28 : (if (10 : Int) < (l.length : Int) then (10 : Int) else (l.length : Int)) = ((l.take 10).length : Int) := by
    rw [HTL.out]
    split <;> omega
  rw [e28, Int.toNat_natCast]
  have h10 : (l.take 10).length ≤ 10 := by rw [HTL.out]; omega
  have hc10 : (l.take 10).length ≤ c := by rw [HTL.out]; omega
  clear e28 HTL
  generalize l.take 10 = L at *
  have HAL := Lib.hid (all_any A c L w2 (HR.out w2 HB2.out) h10 HI.out)
  go_wp2_with fail
  refine HAL.out.mono ?_
  rintro e w3 ⟨hb3, rfl⟩
  have HB3 := Lib.hid (HB2.out.trans (hb3.mono HB2.out.size))
  have HHI := Lib.hid (historyE_any A c L w3 (HR.out w3 HB3.out) hc10 (by unfold maxLen; exact hcm))
  clear hb3 HAL HB2
  by_cases hz : history L = 0
  case neg =>
    have HP : Hid (allR2 L = .tuple #[.int .i64 0, .int .i64 (history L)]) := if_neg hz
    rw [HP.out]
    go_wp2_with fail
    refine HHI.out.mono ?_
    rintro e w4 ⟨rfl, hb4⟩
    have HB4 := Lib.hid (HB3.out.trans (hb4.mono HB3.out.size))
    generalize history L = r at *
    have e1 : (r != 0) = true := by simpa using hz
    clear hb4 hz HHI HP
    go_wp2_with fail
    go_ret
    exact ⟨by simp, HB4.out⟩
  have HP : Hid (allR2 L = .tuple #[.int .i64 (manyF L : Int), .int .i64 0]) := if_pos hz
  rw [HP.out]
  have hm1 := many_small h10
  rw [hz] at HHI
  have HPA := Lib.hid (fun (w' : World) (hb : Below w.heap.size w w') => past_any A c L w' (HR.out w' hb) (by omega))
  clear HP hz
  go_wp2_with fail
  refine HHI.out.mono ?_
  rintro e w4 ⟨rfl, hb4⟩
  have HB4 := Lib.hid (HB3.out.trans (hb4.mono HB3.out.size))
  have HPB := Lib.hid (HPA.out w4 HB4.out)
  clear hb4 HPA HHI
  go_wp2_with fail
  refine HPB.out.mono ?_
  rintro e w5 ⟨gp, rfl, hmat, hb5⟩
  have HB5 := Lib.hid (HB4.out.trans (hb5.mono HB4.out.size))
  have HMT := Lib.hid hmat
  clear hb5 hmat HPB
  go_wp2_with fail
  have hN : 2 ^ L.length ≤ 1024 := by
    have : 2 ^ L.length ≤ 2 ^ 10 := Nat.pow_le_pow_right (by decide) h10
    omega
  have e50 : wrap64 ((2 : Int) ^ L.length) = ((2 ^ L.length : Nat) : Int) := by
    have e : ((2 : Int) ^ L.length) = ((2 ^ L.length : Nat) : Int) := by push_cast; rfl
    rw [e]
    exact wrapN _ hN
  rw [e50]
  have HMF : Hid (manyTo L (2 ^ L.length) = manyF L) := rfl
  generalize 2 ^ L.length = N at *
  clear e50
  go_loopg [51, 9] N (fun gk v51 v9 wr => ∃ t : Nat, gk = N - t ∧ t ≤ N ∧ v51 = .int .i64 t ∧ v9 = .int .i64 (manyTo L t : Int) ∧ w5 = wr)
  case atStart => exact ⟨0, by omega, by omega, rfl, rfl, rfl⟩
  case round =>
    obtain ⟨t, hgk, ht, rfl, rfl, rfl⟩ := hrel
    have HGK := Lib.hid hgk
    clear hgk
    by_cases htl : t < N
    · have htn : (t : Int) < (N : Int) := by omega
      go_wp2_with fail
      go_loopg [56, 11] L.length (fun gk i v wr => ∃ (a : Nat) (b : Bool), gk = L.length - a ∧ a ≤ L.length ∧ i = .int .i64 a ∧ v = .bool b ∧ (b = true ↔ CloTo L t a) ∧ w5 = wr)
      case atStart => exact ⟨0, true, by omega, by omega, rfl, rfl, ⟨fun _ i hi => by omega, fun _ => rfl⟩, rfl⟩
      case round =>
        obtain ⟨a, b, hga, ha, rfl, rfl, hb, rfl⟩ := hrel
        have HGA := Lib.hid hga
        have HB := Lib.hid hb
        clear hga hb
        by_cases hal : a < L.length
        · have han : (a : Int) < (L.length : Int) := by omega
          go_wp2_with fail
          go_loopg [60, 11] a (fun gk i v wr => ∃ (k : Nat) (b : Bool), gk = a - k ∧ k ≤ a ∧ i = .int .i64 k ∧ v = .bool b ∧ (b = true ↔ CloTo L t a ∧ CloIn L t a k) ∧ w5 = wr)
          case atStart => exact ⟨0, b, by omega, by omega, rfl, rfl, ⟨fun h => ⟨HB.out.1 h, fun k hk => by omega⟩, fun h => HB.out.2 h.1⟩, rfl⟩
          case round =>
            obtain ⟨k, b2, hgk2, hk, rfl, rfl, hb2, rfl⟩ := hrel
            have HGK2 := Lib.hid hgk2
            have HB2 := Lib.hid hb2
            clear hgk2 hb2 HB
            by_cases hkl : k < a
            · have hkn : (k : Int) < (a : Int) := by omega
              go_upto_region 21 with fail
              cases b2
              case false =>
                have hno : ¬ (CloTo L t a ∧ CloIn L t a (k + 1)) := fun h => by
                  have := HB2.out.2 ⟨h.1, fun k' hk' => h.2 k' (by omega)⟩
                  cases this
                have HNO := Lib.hid hno
                clear hno
                go_wp2_with fail
                go_roundg (a - (k + 1))
                case measure => have := HGK2.out; omega
                case rel => exact ⟨k + 1, false, rfl, by omega, by go_num, rfl, ⟨fun h => (by cases h), fun h => absurd h HNO.out⟩, rfl⟩
              case true =>
                have hba := bit_and t a (by omega)
                have hbk := bit_and t k (by omega)
                by_cases h1 : t.testBit a = true
                case neg =>
                  rw [if_neg h1] at hba
                  have HYES : Hid (CloTo L t a ∧ CloIn L t a (k + 1)) := ⟨(HB2.out.1 rfl).1, fun k' _ h2 => absurd h2 h1⟩
                  clear h1 hbk
                  go_wp2_with fail
                  go_roundg (a - (k + 1))
                  case measure => have := HGK2.out; omega
                  case rel => exact ⟨k + 1, true, rfl, by omega, by go_num, rfl, ⟨fun _ => HYES.out, fun _ => rfl⟩, rfl⟩
                rw [if_pos h1] at hba
                obtain ⟨gp', hgp', _, hmat⟩ := HMT.out
                injection hgp' with hgp'
                injection hgp' with hgp' _
                subst hgp'
                obtain ⟨ga, _, c1, c2⟩ := hmat a hal
                have c3 := c2 k (by omega)
                have hkL : (k : Int) < (L.length : Int) := by omega
                have HBE : Hid (befB L a k = true ↔ Bef L a k) := by show _ ↔ _; unfold befB; exact @decide_eq_true_iff _ (Classical.propDecidable _)
                have HH := Lib.hid (HB2.out.1 rfl)
                have H1 := Lib.hid h1
                generalize befB L a k = bb at *
                clear c2 hmat h1
                cases bb
                case false =>
                  have HYES : Hid (CloTo L t a ∧ CloIn L t a (k + 1)) := ⟨HH.out.1, fun k' hk' h2 h3 => by
                    by_cases e : k' = k
                    · subst e
                      have := HBE.out.2 h3
                      cases this
                    · exact HH.out.2 k' (by omega) h2 h3⟩
                  clear hbk
                  go_wp2_with fail
                  go_roundg (a - (k + 1))
                  case measure => have := HGK2.out; omega
                  case rel => exact ⟨k + 1, true, rfl, by omega, by go_num, rfl, ⟨fun _ => HYES.out, fun _ => rfl⟩, rfl⟩
                case true =>
                  by_cases h2 : t.testBit k = true
                  · rw [if_pos h2] at hbk
                    have HYES : Hid (CloTo L t a ∧ CloIn L t a (k + 1)) := ⟨HH.out.1, fun k' hk' h3 h4 => by
                      by_cases e : k' = k
                      · subst e
                        exact h2
                      · exact HH.out.2 k' (by omega) h3 h4⟩
                    clear h2
                    go_wp2_with fail
                    go_roundg (a - (k + 1))
                    case measure => have := HGK2.out; omega
                    case rel => exact ⟨k + 1, true, rfl, by omega, by go_num, rfl, ⟨fun _ => HYES.out, fun _ => rfl⟩, rfl⟩
                  · rw [if_neg h2] at hbk
                    have HNO : Hid (¬ (CloTo L t a ∧ CloIn L t a (k + 1))) := fun h => h2 (h.2 k (by omega) H1.out (HBE.out.1 rfl))
                    clear h2
                    go_wp2_with fail
                    go_roundg (a - (k + 1))
                    case measure => have := HGK2.out; omega
                    case rel => exact ⟨k + 1, false, rfl, by omega, by go_num, rfl, ⟨fun h => (by cases h), fun h => absurd h HNO.out⟩, rfl⟩
            · obtain rfl : k = a := by omega
              have hkn : ¬ (k : Int) < (k : Int) := by omega
              go_wp2_with fail
              go_roundg (L.length - (k + 1))
              case measure => have := HGA.out; omega
              case rel => exact ⟨k + 1, b2, rfl, by omega, by go_num, rfl, HB2.out.trans ⟨fun h i hi k' hk' h3 h4 => by
                by_cases e : i = k
                · subst e
                  exact h.2 k' hk' h3 h4
                · exact h.1 i (by omega) k' hk' h3 h4, fun h => ⟨fun i hi => h i (by omega), fun k' hk' => h k (by omega) k' hk'⟩⟩, rfl⟩
        · obtain rfl : a = L.length := by omega
          have han : ¬ (L.length : Int) < (L.length : Int) := by omega
          have HMS := Lib.hid (many_succ L t)
          have hml := many_le L t
          have HOK : Hid (b = true ↔ okM L t = true) := HB.out.trans okM_iff.symm
          generalize okM L t = ok at *
          clear HB
          cases b
          case false =>
            have HM2 : Hid (manyTo L (t + 1) = manyTo L t) := by
              show _ = _
              rw [HMS.out, if_neg (fun h => by have := HOK.out.2 h; cases this)]
              rfl
            go_wp2_with fail
            go_roundg (N - (t + 1))
            case measure => have := HGK.out; omega
            case rel => exact ⟨t + 1, rfl, by omega, by go_num, by rw [HM2.out], rfl⟩
          case true =>
            have HM2 : Hid (manyTo L (t + 1) = manyTo L t + 1) := by
              show _ = _
              rw [HMS.out, if_pos (HOK.out.1 rfl)]
            go_wp2_with fail
            go_roundg (N - (t + 1))
            case measure => have := HGK.out; omega
            case rel => exact ⟨t + 1, rfl, by omega, by go_num, by rw [HM2.out]; go_num, rfl⟩
    · obtain rfl : t = N := by omega
      have htn : ¬ (t : Int) < (t : Int) := by omega
      rw [HMF.out]
      clear HMT
      go_wp2_with fail
      go_ret
      exact ⟨by simp, HB5.out⟩
end Go.Proofs.Ytgkckldflfalgaa
