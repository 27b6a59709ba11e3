/-
  ShrinkEach: the list that shrink.Each returns fails, and no single element can be decreased. For every input, no condition.
-/
import Derived.Test.YtjblfkoepedhpaaEach
import Derived.RegionTactic
import Derived.BigRegion
import Derived.IntWalk
namespace Go.Proofs.Ytjblfkoepedhpaa
open Go.ChangeShapes Go.WideShapes Go.ChangeAt Go.RowKit

theorem enters_e1 : Enters 42 := fun _ _ => by kernel_rfl
theorem enters_e2 : Enters 43 := fun _ _ => by kernel_rfl
theorem enters_e3 : Enters 44 := fun _ _ => by kernel_rfl

def first1 (zs : List Int) : Bool := decide (1 < zs.length) && decide (4 ≤ zs.getD 1 0)
theorem tests1 (W : World) : Tests W 2 42 #[] first1 := by
  intro zs A c w hl _ _ hr
  show Calls Try.prog 42 #[.slice A zs.length c] w _
  have e : first1 zs = decide (4 ≤ zs.getD 1 0) := by simp [first1, hl]
  rw [e, hl]
  clear e
  obtain ⟨b, o, rfl, _, hc⟩ := hr.int (show 1 < zs.length by omega)
  generalize zs.getD 1 0 = x at *
  clear hl
  go_enter Try.func42, Try.ntmps42
  go_wp2_with fail
  go_ret
  exact ⟨rfl, rfl⟩

theorem each3_any (x : Int) (w : World) : Calls Try.prog 44 (#[.int .i64 x] ++ #[]) w fun e w' => e = .returned (.bool (Each1 x)) ∧ w = w' := by
  show Calls Try.prog 44 #[.int .i64 x] w _
  unfold Each1
  by_cases h1 : x < 0
  · have d1 : decide (x < 0) = true := by simp; omega
    rw [d1]
    go_enter Try.func44, Try.ntmps44
    go_wp2_with fail
    go_ret
    exact ⟨rfl, rfl⟩
  · have d1 : decide (x < 0) = false := by simp; omega
    rw [d1, Bool.false_or]
    go_enter Try.func44, Try.ntmps44
    go_wp2_with fail
    go_ret
    exact ⟨rfl, rfl⟩

/-- The sum of the first k elements, all but the first cut at 'most'. -/
def cutSum (M : Int) (zs : List Int) : Nat → Int
  | 0 => 0
  | k + 1 => cutSum M zs k + (if 0 < k then min (zs.getD k 0) M else zs.getD k 0)
def atLeast (L M : Int) (zs : List Int) : Bool := decide (L ≤ cutSum M zs zs.length)
theorem cutSum_bd (M : Int) (zs : List Int) (h : InR zs) (h1 : 1 ≤ M) (h2 : M ≤ 9) (k : Nat) : 0 ≤ cutSum M zs k ∧ cutSum M zs k ≤ 1000 * k := by
  induction k with
  | zero => simp [cutSum]
  | succ k ih =>
    have hz : 0 ≤ zs.getD k 0 ∧ zs.getD k 0 ≤ 1000 := by
      by_cases hi : k < zs.length
      · have := h (zs[k]'hi) (List.getElem_mem _)
        simpa [List.getD_eq_getElem?_getD, hi] using this
      · simp [List.getD_eq_getElem?_getD, List.getElem?_eq_none (show zs.length ≤ k by omega)]
    unfold cutSum
    split <;> omega

set_option maxRecDepth 100000 in
set_option maxHeartbeats 1000000 in
theorem tests2 (W : World) (n gL gM : Nat) (L M : Int) (hn : n ≤ 200) (h1 : 1 ≤ M) (h2 : M ≤ 9) (hL : Box W gL 3 #[.int .i64 L]) (hM : Box W gM 3 #[.int .i64 M]) :
    Tests W n 43 #[.pointer (some ⟨gM, 0, none⟩), .pointer (some ⟨gL, 0, none⟩)] (atLeast L M) := by
  intro zs A c w hl hin hb hr
  show Calls Try.prog 43 #[.slice A zs.length c, .pointer (some ⟨gM, 0, none⟩), .pointer (some ⟨gL, 0, none⟩)] w _
  have cL : w.cell? ⟨gL, 0, none⟩ = some (.int .i64 L) := by simpa using (hL.below hb hL.lt).cell 0
  have cM : w.cell? ⟨gM, 0, none⟩ = some (.int .i64 M) := by simpa using (hM.below hb hM.lt).cell 0
  have HBD := Lib.hid (cutSum_bd M zs hin h1 h2)
  have hl2 : zs.length ≤ 200 := by omega
  clear hL hM hb hin hl
  unfold atLeast
  go_enter Try.func43, Try.ntmps43
  go_wp2_with fail
  go_loop [5, 10] (fun s i => ∃ k : Nat, k ≤ zs.length ∧ i = .int .i64 k ∧ s = .int .i64 (cutSum M zs k)) (fun _ i => zs.length - (intOf i).toNat)
  case atStart => exact ⟨0, by omega, rfl, rfl⟩
  case round =>
    obtain ⟨k, hk, rfl, rfl⟩ := hrel
    by_cases hlt : k < zs.length
    · obtain ⟨b, o, rfl, _, hc⟩ := hr.int hlt
      have hbk := HBD.out k
      have hbk1 := HBD.out (k + 1)
      have HE := Lib.hid (show cutSum M zs (k + 1) = cutSum M zs k + (if 0 < k then min (zs.getD k 0) M else zs.getD k 0) from rfl)
      rw [HE.out] at hbk1
      generalize zs.getD k 0 = z at *
      generalize cutSum M zs k = S at *
      by_cases hk0 : 0 < k
      · rw [if_pos hk0] at HE hbk1
        have d0 : decide ((0 : Int) < (k : Int)) = true := by simp; omega
        have d0' : decide (0 < k) = true := by simp; omega
        have hcase : (M < z ∧ min z M = M) ∨ (¬ M < z ∧ min z M = z) := by omega
        rcases hcase with ⟨hzm, hmn⟩ | ⟨hzm, hmn⟩
        all_goals
          rw [hmn] at HE hbk1
          clear hmn
          go_wp2_with fail
          go_round
          case rel => exact ⟨k + 1, by omega, by go_num, by rw [HE.out]⟩
          case measure => simp [intOf]; omega
      · rw [if_neg hk0] at HE hbk1
        have d0 : decide ((0 : Int) < (k : Int)) = false := by simp; omega
        have d0' : decide (0 < k) = false := by simp; omega
        go_wp2_with fail
        go_round
        case rel => exact ⟨k + 1, by omega, by go_num, by rw [HE.out]⟩
        case measure => simp [intOf]; omega
    · obtain rfl : k = zs.length := by omega
      go_wp2_with fail
      go_ret
      exact ⟨rfl, rfl⟩

theorem first_is (zs : List Int) (hl : zs.length = 2) (h0 : 0 ≤ zs.getD 0 0) (h1 : 0 ≤ zs.getD 1 0) (hf : first1 zs = true) (hm : MinTo first1 zs zs.length) : zs = [0, 4] := by
  match zs, hl with
  | [a, b], _ =>
    simp [first1] at hf h0 h1
    have ha : a = 0 := by
      rcases Int.lt_or_le 0 a with h | h
      · have := hm 0 (by simp) 0 (by omega) (by simpa using h)
        simp [first1] at this
        omega
      · omega
    have hb : b = 4 := by
      rcases Int.lt_or_le 4 b with h | h
      · have := hm 1 (by simp) 4 (by omega) (by simpa using h)
        simp [first1] at this
      · omega
    rw [ha, hb]

theorem row_of_box {w : World} {g : Nat} {t : TypeId} {cs : Array Value} (h : Box w g t cs) {B : Nat} (hB : g < B) : Row w B (some ⟨g, 0, none⟩) cs.toList := fun _ =>
  ⟨g, 0, rfl, hB, fun i v hv => by rw [Nat.zero_add, h.cell]; simpa using hv⟩
theorem most_bd (m : Int) : 1 ≤ wrap64 (1 + wrap64 ((IntKind.u64.wrap m).tmod 9)) ∧ wrap64 (1 + wrap64 ((IntKind.u64.wrap m).tmod 9)) ≤ 9 := by
  have h : 0 ≤ IntKind.u64.wrap m := by
    simp [IntKind.wrap, IntKind.signed, IntKind.bits]
    omega
  generalize IntKind.u64.wrap m = x at *
  rw [Int.tmod_eq_emod_of_nonneg h]
  have h1 : 0 ≤ x % 9 ∧ x % 9 < 9 := by omega
  rw [IntWalk.wrap64_in (x % 9) (by omega), IntWalk.wrap64_in _ (by omega)]
  omega
/-- The two numbers' boxes behind the first statements. -/
def TwoBox (W w : World) (L M : Int) : Prop := Box w W.heap.size 3 #[.int .i64 L] ∧ Box w (W.heap.size + 1) 3 #[.int .i64 M] ∧ Below W.heap.size W w
theorem twoBox_new (W : World) (L M : Int) : TwoBox W ((W.alloc (.cells #[.int .i64 L] 3)).alloc (.cells #[.int .i64 M] 3)) L M :=
  ⟨(Box.new W _ _).alloc _, by simpa using Box.new (W.alloc (.cells #[.int .i64 L] 3)) 3 #[.int .i64 M], ((Below.refl _ _).alloc (Nat.le_refl _) _).alloc (by simp) _⟩

set_option maxRecDepth 100000 in
set_option maxHeartbeats 4000000 in
theorem shrinkEach_walk (A : Option Addr) (c : Nat) (xs : List Int) (L0 M0 : Int) (W : World) (ra : Row W W.heap.size A (ints xs)) (hA : A = none → c = 0) (hm : xs.length ≤ maxLen) :
    Calls Try.prog 8 #[.slice A xs.length c, .int .i64 L0, .int .i64 M0] W fun e w' => e = .returned (.bool true) ∧ Below W.heap.size W w' := by
  unfold maxLen at hm
  go_enter Try.func8, Try.ntmps8
  go_wp2_with fail
  have t0 := twoBox_new W L0 M0
  have HS1 := Lib.hid (show ((W.alloc (.cells #[.int .i64 L0] 3)).alloc (.cells #[.int .i64 M0] 3)).heap.size = W.heap.size + 1 + 1 by simp)
  generalize (W.alloc (.cells #[.int .i64 L0] 3)).alloc (.cells #[.int .i64 M0] 3) = w1 at *
  have r1 : Row (w1.alloc (.cells #[.int .i64 5, .int .i64 9] 3)) (w1.alloc (.cells #[.int .i64 5, .int .i64 9] 3)).heap.size (some ⟨W.heap.size + 1 + 1, 0, none⟩) (ints [5, 9]) :=
    row_of_box (cs := #[.int .i64 5, .int .i64 9]) (t := 3) (by rw [← HS1.out]; exact Box.new _ _ _) (by simp; rw [HS1.out]; omega)
  have t1 : TwoBox W (w1.alloc (.cells #[.int .i64 5, .int .i64 9] 3)) L0 M0 := ⟨t0.1.alloc _, t0.2.1.alloc _, t0.2.2.alloc t0.2.2.size _⟩
  generalize w1.alloc (.cells #[.int .i64 5, .int .i64 9] 3) = w2 at *
  refine (each_ok _ _ [5, 9] 42 #[] first1 w2 enters_e1 r1 (fun h => by cases h) (by simp) (by decide) (tests1 w2) (by decide)).mono ?_
  rintro e w3 ⟨v3, zs3, rfl, ⟨hown3, hb3, hl3, hz3, hf3⟩, hmin3⟩
  obtain rfl := first_is zs3 hl3 (hz3 0).1 (hz3 1).1 hf3 hmin3
  obtain ⟨A3, c3, rfl, hr3, _⟩ := row_of_own_int hown3
  have t3 : TwoBox W w3 L0 M0 := ⟨t1.1.below hb3 t1.1.lt, t1.2.1.below hb3 t1.2.1.lt, t1.2.2.trans (hb3.mono t1.2.2.size)⟩
  clear hown3 hb3 hl3 hz3 hf3 hmin3 t0 t1 r1 HS1
  go_wp2_with fail
  have r4 : Row (w3.alloc (.cells #[.int .i64 0, .int .i64 4] 3)) (w3.heap.size + 1) (some ⟨w3.heap.size, 0, none⟩) (ints [0, 4]) :=
    row_of_box (cs := #[.int .i64 0, .int .i64 4]) (Box.new w3 3 #[.int .i64 0, .int .i64 4]) (Nat.lt_succ_self _)
  have hr3' : Row (w3.alloc (.cells #[.int .i64 0, .int .i64 4] 3)) w3.heap.size A3 (ints [0, 4]) := hr3.below ((Below.refl _ _).alloc (Nat.le_refl _) _)
  refine (equal_any _ _ _ _ [0, 4] [0, 4] _ _ _ hr3' r4 (by unfold maxLen; simp) (by unfold maxLen; simp)).mono ?_
  rintro e w' ⟨rfl, nq, rfl⟩
  rw [show decide (([0, 4] : List Int) = [0, 4]) = true by decide]
  have t4 : TwoBox W ((w3.alloc (.cells #[.int .i64 0, .int .i64 4] 3)).drewN nq) L0 M0 := ⟨(t3.1.alloc _).drewN nq, (t3.2.1.alloc _).drewN nq, below_drewN (t3.2.2.alloc t3.2.2.size _) nq⟩
  generalize (w3.alloc (.cells #[.int .i64 0, .int .i64 4] 3)).drewN nq = w4 at *
  clear r4 hr3' hr3 t3
  obtain ⟨x4, x5, xb⟩ := t4
  have c4 : w4.cell? ⟨W.heap.size, 0, none⟩ = some (.int .i64 L0) := by simpa using x4.cell 0
  have c5 : w4.cell? ⟨W.heap.size + 1, 0, none⟩ = some (.int .i64 M0) := by simpa using x5.cell 0
  have f4 := x4.frozen 0
  have f5 := x5.frozen 0
  have HMB := Lib.hid (most_bd M0)
  go_wp2_with fail
  go_region
  generalize wrap64 ((IntKind.u64.wrap L0).tmod 100) = L at *
  generalize wrap64 (1 + wrap64 ((IntKind.u64.wrap M0).tmod 9)) = M at *
  have t5 : TwoBox W (((w4.setCell ⟨W.heap.size, 0, none⟩ (.int .i64 L)).setCell ⟨W.heap.size + 1, 0, none⟩ (.int .i64 M)).drew) L M :=
    ⟨((x4.set 0 (.int .i64 L)).far (p := ⟨W.heap.size + 1, 0, none⟩) (by simp) _).drew, ((x5.far (p := ⟨W.heap.size, 0, none⟩) (by simp) _).set 0 _).drew, ((xb.setCell (p := ⟨W.heap.size, 0, none⟩) (Nat.le_refl _) _).setCell (p := ⟨W.heap.size + 1, 0, none⟩) (by simp) _).drew⟩
  generalize ((w4.setCell ⟨W.heap.size, 0, none⟩ (.int .i64 L)).setCell ⟨W.heap.size + 1, 0, none⟩ (.int .i64 M)).drew = w5 at *
  clear x4 x5 xb c4 c5 f4 f5
  obtain ⟨y4, y5, yb⟩ := t5
  have ra5 := (ra.below yb).more yb.size
  by_cases hlen : 200 < xs.length
  · go_wp2_with fail
    refine (each_large _ _ _ _ _ hlen).mono ?_
    rintro e w' ⟨rfl, rfl⟩
    go_wp2_with fail
    go_ret
    exact ⟨rfl, yb⟩
  have HT := Lib.hid (tests2 w5 xs.length _ _ L M (by omega) HMB.out.1 HMB.out.2 y4 y5)
  have HCF := Lib.hid (fun w (h : Below W.heap.size W w) => containsFunc_any A c xs 44 #[] Each1 W.heap.size (fun u => w = u) w enters_e3 (by unfold maxLen; omega) (fun u hu => by subst hu; exact ra.below h) (fun x _ u hu => by subst hu; exact each3_any x w) rfl)
  have d200 : decide (200 < (xs.length : Int)) = false := by simp; omega
  by_cases hany : xs.any Each1 = true
  · have HAN := Lib.hid hany
    go_wp2_with fail
    refine (each_arg _ _ xs _ _ ra5 (by omega) hany).mono ?_
    rintro e w' ⟨rfl, rfl⟩
    clear hany
    go_wp2_with fail
    refine (HCF.out _ yb).mono ?_
    rintro e w' ⟨rfl, rfl⟩
    rw [HAN.out]
    go_wp2_with fail
    go_ret
    exact ⟨rfl, yb⟩
  have hany' : xs.any Each1 = false := by simpa using hany
  have HAN := Lib.hid hany'
  have HIR := Lib.hid (inR_of xs hany')
  clear hany
  by_cases hf : atLeast L M xs = true
  · have HF := Lib.hid hf
    go_wp2_with fail
    refine (each_ok _ _ xs _ _ _ w5 enters_e2 ra5 hA (by omega) hany' HT.out hf).mono ?_
    rintro e w6 ⟨v6, zs, rfl, hst, hmin⟩
    clear hf hany'
    have hst6 := hst
    obtain ⟨hown6, hb6, hl6, hz6, hf6⟩ := hst6
    have hr6' := row_of_own_int hown6
    obtain ⟨A6, c6, rfl, hr6, _, _, hn6⟩ := hr6'
    have hb6' : Below W.heap.size W w6 := yb.trans (hb6.mono yb.size)
    have HMIN := Lib.hid hmin
    have HZ := Lib.hid hz6
    have HL6 := Lib.hid hl6
    have HF6 := Lib.hid hf6
    have HIR6 := Lib.hid (hst.inR HIR.out)
    have hzl : zs.length ≤ 200 := by omega
    rw [hl6]
    clear hmin hz6 hl6 hf6 hst hown6
    go_wp2_with fail
    refine (HCF.out _ hb6').mono ?_
    rintro e w' ⟨rfl, rfl⟩
    rw [HAN.out]
    go_wp2_with fail
    refine (clone_any A c xs _ _ (ra.below hb6') hA (by omega)).mono ?_
    rintro e w7 ⟨v7, rfl, hown7, hb7⟩
    obtain ⟨A7, c7, rfl, hr7, _⟩ := row_of_own_int hown7
    have hb7' : Below w5.heap.size w5 w7 := hb6.trans (hb7.mono hb6.size)
    clear hown7
    have he2 := enters_e2
    unfold Enters at he2
    go_wp2_with fail
    refine (HT.out xs A7 c7 w7 rfl HIR.out hb7' hr7).mono ?_
    rintro e w' ⟨rfl, rfl⟩
    rw [HF.out]
    go_wp2_with fail
    refine (clone_len A6 c6 zs _ _ w7 (hr6.below hb7) hn6 (by omega) HL6.out).mono ?_
    rintro e w8 ⟨v8, rfl, hown8, hb8⟩
    obtain ⟨A8, c8, rfl, hr8, _⟩ := row_of_own_int hown8
    have hb8' : Below w5.heap.size w5 w8 := hb7'.trans (hb8.mono hb7'.size)
    clear hown8
    go_wp2_with fail
    refine (HT.out zs A8 c8 w8 HL6.out HIR6.out hb8' hr8).mono ?_
    rintro e w' ⟨rfl, rfl⟩
    rw [HF6.out]
    have HB76 := Lib.hid (hb7.trans (hb8.mono hb7.size))
    have hr9 : Row w8 w6.heap.size A6 (ints zs) := (hr6.below hb7).below (hb8.mono hb7.size)
    have ra9 : Row w8 W.heap.size A (ints xs) := ra.below (yb.trans (hb8'.mono yb.size))
    clear hr8 hr7 hb7 hb7' hb8
    go_wp2_with fail
    have h8W : Below W.heap.size W w8 := yb.trans (hb8'.mono yb.size)
    have hs8 : w5.heap.size ≤ w8.heap.size := hb8'.size
    have hs6 : w6.heap.size ≤ w8.heap.size := Nat.le_trans HB76.out.size (Nat.le_refl _)
    go_loopw [96] (fun i wr => ∃ k : Nat, k ≤ xs.length ∧ i = .int .i64 k ∧ Below w8.heap.size w8 wr) (fun i _ => xs.length - (intOf i).toNat)
    case atStart => exact ⟨0, by omega, rfl, Below.refl _ _⟩
    case round =>
      obtain ⟨k, hk, rfl, hbo⟩ := hrel
      obtain ⟨wo, rfl⟩ : ∃ wo : World, wo = wr := ⟨_, rfl⟩
      by_cases hlt : k < xs.length
      · have hlz : k < zs.length := by rw [HL6.out]; exact hlt
        obtain ⟨b6, o6, e6, _, hc6⟩ := (hr9.more hs6 |>.below hbo).int hlz
        obtain ⟨bx, ox, ex, _, hcx⟩ := (ra9.more h8W.size |>.below hbo).int hlt
        subst e6 ex
        have hzk := HZ.out k
        have HMK := Lib.hid (fun x => HMIN.out k hlz x)
        have HR9 := Lib.hid hr9
        generalize hzeq : zs.getD k 0 = zk at *
        generalize xs.getD k 0 = xk at *
        obtain ⟨zn, rfl⟩ := Int.eq_ofNat_of_zero_le hzk.1
        have hzk2 : (zn : Int) ≤ xk := hzk.2
        have HZN := Lib.hid (show (zn : Int) ≤ 1000 by
          have := HIR6.out (zs[k]'hlz) (List.getElem_mem _)
          have e : zs.getD k 0 = zs[k] := by simp [List.getD_eq_getElem?_getD, hlz]
          rw [← e, hzeq] at this
          exact this.2)
        have hzn := HZN.out
        have d1 : decide ((zn : Int) < 0) = false := by simp
        have d2 : decide (xk < (zn : Int)) = false := by simp; omega
        have hk1 : (k : Int) < (xs.length : Int) := by omega
        clear hzk hr9 hzeq
        go_wp2_with fail
        go_quiet (fail)
        go_wp2_with fail
        go_loopw [119] (fun y wq => ∃ Y : Nat, Y ≤ zn ∧ y = .int .i64 Y ∧ Below w8.heap.size w8 wq) (fun y _ => zn - (intOf y).toNat)
        case atStart => exact ⟨0, by omega, rfl, below_drewN hbo _⟩
        case round =>
          obtain ⟨Y, hY, rfl, hbq⟩ := hrel
          by_cases hly : Y < zn
          · have HNO := Lib.hid (HMK.out Y (by omega) (by omega))
            go_wp2_with fail
            refine (clone_len _ c6 zs _ _ wr ((HR9.out.more hs6).below hbq) (fun h => by cases h) (by omega) HL6.out).mono ?_
            rintro e w10 ⟨v10, rfl, hown10, hb10⟩
            obtain ⟨A10, c10, rfl, _⟩ := row_of_own_int hown10
            obtain ⟨g10, hA10, hgW10, hgl10, hcell10, hfz10, hset10⟩ := own_cell_int (k := k) hown10 hlz
            subst hA10
            obtain ⟨hown11, hso11⟩ := hset10 Y
            have hb11 := hso11.below hb10 hb10.size hgW10
            have hb11' : Below w8.heap.size w8 (w10.setCell ⟨g10, k, none⟩ (.int .i64 Y)) := hbq.trans (hb11.mono hbq.size)
            obtain ⟨A11, c11, hv11, hr11, _⟩ := row_of_own_int hown11
            injection hv11 with e11 _ e12
            subst e11 e12
            have hcall := HT.out (zs.set k Y) (some ⟨g10, 0, none⟩) c10 (w10.setCell ⟨g10, k, none⟩ (.int .i64 Y)) (by rw [List.length_set]; exact HL6.out) (inR_set HIR6.out k Y (by omega) (by omega)) (hb8'.trans (hb11'.mono hs8)) hr11
            rw [List.length_set, HNO.out] at hcall
            have HC := Lib.hid hcall
            have hkz : (k : Int) < (zs.length : Int) := by omega
            clear hcall hb11 hso11 hown11 hset10 hr11 hown10 hb10
            go_wp2_with fail
            refine HC.out.mono ?_
            rintro e w' ⟨rfl, rfl⟩
            go_wp2_with fail
            go_roundw
            case rel => exact ⟨Y + 1, by omega, by go_num, hb11'⟩
            case measure => simp [intOf]; omega
          · go_wp2_with fail
            go_roundw
            case rel => exact ⟨k + 1, by omega, by go_num, hbq⟩
            case measure => simp [intOf]; omega
      · go_wp2_with fail
        go_ret
        exact ⟨rfl, h8W.trans (hbo.mono h8W.size)⟩
  · have hf' : atLeast L M xs = false := by simpa using hf
    have HF := Lib.hid hf'
    go_wp2_with fail
    refine (each_none _ _ xs _ _ _ w5 enters_e2 ra5 hA (by omega) hany' HT.out hf').mono ?_
    rintro e w6 ⟨rfl, hb6⟩
    have hb6' : Below W.heap.size W w6 := yb.trans (hb6.mono yb.size)
    clear hf hf' hany'
    go_wp2_with fail
    refine (HCF.out _ hb6').mono ?_
    rintro e w' ⟨rfl, rfl⟩
    rw [HAN.out]
    go_wp2_with fail
    refine (clone_any A c xs _ _ (ra.below hb6') hA (by omega)).mono ?_
    rintro e w7 ⟨v7, rfl, hown7, hb7⟩
    obtain ⟨A7, c7, rfl, hr7, _⟩ := row_of_own_int hown7
    have hb7' : Below w5.heap.size w5 w7 := hb6.trans (hb7.mono hb6.size)
    have hb7'' : Below W.heap.size W w7 := yb.trans (hb7'.mono yb.size)
    clear hown7
    have he2 := enters_e2
    unfold Enters at he2
    go_wp2_with fail
    refine (HT.out xs A7 c7 w7 rfl HIR.out hb7' hr7).mono ?_
    rintro e w' ⟨rfl, rfl⟩
    rw [HF.out]
    go_wp2_with fail
    go_ret
    exact ⟨rfl, hb7''⟩

set_option maxRecDepth 100000 in
theorem shrinkEach_called : Called 8 Try.f8 := by
  intro H enc W base args ds p hval hA hsz
  rw [Try.params8] at hA hval
  obtain ⟨v0, v1, v2, d0, d1, d2, p0, p1, p2, rfl, rfl, rfl, h0, h1, h2⟩ := trodAll_three hA
  obtain ⟨A, c, xs, rfl, hr, hl, hm, _, hd⟩ := open_intRow Try.underlying27 Try.underlying3 (by kernel_rfl) (hval 0 27 v0 rfl rfl) h0
  obtain ⟨b, rfl, rfl, rfl, w1⟩ := open_int Try.underlying3 (hval 1 3 v1 rfl rfl) h1
  obtain ⟨t, rfl, rfl, rfl, w2⟩ := open_int Try.underlying3 (hval 2 3 v2 rfl rfl) h2
  refine shrinkEach_walk A c xs b t W hr (fun hn => ?_) (by omega)
  subst hn
  obtain ⟨fuel, hf⟩ := h0
  rcases open_ints Try.underlying27 Try.underlying3 (by kernel_rfl) hf with ⟨hcs, _⟩ | ⟨a, len', cap', zs, hcs, _⟩
  · simp [Value.cells] at hcs
    exact hcs.2
  · simp [Value.cells] at hcs

set_option maxRecDepth 100000 in
theorem shrinkEach_lifted (os : Os) (started : os.Started) (H : Type) (enc : TypeId × Value → H) :
    ReturnsInHanded {} Try.checked os 8 .any (Rows.shrinkEachSpec.pre6 enc Try.prog Try.f8 Rows.shrinkEachRow.domain false) (Rows.shrinkEachSpec.post enc Try.prog Try.f8 false true false false) :=
  law_lift started (by kernel_rfl) Try.func8
    (ChangeSpec.witness6 (enc := enc) (C := Try.checked) false ⟨#[], #[.slice none 0 0, .int .i64 0, .int .i64 0], []⟩ 8 (by kernel_rfl) (by kernel_rfl) (by kernel_rfl) (by kernel_rfl))
    rfl rfl (by kernel_rfl) (by kernel_rfl) (fun l hl => by
      rw [Try.params8] at hl
      match l, hl with
      | [d0, d1, d2], _ => rfl) shrinkEach_called

theorem shrinkEach_over : Rows.shrinkEachRow.holds Try.pinned (OpenSpec.ofChange Rows.shrinkEachSpec) :=
  OpenClaim.holds_of_wide 8 Try.f8 rfl rfl rfl rfl rfl rfl rfl ⟨rfl, rfl, rfl, rfl, rfl⟩ rfl rfl rfl rfl rfl (by kernel_rfl) Try.func8 (by kernel_rfl)
    (of_decide_eq_true (by kernel_rfl)) (by unfold Func.isWrapper; first | (rw [if_pos (by decide +kernel)]; kernel_rfl) | (rw [if_neg (by decide +kernel)]; exact ⟨rfl, rfl⟩))
    (fun os started H enc _ => shrinkEach_lifted os started H enc)

theorem shrinkEach_holds : Rows.ShrinkEachSaid := shrinkEach_over
end Go.Proofs.Ytjblfkoepedhpaa
