/-
  The law ShrinkSays' own tests: has it a nine; has it all that is needed, with at least a sum (and clears what it was handed); within.
-/
import Derived.Test.YtjblfkoepedhpaaList
import Derived.Lib.SliceRun
import Derived.Laws.IdiomCopy
namespace Go.Proofs.Ytjblfkoepedhpaa
open Go.RowKit

theorem enters_ss1 : Enters 85 := fun _ _ => by kernel_rfl
theorem enters_ss2 : Enters 87 := fun _ _ => by kernel_rfl
theorem enters_ss21 : Enters 88 := fun _ _ => by kernel_rfl

def hasB (y : Int) (xs : List Int) : Bool := xs.any (fun x => y == x)

theorem ss1_any (W : World) : Fails 85 #[] (hasB 9) W := by
  intro xs v w hl _ _ hown
  obtain ⟨A, c, rfl, hr, _, _, _⟩ := row_of_own_int hown
  have HC := Lib.hid (contains_ints A c xs 9 _ w hr (by unfold maxLen; omega))
  go_enter Try.func85, Try.ntmps85
  go_wp2_with fail
  refine HC.out.mono ?_
  rintro e w1 ⟨rfl, rfl⟩
  go_wp2_with fail
  go_ret
  exact ⟨rfl, World.grownBy.refl w _⟩

theorem ss21_any (g : Nat) (A : Option Addr) (c : Nat) (xs : List Int) (y : Int) (B : Nat) (w : World) (hg : w.cell? ⟨g, 0, none⟩ = some (.slice A xs.length c)) (hr : Row w B A (ints xs)) (hl : xs.length ≤ 200) :
    Calls Try.prog 88 #[.int .i64 y, .pointer (some ⟨g, 0, none⟩)] w fun e w' => e = .returned (.bool (!hasB y xs)) ∧ w = w' := by
  have HC := Lib.hid (contains_ints A c xs y B w hr (by unfold maxLen; omega))
  unfold hasB
  generalize (xs.any fun x => y == x) = bq at *
  cases bq
  · go_enter Try.func88, Try.ntmps88
    go_wp2_with fail
    refine HC.out.mono ?_
    rintro e w1 ⟨rfl, rfl⟩
    go_wp2_with fail
    go_ret
    exact ⟨rfl, rfl⟩
  · go_enter Try.func88, Try.ntmps88
    go_wp2_with fail
    refine HC.out.mono ?_
    rintro e w1 ⟨rfl, rfl⟩
    go_wp2_with fail
    go_ret
    exact ⟨rfl, rfl⟩

def clampI (n : Int) : Int := max 0 (min n 1000)
def sumC : List Int → Int
  | [] => 0
  | x :: r => clampI x + sumC r
theorem clampI_le (n : Int) : 0 ≤ clampI n ∧ clampI n ≤ 1000 := by unfold clampI; omega
theorem sumC_append (xs ys : List Int) : sumC (xs ++ ys) = sumC xs + sumC ys := by
  induction xs with
  | nil => simp [sumC]
  | cons x r ih => simp [sumC, ih]; omega
theorem sumC_le (xs : List Int) : 0 ≤ sumC xs ∧ sumC xs ≤ 1000 * xs.length := by
  induction xs with
  | nil => simp [sumC]
  | cons x r ih =>
    have := clampI_le x
    simp only [sumC, List.length_cons, Int.natCast_add]
    omega
theorem sumC_take (xs : List Int) {k : Nat} (h : k < xs.length) : sumC (xs.take (k + 1)) = sumC (xs.take k) + clampI (xs.getD k 0) := by
  rw [take_getD xs 0 h, sumC_append]
  simp [sumC]
/-- A list fails: its sum is large enough, and it has all that is needed. -/
def failsB (least : Int) (need xs : List Int) : Bool := decide (least ≤ sumC xs) && !(need.any fun n => !hasB n xs)

theorem grown_setCells {w : World} {g : Nat} : ∀ (vs : List Value) (o : Nat) (w' : World), Sole g w w' → Sole g w (w'.setCells g o vs)
  | [], _, _, h => h
  | v :: r, o, w', h => grown_setCells r (o + 1) _ (h.own o v)

/-- What clear makes of a row of the call's own. -/
theorem run_clear_own {w : World} {base : Nat} {v : Value} {xs : List Int} (hown : w.ownsRow base 3 1 v xs.length (ints xs)) :
    ∃ w', (∀ ty, (Builtin.clear_ #[27] ty #[v]).run Try.prog w = .ok (.tuple #[]) w') ∧ w.grownBy w' v.ownBlock := by
  rcases Nat.eq_zero_or_pos xs.length with h0 | hp
  · refine ⟨w, fun ty => ?_, World.grownBy.refl w _⟩
    rcases hown.2 with ⟨rfl, _⟩ | ⟨g, cap, cur, rfl, _⟩
    · simp [Builtin.clear_, run_underlying Try.underlying27]
    · rw [h0]
      simp [Builtin.clear_, run_underlying Try.underlying27]
  · rcases hown.2 with ⟨_, h0⟩ | ⟨g, cap, cur, rfl, _⟩
    · omega
    · refine ⟨w.setCells g 0 (List.replicate xs.length (.int .i64 0)), fun ty => ?_, grown_setCells _ _ _ (Sole.refl g w)⟩
      exact Lib.run_clear_slice w 27 3 ty (.int .i64 0) Try.underlying27 (fun w => by kernel_rfl) rfl rfl g 0 xs.length cap hp (fun j hj => by
        rw [Nat.zero_add, hown.cellAt j (by omega)]
        simp [ints, hj]) (fun j hj => hown.frozenAt _)

set_option maxRecDepth 100000 in
set_option maxHeartbeats 1000000 in
theorem ss2_any (gl gn : Nat) (least : Int) (An : Option Addr) (cn : Nat) (need : List Int) (W : World) (hgl : W.cell? ⟨gl, 0, none⟩ = some (.int .i64 least)) (hgn : W.cell? ⟨gn, 0, none⟩ = some (.slice An need.length cn)) (hrn : Row W W.heap.size An (ints need)) (hnl : need.length ≤ 5) :
    Fails 87 #[.pointer (some ⟨gl, 0, none⟩), .pointer (some ⟨gn, 0, none⟩)] (failsB least need) W := by
  intro xs v w hl _ hb hown
  obtain ⟨A, c, rfl, hr, hc, hm, _⟩ := row_of_own_int hown
  have h1 : w.cell? ⟨gl, 0, none⟩ = some (.int .i64 least) := (hb.cell (p := ⟨gl, 0, none⟩) (lt_of_cell hgl)).trans hgl
  have h2 : w.cell? ⟨gn, 0, none⟩ = some (.slice An need.length cn) := (hb.cell (p := ⟨gn, 0, none⟩) (lt_of_cell hgn)).trans hgn
  have h1' : ∀ o, (w.alloc o).cell? ⟨gl, 0, none⟩ = some (.int .i64 least) := fun o => (World.cell?_alloc_lt w o ⟨gl, 0, none⟩ (lt_of_cell h1)).trans h1
  have h2' : ∀ o, (w.alloc o).cell? ⟨gn, 0, none⟩ = some (.slice An need.length cn) := fun o => (World.cell?_alloc_lt w o ⟨gn, 0, none⟩ (lt_of_cell h2)).trans h2
  have hba : Below w.heap.size w (w.alloc (.cells #[.slice A xs.length c] 27)) := (Below.refl _ _).alloc (Nat.le_refl _) _
  have hra := hr.below hba
  have hcell : (w.alloc (.cells #[.slice A xs.length c] 27)).cell? ⟨w.heap.size, 0, none⟩ = some (.slice A xs.length c) := (Box.new _ _ _).cell 0
  have HCF := Lib.hid (containsFunc_any An cn need 88 #[.pointer (some ⟨w.heap.size, 0, none⟩)] (fun n => !hasB n xs) W.heap.size (fun u => w.alloc (.cells #[.slice A xs.length c] 27) = u) _ enters_ss21 (by unfold maxLen; omega)
    (fun u hu => by subst hu; exact (hrn.below hb).below (hba.mono hb.size)) (fun x _ u hu => by subst hu; exact ss21_any w.heap.size A c xs x _ _ hcell hra hl) rfl)
  obtain ⟨w', hcl, hg'⟩ := run_clear_own (hown.alloc (.cells #[.slice A xs.length c] 27))
  have HG := Lib.hid (show w.grownBy w' (Value.slice A xs.length c).ownBlock from ⟨hg'.os, hg'.tape, hg'.output, Nat.le_trans (by simp) hg'.size, fun i hi hne => (hg'.block i (by simp; omega) hne).trans (Below.heap_alloc w _ i hi)⟩)
  have hs := sumC_le xs
  have hs3 : sumC xs ≤ 200000 := by omega
  clear hb hgl hgn hrn hown hg' hba hm
  unfold failsB
  have HNE := Lib.hid (Eq.refl (need.any fun n => !hasB n xs))
  generalize (need.any fun n => !hasB n xs) = nb at *
  clear HNE
  generalize hrb : (decide (least ≤ sumC xs) && !nb) = rb
  have HRB := Lib.hid hrb
  clear hrb
  go_enter Try.func87, Try.ntmps87
  go_wp2_with fail
  go_loopg [5, 11] xs.length (fun m v5 v11 wr => ∃ k : Nat, k ≤ xs.length ∧ m = xs.length - k ∧ v11 = .int .i64 k ∧ v5 = .int .i64 (sumC (xs.take k)) ∧ w.alloc (.cells #[.slice A xs.length c] 27) = wr)
  case atStart => exact ⟨0, by omega, rfl, rfl, rfl, rfl⟩
  case round =>
    obtain ⟨k, hk, hmm, rfl, rfl, rfl⟩ := hrel
    have HM := Lib.hid hmm
    clear hmm
    by_cases hlt : k < xs.length
    · obtain ⟨b, o, rfl, _, hc1⟩ := hra.int hlt
      have HS := Lib.hid (sumC_take xs hlt)
      have hsk := sumC_le (xs.take k)
      have hsk2 : sumC (xs.take k) ≤ 200000 := by
        have : (xs.take k).length ≤ 200 := by simp; omega
        omega
      generalize xs.getD k 0 = x at *
      have hcb := clampI_le x
      unfold clampI at HS hcb
      go_wp2_with fail
      go_roundg (xs.length - (k + 1))
      case measure => have := HM.out; omega
      case rel => exact ⟨k + 1, by omega, rfl, by go_num, by rw [HS.out], rfl⟩
    · obtain rfl : k = xs.length := by omega
      rw [List.take_of_length_le (Nat.le_refl _)]
      by_cases hle : least ≤ sumC xs
      · have d1 : decide (least ≤ sumC xs) = true := by simp; omega
        go_wp2_with fail
        refine HCF.out.mono ?_
        rintro e w2 ⟨rfl, rfl⟩
        rw [d1, Bool.true_and] at HRB
        cases nb
        · obtain rfl : rb = true := HRB.out.symm
          go_wp2_with fail
          go_ret
          exact ⟨rfl, HG.out⟩
        · obtain rfl : rb = false := HRB.out.symm
          go_wp2_with fail
          go_ret
          exact ⟨rfl, HG.out⟩
      · have d1 : decide (least ≤ sumC xs) = false := by simp; omega
        rw [d1, Bool.false_and] at HRB
        obtain rfl : rb = false := HRB.out.symm
        go_wp2_with fail
        go_ret
        exact ⟨rfl, HG.out⟩

/-- What is left of a list, those of another one taken off its head in turn. -/
def leftOf : List Int → List Int → List Int
  | xs, [] => xs
  | [], _ :: _ => []
  | x :: xs, n :: l => if x = n then leftOf xs l else leftOf (x :: xs) l
theorem leftOf_nil (l : List Int) : leftOf [] l = [] := by cases l <;> rfl
theorem leftOf_sub : ∀ (l xs : List Int), xs.Sublist l → leftOf xs l = []
  | [], xs, h => by
    have := List.sublist_nil.1 h
    subst this
    rfl
  | n :: l, [], _ => rfl
  | n :: l, x :: xs, h => by
    unfold leftOf
    by_cases hx : x = n
    · rw [if_pos hx]
      subst hx
      exact leftOf_sub l xs (List.cons_sublist_cons.1 h)
    · rw [if_neg hx]
      refine leftOf_sub l (x :: xs) ?_
      rcases List.sublist_cons_iff.1 h with h | ⟨r, hr, h⟩
      · exact h
      · injection hr with hr
        exact absurd hr hx

theorem row_tail {w : World} {B : Nat} {A : Option Addr} {x : Int} {zs : List Int} {c : Nat} (hr : Row w B A (ints (x :: zs))) (hc : zs.length + 1 ≤ c) :
    ∃ b o A3, A = some ⟨b, o, none⟩ ∧ w.cell? ⟨b, o, none⟩ = some (.int .i64 x) ∧ (∀ w, (Instr.slice 27 (.slice A (zs.length + 1) c) (some (.int .i64 1)) none none).run Try.prog w = .ok (.slice A3 zs.length (c - 1)) w) ∧ Row w B A3 (ints zs) := by
  have hA : A = none → c = 0 := fun h => by
    obtain ⟨b, o, e, _⟩ := hr (by simp [ints])
    rw [h] at e
    cases e
  obtain ⟨A3, h1, h2, _⟩ := row_from hr (by simpa using hc) hA 0 (by simp)
  obtain ⟨b, o, e, _, hcell⟩ := hr (by simp [ints])
  refine ⟨b, o, A3, e, by simpa [ints] using hcell 0 (.int .i64 x) rfl, fun w => ?_, by simpa using h2⟩
  have := h1 w
  simpa using this

set_option maxRecDepth 100000 in
set_option maxHeartbeats 1000000 in
theorem within_any (A A' : Option Addr) (c c' : Nat) (xs l : List Int) (B B' : Nat) (w : World) (hr : Row w B A (ints xs)) (hr' : Row w B' A' (ints l)) (hc : xs.length ≤ c) (hm : c ≤ maxLen) (hm' : l.length ≤ maxLen) :
    Calls Try.prog 89 #[.slice A xs.length c, .slice A' l.length c'] w fun e w' => e = .returned (.bool (leftOf xs l).isEmpty) ∧ ∃ n, w' = w.drewN n := by
  unfold maxLen at hm hm'
  go_enter Try.func89, Try.ntmps89
  go_wp2_with fail
  go_loopg [0, 9] l.length (fun m v0 v9 wr => ∃ (k nq : Nat) (A2 : Option Addr) (c2 : Nat) (ys : List Int), k ≤ l.length ∧ m = l.length - k ∧ v9 = .int .i64 k ∧ v0 = .slice A2 ys.length c2 ∧ ys.length ≤ c2 ∧ c2 ≤ 9223372036854775807 ∧ Row w B A2 (ints ys) ∧ leftOf xs l = leftOf ys (l.drop k) ∧ wr = w.drewN nq)
  case atStart => exact ⟨0, 0, A, c, xs, by omega, rfl, rfl, rfl, hc, by omega, hr, rfl, rfl⟩
  case round =>
    obtain ⟨k, nq, A2, c2, ys, hk, hmm, rfl, rfl, hc2, hc63, hr2, hlf, rfl⟩ := hrel
    have HM := Lib.hid hmm
    have HL := Lib.hid hlf
    clear hmm hlf
    by_cases hlt : k < l.length
    · obtain ⟨b, o, rfl, _, hcl⟩ := hr'.int hlt
      have HD := Lib.hid (drop_getD l 0 hlt)
      generalize l.getD k 0 = y at *
      rcases ys with _ | ⟨x, ys⟩
      · go_wp2_with fail
        go_roundg (l.length - (k + 1))
        case measure => have := HM.out; omega
        case rel => exact ⟨k + 1, nq, A2, c2, [], by omega, rfl, by go_num, rfl, hc2, hc63, Row.nil, by rw [HL.out, leftOf_nil, leftOf_nil], rfl⟩
      · obtain ⟨b2, o2, A3, rfl, hcx, hsl, hr3⟩ := row_tail hr2 hc2
        have hlp : (0 : Int) < ((ys.length + 1 : Nat) : Int) := by omega
        have hlp2 : (1 : Int) ≤ ((ys.length + 1 : Nat) : Int) := by omega
        by_cases hxy : x = y
        · have b1 : (x == y) = true := by simp [hxy]
          have HX := Lib.hid hxy
          clear hxy
          go_wp2_with fail
          go_roundg (l.length - (k + 1))
          case measure => have := HM.out; omega
          case rel => exact ⟨k + 1, nq, A3, c2 - 1, ys, by omega, rfl, by go_num, rfl, by simp at hc2; omega, by omega, hr3, by rw [HL.out, HD.out]; show (if x = y then _ else _) = _; rw [if_pos HX.out], rfl⟩
        · have b1 : (x == y) = false := by simp [hxy]
          have HX := Lib.hid hxy
          clear hxy
          go_wp2_with fail
          go_roundg (l.length - (k + 1))
          case measure => have := HM.out; omega
          case rel => exact ⟨k + 1, nq, _, c2, x :: ys, by omega, rfl, by go_num, rfl, hc2, hc63, hr2, by rw [HL.out, HD.out]; show (if x = y then _ else _) = _; rw [if_neg HX.out], rfl⟩
    · rw [List.drop_eq_nil_of_le (by omega)] at HL
      rcases ys with _ | ⟨x, ys⟩
      · go_wp2_with fail
        go_ret
        refine ⟨?_, nq, rfl⟩
        rw [HL.out]
        rfl
      · have b1 : (((ys.length + 1 : Nat) : Int) == 0) = false := beq_eq_false_iff_ne.2 (by omega)
        go_wp2_with fail
        go_ret
        refine ⟨?_, nq, rfl⟩
        rw [HL.out]
        rfl
end Go.Proofs.Ytjblfkoepedhpaa
