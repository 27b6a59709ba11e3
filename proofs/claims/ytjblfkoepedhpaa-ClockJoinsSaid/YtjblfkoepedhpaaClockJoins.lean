/-
  ClockJoins: clock.Join and clock.Less return the specified results. For every input, no condition.
-/
import Derived.Test.YtjblfkoepedhpaaClock
import Derived.Test.YtjblfkoepedhpaaStore
namespace Go.Proofs.Ytjblfkoepedhpaa
open Go.ChangeShapes Go.WideShapes Go.ChangeAt Go.RowKit

theorem row_of_box {w : World} {g : Nat} {t : TypeId} {cs : Array Value} (h : Box w g t cs) {B : Nat} (hB : g < B) : Row w B (some ⟨g, 0, none⟩) cs.toList := fun _ =>
  ⟨g, 0, rfl, hB, fun i v hv => by rw [Nat.zero_add, h.cell]; simpa using hv⟩

theorem bytes_int : Try.prog.bytesOf 3 = 8 := by kernel_rfl
theorem enters_cj : Enters 25 := fun _ _ => by kernel_rfl

set_option maxRecDepth 100000 in
set_option maxHeartbeats 1000000 in
theorem clockJoins_walk (A A' : Option Addr) (c c' : Nat) (xs ys : List Int) (W : World) (ra : Row W W.heap.size A (ints xs)) (rb : Row W W.heap.size A' (ints ys)) (hm : xs.length * 8 ≤ 140737488351232) (hm' : ys.length * 8 ≤ 140737488351232) :
    Calls Try.prog 5 #[.slice A xs.length c, .slice A' ys.length c'] W fun e w' => e = .returned (.bool true) ∧ Below W.heap.size W w' := by
  have HX := Lib.hid (show xs.length ≤ maxLen by unfold maxLen; omega)
  have HY := Lib.hid (show ys.length ≤ maxLen by unfold maxLen; omega)
  go_enter Try.func5, Try.ntmps5
  go_wp2_with fail
  have r0 : Row (W.alloc (.cells ⟨[.int .i64 0, .int .i64 1]⟩ 3)) (W.heap.size + 1) (some ⟨W.heap.size, 0, none⟩) (ints [0, 1]) :=
    row_of_box (cs := ⟨[.int .i64 0, .int .i64 1]⟩) (Box.new W 3 ⟨[.int .i64 0, .int .i64 1]⟩) (Nat.lt_succ_self _)
  refine (less_any _ _ _ _ [] [0, 1] 0 _ _ Row.nil r0 (by simp) (by unfold maxLen; simp)).mono ?_
  clear r0
  rintro e w' ⟨rfl, rfl⟩
  rw [show lessB [] [0, 1] = true by decide]
  have b1 : Below W.heap.size W (W.alloc (.cells ⟨[.int .i64 0, .int .i64 1]⟩ 3)) := (Below.refl _ _).alloc (Nat.le_refl _) _
  generalize W.alloc (.cells ⟨[.int .i64 0, .int .i64 1]⟩ 3) = w1 at *
  go_wp2_with fail
  have r1 : Row ((w1.alloc (.cells ⟨[.int .i64 1]⟩ 3)).alloc (.cells ⟨[.int .i64 0, .int .i64 5]⟩ 3)) (w1.heap.size + 1 + 1) (some ⟨w1.heap.size, 0, none⟩) (ints [1]) :=
    row_of_box (cs := ⟨[.int .i64 1]⟩) ((Box.new w1 3 ⟨[.int .i64 1]⟩).alloc _) (by omega)
  have r2 : Row ((w1.alloc (.cells ⟨[.int .i64 1]⟩ 3)).alloc (.cells ⟨[.int .i64 0, .int .i64 5]⟩ 3)) (w1.heap.size + 1 + 1) (some ⟨w1.heap.size + 1, 0, none⟩) (ints [0, 5]) :=
    row_of_box (cs := ⟨[.int .i64 0, .int .i64 5]⟩) (t := 3) (by have := Box.new (w1.alloc (.cells ⟨[.int .i64 1]⟩ 3)) 3 ⟨[.int .i64 0, .int .i64 5]⟩; simpa using this) (by omega)
  refine (less_any _ _ _ _ [1] [0, 5] _ _ _ r1 r2 (by unfold maxLen; simp) (by unfold maxLen; simp)).mono ?_
  clear r1 r2
  rintro e w' ⟨rfl, rfl⟩
  rw [show lessB [1] [0, 5] = false by decide]
  have b2 : Below W.heap.size W ((w1.alloc (.cells ⟨[.int .i64 1]⟩ 3)).alloc (.cells ⟨[.int .i64 0, .int .i64 5]⟩ 3)) := (b1.alloc b1.size _).alloc (Nat.le_trans b1.size (by simp)) _
  generalize (w1.alloc (.cells ⟨[.int .i64 1]⟩ 3)).alloc (.cells ⟨[.int .i64 0, .int .i64 5]⟩ 3) = w2 at *
  clear b1
  go_wp2_with fail
  refine (join_any _ _ _ _ xs ys _ ((ra.below b2).more b2.size) ((rb.below b2).more b2.size) hm hm').mono ?_
  rintro e w3 ⟨v, rfl, hown, hb3⟩
  have b3 : Below W.heap.size W w3 := b2.trans (hb3.mono b2.size)
  have hg : ∀ i, i < max xs.length ys.length → (joinTo xs ys (max xs.length ys.length)).getD i 0 = max (xs.getD i 0) (ys.getD i 0) := fun i hi => joinTo_get xs ys _ i hi
  have HG := Lib.hid hg
  have hl := joinTo_len xs ys (max xs.length ys.length)
  clear b2 hb3 hg
  generalize joinTo xs ys (max xs.length ys.length) = zs at *
  obtain ⟨J, cj, rfl, hrj, hcj, hcm, hJ⟩ := row_of_own_int hown
  clear hown
  have ra3 := ra.below b3
  have rb3 := rb.below b3
  rw [hl] at hcj ⊢
  have HL := Lib.hid hl
  have HLS := Lib.hid (show lessB xs ys = (leTo xs ys (max xs.length ys.length) && ltTo xs ys (max xs.length ys.length)) from rfl)
  clear hl
  unfold maxLen at hcm
  have hm1 : xs.length ≤ max xs.length ys.length := by omega
  have hm2 : ys.length ≤ max xs.length ys.length := by omega
  have hm3 : max xs.length ys.length ≤ xs.length ∨ max xs.length ys.length ≤ ys.length := by omega
  have hm4 : max xs.length ys.length * 8 ≤ 140737488351232 := by omega
  generalize max xs.length ys.length = m at *
  have HM := Lib.hid (show m ≤ maxLen by unfold maxLen; omega)
  have hsplit : xs.length < ys.length ∧ m ≤ ys.length ∨ ¬ xs.length < ys.length ∧ m ≤ xs.length := by omega
  clear hm3
  rcases hsplit with ⟨hle, hm3⟩ | ⟨hle, hm3⟩
  all_goals
    go_wp2_with fail
    go_loop [6, 7, 27] (fun p q i => ∃ k : Nat, k ≤ m ∧ i = .int .i64 k ∧ p = .bool (leTo xs ys k) ∧ q = .bool (ltTo xs ys k)) (fun _ _ i => m - (intOf i).toNat)
    case atStart => exact ⟨0, by omega, rfl, rfl, rfl⟩
    case round =>
      obtain ⟨k, hk, rfl, rfl, rfl⟩ := hrel
      by_cases hlt : k < m
      · have H1 := Lib.hid (leTo_succ xs ys k)
        have H2 := Lib.hid (ltTo_succ xs ys k)
        have H3 := Lib.hid (HG.out k hlt)
        go_wp2_with fail
        refine (at_any _ _ _ _ _ _ _ ra3 rfl HX.out (by omega)).mono ?_
        rintro e w' ⟨rfl, rfl⟩
        rw [show xs.getD (Int.toNat (k : Int)) 0 = xs.getD k 0 by rw [Int.toNat_natCast]]
        generalize xs.getD k 0 = x at *
        go_wp2_with fail
        refine (at_any _ _ _ _ _ _ _ rb3 rfl HY.out (by omega)).mono ?_
        rintro e w' ⟨rfl, rfl⟩
        rw [show ys.getD (Int.toNat (k : Int)) 0 = ys.getD k 0 by rw [Int.toNat_natCast]]
        generalize ys.getD k 0 = y at *
        go_wp2_with fail
        refine (at_any _ _ _ zs _ _ _ hrj HL.out HM.out (by omega)).mono ?_
        rintro e w' ⟨rfl, rfl⟩
        rw [show zs.getD (Int.toNat (k : Int)) 0 = max x y by rw [Int.toNat_natCast]; exact H3.out]
        clear H3
        generalize leTo xs ys k = L1 at *
        generalize ltTo xs ys k = L2 at *
        have hcases : (x < y ∧ max x y = y ∧ decide (x ≤ y) = true ∧ decide (x < y) = true) ∨ (¬ x < y ∧ max x y = x ∧ decide (x ≤ y) = true ∧ decide (x < y) = false) ∨ (¬ x < y ∧ max x y = x ∧ decide (x ≤ y) = false ∧ decide (x < y) = false) := by
          simp only [decide_eq_true_eq, decide_eq_false_iff_not]; omega
        rcases hcases with ⟨hxy, e1, d1, d2⟩ | ⟨hxy, e1, d1, d2⟩ | ⟨hxy, e1, d1, d2⟩
        all_goals
          rw [e1]
          rw [d1] at H1
          rw [d2] at H2
          clear e1
          cases L1 <;> cases L2
          all_goals
            go_wp2_with fail
            go_round
            case rel => exact ⟨k + 1, by omega, by go_num, by rw [H1.out]; rfl, by rw [H2.out]; rfl⟩
            case measure => simp [intOf]; omega
      · obtain rfl : k = m := by omega
        go_wp2_with fail
        refine (less_any _ _ _ _ xs ys _ _ _ ra3 rb3 HX.out HY.out).mono ?_
        rintro e w' ⟨rfl, rfl⟩
        rw [HLS.out]
        clear HLS
        generalize leTo xs ys k = L1 at *
        generalize ltTo xs ys k = L2 at *
        cases L1 <;> cases L2
        all_goals
          go_wp2_with fail
          all_goals
            refine (containsFunc_any _ _ [] _ #[] (fun _ => false) 0 (fun u => w3 = u) _ enters_cj (by simp) (fun _ _ => Row.nil) (by simp) rfl).mono ?_
            rintro e w' ⟨rfl, rfl⟩
            rw [show ([] : List Int).any (fun _ => false) = false from rfl]
            go_wp2_with fail
            go_ret
            exact ⟨rfl, b3⟩

set_option maxRecDepth 100000 in
theorem clockJoins_called : Called 5 Try.f5 := by
  intro H enc W base args ds p hval hA hsz
  rw [Try.params5] at hA hval hsz
  obtain ⟨v0, v1, d0, d1, p0, p1, rfl, rfl, rfl, h0, h1⟩ := trodAll_two hA
  obtain ⟨A, c, xs, rfl, hr, hl, hm, _, hd⟩ := open_intRow Try.underlying27 Try.underlying3 (by kernel_rfl) (hval 0 27 v0 rfl rfl) h0
  obtain ⟨A', c', ys, rfl, hr', hl', hm', _, hd'⟩ := open_intRow Try.underlying27 Try.underlying3 (by kernel_rfl) (hval 1 27 v1 rfl rfl) h1
  refine clockJoins_walk A A' c c' xs ys W hr hr' ?_ ?_
  · rcases hd with ⟨_, rfl, _⟩ | ⟨el, sp, rfl, e1, e2⟩
    · simp
    · have := sized_slice hsz (j := 0) (t := 27) (e := 3) rfl rfl Try.underlying27
      rw [bytes_int] at this
      simp only [reachBytes] at this
      omega
  · rcases hd' with ⟨_, rfl, _⟩ | ⟨el, sp, rfl, e1, e2⟩
    · simp
    · have := sized_slice hsz (j := 1) (t := 27) (e := 3) rfl rfl Try.underlying27
      rw [bytes_int] at this
      simp only [reachBytes] at this
      omega

set_option maxRecDepth 100000 in
theorem clockJoins_lifted (os : Os) (started : os.Started) (H : Type) (enc : TypeId × Value → H) :
    ReturnsInHanded {} Try.checked os 5 .any (Rows.clockJoinsSpec.pre6 enc Try.prog Try.f5 Rows.clockJoinsRow.domain false) (Rows.clockJoinsSpec.post enc Try.prog Try.f5 false true false false) :=
  law_lift started (by kernel_rfl) Try.func5
    (ChangeSpec.witness6 (enc := enc) (C := Try.checked) false ⟨#[], #[.slice none 0 0, .slice none 0 0], []⟩ 8 (by kernel_rfl) (by kernel_rfl) (by kernel_rfl) (by kernel_rfl))
    rfl rfl (by kernel_rfl) (by kernel_rfl) (fun l hl => by
      rw [Try.params5] at hl
      match l, hl with
      | [d0, d1], _ => rfl) clockJoins_called

theorem clockJoins_over : Rows.clockJoinsRow.holds Try.pinned (OpenSpec.ofChange Rows.clockJoinsSpec) :=
  OpenClaim.holds_of_wide 5 Try.f5 rfl rfl rfl rfl rfl rfl rfl ⟨rfl, rfl, rfl, rfl, rfl⟩ rfl rfl rfl rfl rfl (by kernel_rfl) Try.func5 (by kernel_rfl)
    (of_decide_eq_true (by kernel_rfl)) (by unfold Func.isWrapper; first | (rw [if_pos (by decide +kernel)]; kernel_rfl) | (rw [if_neg (by decide +kernel)]; exact ⟨rfl, rfl⟩))
    (fun os started H enc _ => clockJoins_lifted os started H enc)

theorem clockJoins_holds : Rows.ClockJoinsSaid := clockJoins_over
end Go.Proofs.Ytjblfkoepedhpaa
