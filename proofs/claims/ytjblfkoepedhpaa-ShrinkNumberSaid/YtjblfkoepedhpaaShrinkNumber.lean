/-
  ShrinkNumber: the number that shrink.Number returns fails and its predecessor does not, or it is 0. For every input, no condition.
-/
import Derived.Test.YtjblfkoepedhpaaMem
import Derived.Test.YtjblfkoepedhpaaOpen
import Derived.Outline
namespace Go.Proofs.Ytjblfkoepedhpaa
open Go.ChangeShapes Go.WideShapes Go.ChangeAt Go.RowKit

/-- What Number answers for the test f. -/
def NumSaid (n : Int) (f : Int → Bool) (c : Nat) (Inv : Nat → World → Prop) (e : Ending) (w' : World) : Prop :=
  ∃ k c', f k = true ∧ 0 ≤ k ∧ k ≤ n ∧ (k = 0 ∨ f (k - 1) = false) ∧ c' ≤ c + 42 ∧ e = .returned (.tuple #[.int .i64 k, .int .i64 0]) ∧ Inv c' w'

/-- What stands at the head of each round of Number's loop. -/
def NumRel (n0 : Int) (f : Int → Bool) (c : Nat) (Inv : Nat → World → Prop) (t : Nat) (n low : Int) (wr : World) : Prop :=
  f n = true ∧ (low = -1 ∨ f low = false) ∧ -1 ≤ low ∧ low < n ∧ n ≤ n0 ∧ t ≤ 41 ∧ (n - low - 1) * (2 ^ t : Nat) ≤ 1099511627776 ∧ Inv (c + 1 + t) wr

theorem half_step (d m : Int) (p : Nat) (h : d * (p : Nat) ≤ 1099511627776) (h1 : 2 * m ≤ d) : m * (p * 2 : Nat) ≤ 1099511627776 := by
  have h2 : (2 * m) * (p : Int) ≤ d * (p : Int) := Int.mul_le_mul_of_nonneg_right h1 (by omega)
  have e : m * ((p * 2 : Nat) : Int) = (2 * m) * (p : Int) := by
    rw [Int.natCast_mul, Int.mul_comm (p : Int), ← Int.mul_assoc, Int.mul_comm m]; rfl
  omega
theorem rounds_le (d : Int) (t : Nat) (h : d * (2 ^ t : Nat) ≤ 1099511627776) (hd : 1 ≤ d) : t ≤ 40 := by
  rcases Nat.lt_or_ge 40 t with ht | ht
  · exfalso
    have h1 : (2 ^ 41 : Nat) ≤ 2 ^ t := Nat.pow_le_pow_right (by omega) ht
    have h2 : (1 : Int) * (2 ^ t : Nat) ≤ d * (2 ^ t : Nat) := Int.mul_le_mul_of_nonneg_right hd (by omega)
    have h3 : (2 ^ 41 : Nat) = 2199023255552 := by decide
    omega
  · exact ht
theorem numRel_up {n0 : Int} {f : Int → Bool} {c : Nat} {Inv : Nat → World → Prop} {t : Nat} {n low m : Int} {wr w' : World} (h : NumRel n0 f c Inv t n low wr) (hm : m = (n + low) / 2) (hgt : 1 < n - low) (hI : Inv (c + 1 + t + 1) w') :
    (f m = true → NumRel n0 f c Inv (t + 1) m low w') ∧ (f m = false → NumRel n0 f c Inv (t + 1) n m w') := by
  obtain ⟨h1, h2, h3, h4, h5, h6, h7, h8⟩ := h
  have ht := rounds_le _ t h7 (by omega)
  constructor
  · intro hfm
    exact ⟨hfm, h2, h3, by omega, by omega, by omega, by rw [Nat.pow_succ]; exact half_step _ _ _ h7 (by omega), hI⟩
  · intro hfm
    exact ⟨h1, .inr hfm, by omega, by omega, h5, by omega, by rw [Nat.pow_succ]; exact half_step _ _ _ h7 (by omega), hI⟩
theorem numSaid_of {n0 : Int} {f : Int → Bool} {c : Nat} {Inv : Nat → World → Prop} {t : Nat} {n low : Int} {wr : World} (h : NumRel n0 f c Inv t n low wr) (hle : ¬ 1 < n - low) :
    NumSaid n0 f c Inv (.returned (.tuple #[.int .i64 n, .int .i64 0])) wr := by
  obtain ⟨h1, h2, h3, h4, h5, h6, h7, h8⟩ := h
  refine ⟨n, _, h1, by omega, h5, ?_, by omega, rfl, h8⟩
  rcases h2 with h2 | h2
  · left; omega
  · right
    have : n - 1 = low := by omega
    rw [this]; exact h2

/-- A function value that is entered when it is called. -/
def Enters (fid : FuncId) : Prop := ∀ args w, (callFunc fid args).run Try.prog w = .ok (.enter fid args) w

set_option maxRecDepth 100000 in
set_option maxHeartbeats 1000000 in
theorem number_yes (n : Int) (fid : FuncId) (caps : Array Value) (f : Int → Bool) (Inv : Nat → World → Prop) (c : Nat) (w : World) (he : Enters fid)
    (hf : ∀ k w c', c' ≤ c + 41 → Inv c' w → Calls Try.prog fid (#[.int .i64 k] ++ caps) w fun e w' => e = .returned (.bool (f k)) ∧ Inv (c' + 1) w')
    (hi : Inv c w) (h0 : 0 ≤ n) (h1 : n ≤ 1099511627776) (hn : f n = true) :
    Calls Try.prog 19 #[.int .i64 n, .func (.func fid) #[] caps] w (NumSaid n f c Inv) := by
  have HF := Lib.hid hf
  have HN := Lib.hid hn
  clear hf hn
  unfold Enters at he
  have d0 : decide (n < 0) = false := by simp; omega
  have d1 : decide (1099511627776 < n) = false := by simp; omega
  go_enter Try.func19, Try.ntmps19
  go_wp2_with fail
  refine (HF.out n w c (by omega) hi).mono ?_
  rintro e w1 ⟨rfl, hi1⟩
  rw [HN.out]
  have hrel0 : NumRel n f c Inv 0 n (-1) w1 := ⟨HN.out, .inl rfl, by omega, by omega, by omega, by omega, by simp; omega, hi1⟩
  clear hi hi1 d0 d1
  go_wp2_with fail
  go_loopw [0, 6] (fun a l wr => ∃ (t : Nat) (N L : Int), a = .int .i64 N ∧ l = .int .i64 L ∧ -1 ≤ L ∧ L < N ∧ N ≤ n ∧ NumRel n f c Inv t N L wr) (fun a l _ => (intOf a - intOf l).toNat)
  case atStart => exact ⟨0, n, -1, rfl, rfl, by omega, by omega, by omega, hrel0⟩
  case round =>
    obtain ⟨t, N, L, rfl, rfl, hL, hLN, hNn, hR⟩ := hrel
    by_cases hgt : 1 < N - L
    · have hI := hR.2.2.2.2.2.2.2
      have ht := rounds_le _ t hR.2.2.2.2.2.2.1 (by omega)
      go_wp2_with fail
      refine (HF.out _ wr _ (by omega) hI).mono ?_
      rintro e w2 ⟨rfl, hi2⟩
      have hstep := numRel_up hR rfl hgt hi2
      have hm1 : L < (N + L) / 2 := by omega
      have hm2 : (N + L) / 2 < N := by omega
      generalize (N + L) / 2 = m at *
      have HS := Lib.hid hstep
      clear hstep hR hI hi2
      by_cases hfm : f m = true
      · have HM := Lib.hid (HS.out.1 hfm)
        clear HS
        go_wp2_with fail
        go_roundw
        case rel => exact ⟨t + 1, m, L, rfl, rfl, by omega, by omega, by omega, HM.out⟩
        case measure => simp [intOf]; omega
      · have hfm' : f m = false := by simpa using hfm
        have HM := Lib.hid (HS.out.2 hfm')
        clear HS hfm
        go_wp2_with fail
        go_roundw
        case rel => exact ⟨t + 1, N, m, rfl, rfl, by omega, by omega, by omega, HM.out⟩
        case measure => simp [intOf]; omega
    · go_wp2_with fail
      go_ret2
      exact numSaid_of hR (by omega)

set_option maxRecDepth 100000 in
theorem number_bad (n : Int) (v : Value) (w : World) (h : n < 0 ∨ 1099511627776 < n) :
    Calls Try.prog 19 #[.int .i64 n, v] w fun e w' => e = .returned (.tuple #[.int .i64 0, .int .i64 1]) ∧ w = w' := by
  rcases h with h | h
  · have d0 : decide (n < 0) = true := by simp; omega
    go_enter Try.func19, Try.ntmps19
    go_wp2_with fail
    go_ret2
    exact ⟨rfl, rfl⟩
  · have d0 : decide (n < 0) = false := by simp; omega
    have d1 : decide (1099511627776 < n) = true := by simp; omega
    go_enter Try.func19, Try.ntmps19
    go_wp2_with fail
    go_ret2
    exact ⟨rfl, rfl⟩

set_option maxRecDepth 100000 in
theorem number_no (n : Int) (fid : FuncId) (caps : Array Value) (Q : World → Prop) (w : World) (he : Enters fid)
    (hf : Calls Try.prog fid (#[.int .i64 n] ++ caps) w fun e w' => e = .returned (.bool false) ∧ Q w') (h0 : 0 ≤ n) (h1 : n ≤ 1099511627776) :
    Calls Try.prog 19 #[.int .i64 n, .func (.func fid) #[] caps] w fun e w' => e = .returned (.tuple #[.int .i64 0, .int .i64 4]) ∧ Q w' := by
  have HF := Lib.hid hf
  clear hf
  unfold Enters at he
  have d0 : decide (n < 0) = false := by simp; omega
  have d1 : decide (1099511627776 < n) = false := by simp; omega
  go_enter Try.func19, Try.ntmps19
  go_wp2_with fail
  refine HF.out.mono ?_
  rintro e w1 ⟨rfl, hi1⟩
  go_wp2_with fail
  go_ret2
  exact ⟨rfl, hi1⟩

theorem enters1 : Enters 20 := fun _ _ => by kernel_rfl
theorem enters2 : Enters 21 := fun _ _ => by kernel_rfl

theorem number1 (k : Int) (w : World) : Calls Try.prog 20 (#[.int .i64 k] ++ #[]) w fun e w' => e = .returned (.bool (decide (37 ≤ k))) ∧ w = w' := by
  show Calls Try.prog 20 #[.int .i64 k] w _
  go_enter Try.func20, Try.ntmps20
  go_wp2_with fail
  go_ret
  exact ⟨rfl, rfl⟩

def failsAt (fr gap k : Int) : Bool := decide (fr ≤ k) && !(k == gap)
/-- What the law's own test needs: how often it was asked, the two numbers, and that nothing that was there has changed. -/
def Asked (B : Nat) (W : World) (g gf gg : Nat) (fr gap : Int) (c : Nat) (w : World) : Prop :=
  Box w g 3 #[.int .i64 c] ∧ Box w gf 3 #[.int .i64 fr] ∧ Box w gg 3 #[.int .i64 gap] ∧ Below B W w ∧ c ≤ 1000

set_option maxRecDepth 100000 in
theorem number2 (B : Nat) (W : World) (g gf gg : Nat) (fr gap k : Int) (w : World) (c : Nat) (hB : B ≤ g) (hne1 : gf ≠ g) (hne2 : gg ≠ g) (hc : c < 1000) (h : Asked B W g gf gg fr gap c w) :
    Calls Try.prog 21 (#[.int .i64 k] ++ #[.pointer (some ⟨g, 0, none⟩), .pointer (some ⟨gf, 0, none⟩), .pointer (some ⟨gg, 0, none⟩)]) w fun e w' => e = .returned (.bool (failsAt fr gap k)) ∧ Asked B W g gf gg fr gap (c + 1) w' := by
  obtain ⟨h1, h2, h3, h4, h5⟩ := h
  have x1 := h1.cell 0
  have x2 := h2.cell 0
  have x3 := h3.cell 0
  have f1 := h1.frozen 0
  simp only [List.getElem?_toArray, List.getElem?_cons_zero] at x1 x2 x3
  have e1 : (w.setCell ⟨g, 0, none⟩ (.int .i64 ((c : Int) + 1))).cell? ⟨gf, 0, none⟩ = some (.int .i64 fr) := by rw [World.cell?_setCell_other _ _ _ _ (by simp)]; exact x2
  have e2 : (w.setCell ⟨g, 0, none⟩ (.int .i64 ((c : Int) + 1))).cell? ⟨gg, 0, none⟩ = some (.int .i64 gap) := by rw [World.cell?_setCell_other _ _ _ _ (by simp)]; exact x3
  have hend : Asked B W g gf gg fr gap (c + 1) (w.setCell ⟨g, 0, none⟩ (.int .i64 ((c : Int) + 1))) :=
    ⟨h1.set 0 _, h2.far hne1 _, h3.far hne2 _, h4.setCell (p := ⟨g, 0, none⟩) hB _, by omega⟩
  have HE := Lib.hid hend
  clear hend h1 h2 h3 h4
  by_cases c1 : fr ≤ k
  · by_cases c2 : k = gap
    · have e : failsAt fr gap k = false := by simp [failsAt, c2]
      rw [e]
      clear e
      have b1 : decide (fr ≤ k) = true := by simp; omega
      have b2 : (k != gap) = false := by simp [c2]
      clear c2
      show Calls Try.prog 21 #[.int .i64 k, .pointer (some ⟨g, 0, none⟩), .pointer (some ⟨gf, 0, none⟩), .pointer (some ⟨gg, 0, none⟩)] w _
      go_enter Try.func21, Try.ntmps21
      go_wp2_with fail
      go_ret
      exact ⟨rfl, HE.out⟩
    · have e : failsAt fr gap k = true := by simp [failsAt, c2]; omega
      rw [e]
      clear e
      have b1 : decide (fr ≤ k) = true := by simp; omega
      have b2 : (k != gap) = true := by simp [c2]
      clear c2
      show Calls Try.prog 21 #[.int .i64 k, .pointer (some ⟨g, 0, none⟩), .pointer (some ⟨gf, 0, none⟩), .pointer (some ⟨gg, 0, none⟩)] w _
      go_enter Try.func21, Try.ntmps21
      go_wp2_with fail
      go_ret
      exact ⟨rfl, HE.out⟩
  · have e : failsAt fr gap k = false := by simp [failsAt]; omega
    rw [e]
    clear e
    have b1 : decide (fr ≤ k) = false := by simp; omega
    show Calls Try.prog 21 #[.int .i64 k, .pointer (some ⟨g, 0, none⟩), .pointer (some ⟨gf, 0, none⟩), .pointer (some ⟨gg, 0, none⟩)] w _
    go_enter Try.func21, Try.ntmps21
    go_wp2_with fail
    go_ret
    exact ⟨rfl, HE.out⟩

theorem number_first (w : World) : Calls Try.prog 19 #[.int .i64 100, .func (.func 20) #[] #[]] w fun e w' => e = .returned (.tuple #[.int .i64 37, .int .i64 0]) ∧ w = w' := by
  refine (number_yes 100 20 #[] (fun k => decide (37 ≤ k)) (fun _ w' => w = w') 0 w enters1 (fun k w1 _ _ h => by subst h; exact number1 k w) rfl (by omega) (by omega) (by simp)).mono ?_
  rintro e w' ⟨k, c', h1, h2, h3, h4, h5, rfl, rfl⟩
  simp only [decide_eq_true_eq, decide_eq_false_iff_not] at h1 h4
  obtain rfl : k = 37 := by omega
  exact ⟨rfl, rfl⟩

theorem asked_new (W : World) (fr gap : Int) : Asked W.heap.size W (W.heap.size + 1 + 1) W.heap.size (W.heap.size + 1) fr gap 0
    (((W.alloc (.cells #[.int .i64 fr] 3)).alloc (.cells #[.int .i64 gap] 3)).alloc (.cells #[.int .i64 0] 3)) := by
  refine ⟨?_, ?_, ?_, ?_, by omega⟩
  · have := Box.new ((W.alloc (.cells #[.int .i64 fr] 3)).alloc (.cells #[.int .i64 gap] 3)) 3 #[.int .i64 0]
    simpa using this
  · exact ((Box.new W _ _).alloc _).alloc _
  · have := (Box.new (W.alloc (.cells #[.int .i64 fr] 3)) 3 #[.int .i64 gap]).alloc (.cells #[.int .i64 0] 3)
    simpa using this
  · exact (((Below.refl _ _).alloc (by simp) _).alloc (by simp) _).alloc (by simp; omega) _

set_option maxRecDepth 100000 in
set_option maxHeartbeats 1000000 in
theorem shrinkNumber_walk (n fr gap : Int) (W : World) :
    Calls Try.prog 4 #[.int .i64 n, .int .i64 fr, .int .i64 gap] W fun e w' => e = .returned (.bool true) ∧ Below W.heap.size W w' := by
  go_enter Try.func4, Try.ntmps4
  go_wp2_with fail
  refine (number_first _).mono ?_
  rintro e w' ⟨rfl, rfl⟩
  go_wp2_with fail
  have hask := asked_new W fr gap
  generalize ((W.alloc (.cells #[.int .i64 fr] 3)).alloc (.cells #[.int .i64 gap] 3)).alloc (.cells #[.int .i64 0] 3) = w3 at *
  have hg1 : W.heap.size ≠ W.heap.size + 1 + 1 := by omega
  have hg2 : W.heap.size + 1 ≠ W.heap.size + 1 + 1 := by omega
  have hg3 : W.heap.size ≤ W.heap.size + 1 + 1 := by omega
  by_cases c1 : n < 0
  · have d0 : decide (n < 0) = true := by simp; omega
    refine (number_bad _ _ _ (.inl c1)).mono ?_
    rintro e w' ⟨rfl, rfl⟩
    have HA := Lib.hid hask
    clear hask
    go_wp2_with fail
    go_ret
    exact ⟨rfl, HA.out.2.2.2.1⟩
  by_cases c2 : 1099511627776 < n
  · have d0 : decide (n < 0) = false := by simp; omega
    have d1 : decide (1099511627776 < n) = true := by simp; omega
    refine (number_bad _ _ _ (.inr c2)).mono ?_
    rintro e w' ⟨rfl, rfl⟩
    have HA := Lib.hid hask
    clear hask
    go_wp2_with fail
    go_ret
    exact ⟨rfl, HA.out.2.2.2.1⟩
  have d0 : decide (n < 0) = false := by simp; omega
  have d1 : decide (1099511627776 < n) = false := by simp; omega
  by_cases c3 : failsAt fr gap n = true
  · have hyes := number_yes n 21 #[.pointer (some ⟨W.heap.size + 1 + 1, 0, none⟩), .pointer (some ⟨W.heap.size, 0, none⟩), .pointer (some ⟨W.heap.size + 1, 0, none⟩)] (failsAt fr gap)
      (Asked W.heap.size W (W.heap.size + 1 + 1) W.heap.size (W.heap.size + 1) fr gap) 0 w3 enters2 (fun k w c' hc' h => number2 _ _ _ _ _ _ _ k w c' hg3 hg1 hg2 (by omega) h) hask (by omega) (by omega) c3
    refine hyes.mono ?_
    rintro e w4 ⟨k, c', k1, k2, k3, k4, k5, rfl, hask'⟩
    obtain ⟨x1, x2, x3, hb, _⟩ := hask'
    have y1 := x1.cell 0
    have y2 := x2.cell 0
    have y3 := x3.cell 0
    simp only [List.getElem?_toArray, List.getElem?_cons_zero] at y1 y2 y3
    clear x1 x2 x3 hyes hask d0 d1
    simp only [failsAt, Bool.and_eq_true, decide_eq_true_eq, Bool.not_eq_true', beq_eq_false_iff_ne, ne_eq, Bool.and_eq_false_iff, decide_eq_false_iff_not, Bool.not_eq_false', beq_iff_eq] at k1 k4 c3
    obtain ⟨k1a, k1b⟩ := k1
    obtain ⟨c3a, c3b⟩ := c3
    have d0 : decide (n < 0) = false := by simp; omega
    have d1 : decide (1099511627776 < n) = false := by simp; omega
    have d2 : decide (n < fr) = false := by simp; omega
    have d3 : (n == gap) = false := by simp; exact c3b
    have d4 : decide ((c' : Int) > 100) = false := by simp; omega
    have d4' : decide ((100 : Int) < (c' : Int)) = false := by simp; omega
    have d5 : decide (k < 0) = false := by simp; omega
    have d6 : decide (n < k) = false := by simp; omega
    have d7 : decide (k < fr) = false := by simp; omega
    have d8 : (k == gap) = false := by simp; exact k1b
    by_cases z0 : k = 0
    · have b0 : (k == 0) = true := by simp [z0]
      clear k4 z0 k1b c3b
      go_wp2_with fail
      go_ret
      exact ⟨rfl, hb⟩
    · have b0 : (k == 0) = false := by simp [z0]
      by_cases z1 : k - 1 < fr
      · have b1 : decide (k - 1 < fr) = true := by simp; omega
        clear k4 z0 k1b c3b
        go_wp2_with fail
        go_ret
        exact ⟨rfl, hb⟩
      · have b1 : decide (k - 1 < fr) = false := by simp; omega
        have b2 : (k - 1 == gap) = true := by simp; omega
        clear k4 z0 k1b c3b
        go_wp2_with fail
        go_ret
        exact ⟨rfl, hb⟩
  · have hno := number_no n 21 #[.pointer (some ⟨W.heap.size + 1 + 1, 0, none⟩), .pointer (some ⟨W.heap.size, 0, none⟩), .pointer (some ⟨W.heap.size + 1, 0, none⟩)]
      (Asked W.heap.size W (W.heap.size + 1 + 1) W.heap.size (W.heap.size + 1) fr gap 1) w3 enters2 (by
        have := number2 W.heap.size W _ _ _ fr gap n w3 0 hg3 hg1 hg2 (by omega) hask
        simp only [Bool.not_eq_true] at c3
        rw [c3] at this
        exact this) (by omega) (by omega)
    refine hno.mono ?_
    rintro e w4 ⟨rfl, hask'⟩
    obtain ⟨x1, x2, x3, hb, _⟩ := hask'
    have y2 := x2.cell 0
    have y3 := x3.cell 0
    simp only [List.getElem?_toArray, List.getElem?_cons_zero] at y2 y3
    clear x1 x2 x3 hno hask
    by_cases z1 : n < fr
    · have d2 : decide (n < fr) = true := by simp; omega
      clear c3
      go_wp2_with fail
      go_ret
      exact ⟨rfl, hb⟩
    · have d2 : decide (n < fr) = false := by simp; omega
      have d3 : (n == gap) = true := by
        simp only [failsAt, Bool.and_eq_true, decide_eq_true_eq, Bool.not_eq_true', beq_eq_false_iff_ne] at c3
        simp; omega
      clear c3
      go_wp2_with fail
      go_ret
      exact ⟨rfl, hb⟩

set_option maxRecDepth 100000 in
theorem shrinkNumber_called : Called 4 Try.f4 := by
  intro H enc W base args ds p hval hA hsz
  rw [Try.params4] at hA hval
  obtain ⟨v0, v1, v2, d0, d1, d2, p0, p1, p2, rfl, rfl, rfl, h0, h1, h2⟩ := trodAll_three hA
  obtain ⟨a, rfl, rfl, rfl, w0⟩ := open_int Try.underlying3 (hval 0 3 v0 rfl rfl) h0
  obtain ⟨b, rfl, rfl, rfl, w1⟩ := open_int Try.underlying3 (hval 1 3 v1 rfl rfl) h1
  obtain ⟨c, rfl, rfl, rfl, w2⟩ := open_int Try.underlying3 (hval 2 3 v2 rfl rfl) h2
  exact shrinkNumber_walk a b c W

set_option maxRecDepth 100000 in
theorem shrinkNumber_lifted (os : Os) (started : os.Started) (H : Type) (enc : TypeId × Value → H) :
    ReturnsInHanded {} Try.checked os 4 .any (Rows.shrinkNumberSpec.pre6 enc Try.prog Try.f4 Rows.shrinkNumberRow.domain false) (Rows.shrinkNumberSpec.post enc Try.prog Try.f4 false true false false) :=
  law_lift started (by kernel_rfl) Try.func4
    (ChangeSpec.witness6 (enc := enc) (C := Try.checked) false ⟨#[], #[.int .i64 0, .int .i64 0, .int .i64 0], []⟩ 8 (by kernel_rfl) (by kernel_rfl) (by kernel_rfl) (by kernel_rfl))
    rfl rfl (by kernel_rfl) (by kernel_rfl) (fun l hl => by
      rw [Try.params4] at hl
      match l, hl with
      | [d0, d1, d2], _ => rfl) shrinkNumber_called

theorem shrinkNumber_over : Rows.shrinkNumberRow.holds Try.pinned (OpenSpec.ofChange Rows.shrinkNumberSpec) :=
  OpenClaim.holds_of_wide 4 Try.f4 rfl rfl rfl rfl rfl rfl rfl ⟨rfl, rfl, rfl, rfl, rfl⟩ rfl rfl rfl rfl rfl (by kernel_rfl) Try.func4 (by kernel_rfl)
    (of_decide_eq_true (by kernel_rfl)) (by unfold Func.isWrapper; first | (rw [if_pos (by decide +kernel)]; kernel_rfl) | (rw [if_neg (by decide +kernel)]; exact ⟨rfl, rfl⟩))
    (fun os started H enc _ => shrinkNumber_lifted os started H enc)

theorem shrinkNumber_holds : Rows.ShrinkNumberSaid := shrinkNumber_over
end Go.Proofs.Ytjblfkoepedhpaa
