
/-
  code.Reads.
-/
import Derived.Test.YthglcnodoophaaaIn2
import Derived.Test.YthglcnodoophaaaPa4
namespace Go.Proofs.Ythglcnodoophaaa
open Go.RowKit

theorem int_partsI : ∃ i, Try.prog.info? 3 = some i ∧ i.zero = some (.int .i64 0) ∧ i.size = 1 ∧ i.bytes = 8 := by
  have h := int_info
  cases hi : Try.prog.info? 3 with
  | none => rw [hi] at h; cases h
  | some i =>
    rw [hi] at h
    simp only [Option.map_some, Option.some.injEq, Prod.mk.injEq] at h
    exact ⟨i, rfl, h.1, h.2.1, h.2.2⟩
theorem ints_oneI (xs : List Int) : ∀ u ∈ ints xs, u.oneCell' = true := by
  intro u hu
  simp only [ints, List.mem_map] at hu
  obtain ⟨x, _, rfl⟩ := hu
  rfl
theorem own_new (w w1 : World) (h : w.heap.size ≤ w1.heap.size) (zs : List Int) (hz : zs.length ≤ 1000) : OwnAt (w1.alloc (.cells (ints zs).toArray 3)) w.heap.size 3 1 (some ⟨w1.heap.size, 0, none⟩) zs.length zs.length (ints zs) :=
  ⟨by rw [ints_len, Nat.mul_one], .inr ⟨w1.heap.size, 0, (ints zs).toArray, rfl, h, Box.new w1 3 (ints zs).toArray, Nat.le_refl _, by unfold maxLen; omega, by simp [ints], by rw [List.drop_zero, Nat.mul_one]; exact List.take_of_length_le (by simp [ints])⟩⟩
theorem isRow_lit (w : World) (o : Obj) (zs : List Int) (hz : zs.length ≤ 1000 := by simp) : IsRow w zs (.returned (.slice (some ⟨w.heap.size + 1, 0, none⟩) zs.length zs.length)) ((w.alloc o).alloc (.cells (ints zs).toArray 3)) := by
  have h := own_new w (w.alloc o) (by simp) zs hz
  rw [show (w.alloc o).heap.size = w.heap.size + 1 by simp] at h
  exact ⟨_, _, rfl, h, ((Below.refl _ _).alloc (Nat.le_refl _) _).alloc (by simp) _⟩
theorem own_lit (w : World) (o : Obj) (b : Int) : OwnAt ((w.alloc o).alloc (.cells #[.int .i64 b] 3)) w.heap.size 3 1 (some ⟨w.heap.size + 1, 0, none⟩) 1 1 (ints [b]) := by
  have ho := World.ownsRow_lit (base := w.heap.size) (e := 3) (size := 1) (w.alloc o) #[.int .i64 b] 1 (by simp) (by unfold maxLen; decide) rfl
  obtain ⟨A', c', hv, hq⟩ := OwnAt.of_own ho
  injection hv with e1 e2 e3
  subst e1 e3
  rw [show (w.alloc o).heap.size = w.heap.size + 1 by simp] at hq
  exact hq
def readL : List UInt8 → InC → List Int
  | [], _ => []
  | ch :: r, x => (if ch = 97 then [x.a] else if ch = 98 then [x.b] else x.args) ++ readL r x
def readsT (x : InC) : List Int := readL (shapeF x.op).s.data.toList x

set_option maxRecDepth 100000 in
set_option maxHeartbeats 4000000 in
theorem reads_any (x : InC) (B : Nat) (w : World) (hok : InOk w B x) : Calls Try.prog 20 #[inV x] w (IsRow w (readsT x)) := by
  obtain ⟨op, a, b, c, A, cap, args⟩ := x
  unfold inV
  simp only
  by_cases h2 : op = 2
  · subst h2
    rw [show readsT ⟨2, a, b, c, A, cap, args⟩ = [b] by simp [readsT, shape_2, readL]]
    clear hok
    go_enter Try.func20, Try.ntmps20
    go_wp2_with fail
    go_ret
    exact isRow_lit w (.cells #[.int .i64 2, .int .i64 a, .int .i64 b, .int .i64 c, .slice A args.length cap] 33) [b]
  have e2 : (op == 2) = false := by simp [h2]
  by_cases h20 : op = 20
  · subst h20
    rw [show readsT ⟨20, a, b, c, A, cap, args⟩ = [b] by simp [readsT, shape_20, readL]]
    clear hok
    go_enter Try.func20, Try.ntmps20
    go_wp2_with fail
    go_ret
    exact isRow_lit w (.cells #[.int .i64 20, .int .i64 a, .int .i64 b, .int .i64 c, .slice A args.length cap] 33) [b]
  have e20 : (op == 20) = false := by simp [h20]
  by_cases h21 : op = 21
  · subst h21
    rw [show readsT ⟨21, a, b, c, A, cap, args⟩ = [b] by simp [readsT, shape_21, readL]]
    clear hok
    go_enter Try.func20, Try.ntmps20
    go_wp2_with fail
    go_ret
    exact isRow_lit w (.cells #[.int .i64 21, .int .i64 a, .int .i64 b, .int .i64 c, .slice A args.length cap] 33) [b]
  have e21 : (op == 21) = false := by simp [h21]
  by_cases h4 : op = 4
  · subst h4
    rw [show readsT ⟨4, a, b, c, A, cap, args⟩ = [a] by simp [readsT, shape_4, readL]]
    clear hok
    go_enter Try.func20, Try.ntmps20
    go_wp2_with fail
    go_ret
    exact isRow_lit w (.cells #[.int .i64 4, .int .i64 a, .int .i64 b, .int .i64 c, .slice A args.length cap] 33) [a]
  have e4 : (op == 4) = false := by simp [h4]
  by_cases h11 : op = 11
  · subst h11
    rw [show readsT ⟨11, a, b, c, A, cap, args⟩ = [a] by simp [readsT, shape_11, readL]]
    clear hok
    go_enter Try.func20, Try.ntmps20
    go_wp2_with fail
    go_ret
    exact isRow_lit w (.cells #[.int .i64 11, .int .i64 a, .int .i64 b, .int .i64 c, .slice A args.length cap] 33) [a]
  have e11 : (op == 11) = false := by simp [h11]
  by_cases h18 : op = 18
  · subst h18
    rw [show readsT ⟨18, a, b, c, A, cap, args⟩ = [a] by simp [readsT, shape_18, readL]]
    clear hok
    go_enter Try.func20, Try.ntmps20
    go_wp2_with fail
    go_ret
    exact isRow_lit w (.cells #[.int .i64 18, .int .i64 a, .int .i64 b, .int .i64 c, .slice A args.length cap] 33) [a]
  have e18 : (op == 18) = false := by simp [h18]
  by_cases h19 : op = 19
  · subst h19
    rw [show readsT ⟨19, a, b, c, A, cap, args⟩ = [a] by simp [readsT, shape_19, readL]]
    clear hok
    go_enter Try.func20, Try.ntmps20
    go_wp2_with fail
    go_ret
    exact isRow_lit w (.cells #[.int .i64 19, .int .i64 a, .int .i64 b, .int .i64 c, .slice A args.length cap] 33) [a]
  have e19 : (op == 19) = false := by simp [h19]
  by_cases h23 : op = 23
  · subst h23
    rw [show readsT ⟨23, a, b, c, A, cap, args⟩ = [a] by simp [readsT, shape_23, readL]]
    clear hok
    go_enter Try.func20, Try.ntmps20
    go_wp2_with fail
    go_ret
    exact isRow_lit w (.cells #[.int .i64 23, .int .i64 a, .int .i64 b, .int .i64 c, .slice A args.length cap] 33) [a]
  have e23 : (op == 23) = false := by simp [h23]
  by_cases h24 : op = 24
  · subst h24
    rw [show readsT ⟨24, a, b, c, A, cap, args⟩ = [a] by simp [readsT, shape_24, readL]]
    clear hok
    go_enter Try.func20, Try.ntmps20
    go_wp2_with fail
    go_ret
    exact isRow_lit w (.cells #[.int .i64 24, .int .i64 a, .int .i64 b, .int .i64 c, .slice A args.length cap] 33) [a]
  have e24 : (op == 24) = false := by simp [h24]
  by_cases h25 : op = 25
  · subst h25
    rw [show readsT ⟨25, a, b, c, A, cap, args⟩ = [a] by simp [readsT, shape_25, readL]]
    clear hok
    go_enter Try.func20, Try.ntmps20
    go_wp2_with fail
    go_ret
    exact isRow_lit w (.cells #[.int .i64 25, .int .i64 a, .int .i64 b, .int .i64 c, .slice A args.length cap] 33) [a]
  have e25 : (op == 25) = false := by simp [h25]
  by_cases h26 : op = 26
  · subst h26
    rw [show readsT ⟨26, a, b, c, A, cap, args⟩ = [a] by simp [readsT, shape_26, readL]]
    clear hok
    go_enter Try.func20, Try.ntmps20
    go_wp2_with fail
    go_ret
    exact isRow_lit w (.cells #[.int .i64 26, .int .i64 a, .int .i64 b, .int .i64 c, .slice A args.length cap] 33) [a]
  have e26 : (op == 26) = false := by simp [h26]
  by_cases h27 : op = 27
  · subst h27
    rw [show readsT ⟨27, a, b, c, A, cap, args⟩ = [a] by simp [readsT, shape_27, readL]]
    clear hok
    go_enter Try.func20, Try.ntmps20
    go_wp2_with fail
    go_ret
    exact isRow_lit w (.cells #[.int .i64 27, .int .i64 a, .int .i64 b, .int .i64 c, .slice A args.length cap] 33) [a]
  have e27 : (op == 27) = false := by simp [h27]
  by_cases h5 : op = 5
  · subst h5
    rw [show readsT ⟨5, a, b, c, A, cap, args⟩ = args by simp [readsT, shape_5, readL]]
    have hb := (Below.refl w.heap.size w).alloc (Nat.le_refl _) (.cells #[.int .i64 5, .int .i64 a, .int .i64 b, .int .i64 c, .slice A args.length cap] 33)
    have HC := Lib.hid (clone_any A cap args _ (w.alloc (.cells #[.int .i64 5, .int .i64 a, .int .i64 b, .int .i64 c, .slice A args.length cap] 33)) (hok.below hb).row hok.none (by have := hok.len; show args.length * 8 ≤ _; simp only at this; omega))
    have HB := Lib.hid hb
    clear hok hb
    go_enter Try.func20, Try.ntmps20
    go_wp2_with fail
    refine HC.out.mono ?_
    rintro e w1 ⟨v, rfl, ho, hb1⟩
    go_wp2_with fail
    go_ret
    exact isRow_own (by simp) ho (HB.out.trans (hb1.mono HB.out.size))
  have e5 : (op == 5) = false := by simp [h5]
  by_cases h6 : op = 6
  · subst h6
    rw [show readsT ⟨6, a, b, c, A, cap, args⟩ = args by simp [readsT, shape_6, readL]]
    have hb := (Below.refl w.heap.size w).alloc (Nat.le_refl _) (.cells #[.int .i64 6, .int .i64 a, .int .i64 b, .int .i64 c, .slice A args.length cap] 33)
    have HC := Lib.hid (clone_any A cap args _ (w.alloc (.cells #[.int .i64 6, .int .i64 a, .int .i64 b, .int .i64 c, .slice A args.length cap] 33)) (hok.below hb).row hok.none (by have := hok.len; show args.length * 8 ≤ _; simp only at this; omega))
    have HB := Lib.hid hb
    clear hok hb
    go_enter Try.func20, Try.ntmps20
    go_wp2_with fail
    refine HC.out.mono ?_
    rintro e w1 ⟨v, rfl, ho, hb1⟩
    go_wp2_with fail
    go_ret
    exact isRow_own (by simp) ho (HB.out.trans (hb1.mono HB.out.size))
  have e6 : (op == 6) = false := by simp [h6]
  by_cases h7 : op = 7
  · subst h7
    rw [show readsT ⟨7, a, b, c, A, cap, args⟩ = args by simp [readsT, shape_7, readL]]
    have hb := (Below.refl w.heap.size w).alloc (Nat.le_refl _) (.cells #[.int .i64 7, .int .i64 a, .int .i64 b, .int .i64 c, .slice A args.length cap] 33)
    have HC := Lib.hid (clone_any A cap args _ (w.alloc (.cells #[.int .i64 7, .int .i64 a, .int .i64 b, .int .i64 c, .slice A args.length cap] 33)) (hok.below hb).row hok.none (by have := hok.len; show args.length * 8 ≤ _; simp only at this; omega))
    have HB := Lib.hid hb
    clear hok hb
    go_enter Try.func20, Try.ntmps20
    go_wp2_with fail
    refine HC.out.mono ?_
    rintro e w1 ⟨v, rfl, ho, hb1⟩
    go_wp2_with fail
    go_ret
    exact isRow_own (by simp) ho (HB.out.trans (hb1.mono HB.out.size))
  have e7 : (op == 7) = false := by simp [h7]
  by_cases h8 : op = 8
  · subst h8
    rw [show readsT ⟨8, a, b, c, A, cap, args⟩ = args by simp [readsT, shape_8, readL]]
    have hb := (Below.refl w.heap.size w).alloc (Nat.le_refl _) (.cells #[.int .i64 8, .int .i64 a, .int .i64 b, .int .i64 c, .slice A args.length cap] 33)
    have HC := Lib.hid (clone_any A cap args _ (w.alloc (.cells #[.int .i64 8, .int .i64 a, .int .i64 b, .int .i64 c, .slice A args.length cap] 33)) (hok.below hb).row hok.none (by have := hok.len; show args.length * 8 ≤ _; simp only at this; omega))
    have HB := Lib.hid hb
    clear hok hb
    go_enter Try.func20, Try.ntmps20
    go_wp2_with fail
    refine HC.out.mono ?_
    rintro e w1 ⟨v, rfl, ho, hb1⟩
    go_wp2_with fail
    go_ret
    exact isRow_own (by simp) ho (HB.out.trans (hb1.mono HB.out.size))
  have e8 : (op == 8) = false := by simp [h8]
  by_cases h10 : op = 10
  · subst h10
    rw [show readsT ⟨10, a, b, c, A, cap, args⟩ = args by simp [readsT, shape_10, readL]]
    have hb := (Below.refl w.heap.size w).alloc (Nat.le_refl _) (.cells #[.int .i64 10, .int .i64 a, .int .i64 b, .int .i64 c, .slice A args.length cap] 33)
    have HC := Lib.hid (clone_any A cap args _ (w.alloc (.cells #[.int .i64 10, .int .i64 a, .int .i64 b, .int .i64 c, .slice A args.length cap] 33)) (hok.below hb).row hok.none (by have := hok.len; show args.length * 8 ≤ _; simp only at this; omega))
    have HB := Lib.hid hb
    clear hok hb
    go_enter Try.func20, Try.ntmps20
    go_wp2_with fail
    refine HC.out.mono ?_
    rintro e w1 ⟨v, rfl, ho, hb1⟩
    go_wp2_with fail
    go_ret
    exact isRow_own (by simp) ho (HB.out.trans (hb1.mono HB.out.size))
  have e10 : (op == 10) = false := by simp [h10]
  by_cases h12 : op = 12
  · subst h12
    rw [show readsT ⟨12, a, b, c, A, cap, args⟩ = args by simp [readsT, shape_12, readL]]
    have hb := (Below.refl w.heap.size w).alloc (Nat.le_refl _) (.cells #[.int .i64 12, .int .i64 a, .int .i64 b, .int .i64 c, .slice A args.length cap] 33)
    have HC := Lib.hid (clone_any A cap args _ (w.alloc (.cells #[.int .i64 12, .int .i64 a, .int .i64 b, .int .i64 c, .slice A args.length cap] 33)) (hok.below hb).row hok.none (by have := hok.len; show args.length * 8 ≤ _; simp only at this; omega))
    have HB := Lib.hid hb
    clear hok hb
    go_enter Try.func20, Try.ntmps20
    go_wp2_with fail
    refine HC.out.mono ?_
    rintro e w1 ⟨v, rfl, ho, hb1⟩
    go_wp2_with fail
    go_ret
    exact isRow_own (by simp) ho (HB.out.trans (hb1.mono HB.out.size))
  have e12 : (op == 12) = false := by simp [h12]
  by_cases h15 : op = 15
  · subst h15
    rw [show readsT ⟨15, a, b, c, A, cap, args⟩ = args by simp [readsT, shape_15, readL]]
    have hb := (Below.refl w.heap.size w).alloc (Nat.le_refl _) (.cells #[.int .i64 15, .int .i64 a, .int .i64 b, .int .i64 c, .slice A args.length cap] 33)
    have HC := Lib.hid (clone_any A cap args _ (w.alloc (.cells #[.int .i64 15, .int .i64 a, .int .i64 b, .int .i64 c, .slice A args.length cap] 33)) (hok.below hb).row hok.none (by have := hok.len; show args.length * 8 ≤ _; simp only at this; omega))
    have HB := Lib.hid hb
    clear hok hb
    go_enter Try.func20, Try.ntmps20
    go_wp2_with fail
    refine HC.out.mono ?_
    rintro e w1 ⟨v, rfl, ho, hb1⟩
    go_wp2_with fail
    go_ret
    exact isRow_own (by simp) ho (HB.out.trans (hb1.mono HB.out.size))
  have e15 : (op == 15) = false := by simp [h15]
  by_cases h9 : op = 9
  · subst h9
    rw [show readsT ⟨9, a, b, c, A, cap, args⟩ = b :: args by simp [readsT, shape_9, readL]]
    obtain ⟨i1, hi1, hy0, hy1, hy2⟩ := int_partsI
    have HOK := Lib.hid hok
    have HL : Hid (OwnAt ((w.alloc (.cells #[.int .i64 9, .int .i64 a, .int .i64 b, .int .i64 c, .slice A args.length cap] 33)).alloc (.cells #[.int .i64 b] 3)) w.heap.size 3 1 (some ⟨w.heap.size + 1, 0, none⟩) 1 1 (ints [b])) := own_lit w (.cells #[.int .i64 9, .int .i64 a, .int .i64 b, .int .i64 c, .slice A args.length cap] 33) b
    have HB : Hid (Below w.heap.size w ((w.alloc (.cells #[.int .i64 9, .int .i64 a, .int .i64 b, .int .i64 c, .slice A args.length cap] 33)).alloc (.cells #[.int .i64 b] 3))) := ((Below.refl _ _).alloc (Nat.le_refl _) _).alloc (by simp) _
    clear hok
    rcases args with _ | ⟨y, ys⟩
    · go_enter Try.func20, Try.ntmps20
      go_wp2_with (at_builtin; refine wpList_append_z rfl (.tmp 40) (.tmp 42) 23 rfl 3 i1 Try.underlying23 hi1 (some ⟨w.heap.size + 1, 0, none⟩) 1 1 (Nat.le_refl 1) rfl A cap rfl ?_)
      go_ret
      exact ⟨_, 1, rfl, HL.out, HB.out⟩
    · have hlen : (y :: ys).length ≤ 1048576 := HOK.out.len
      have hup : 0 < (y :: ys).length := by simp
      obtain ⟨b2, o2, hya, hbb, hcc⟩ := HOK.out.row (by rw [ints_len]; exact hup)
      have HYA := Lib.hid hya
      have HNW : Hid (∀ j u, (ints (y :: ys))[j]? = some u → ((w.alloc (.cells #[.int .i64 9, .int .i64 a, .int .i64 b, .int .i64 c, .slice A (y :: ys).length cap] 33)).alloc (.cells #[.int .i64 b] 3)).cell? ((⟨b2, o2, none⟩ : Addr).add j) = some u) := fun j u hu => by
        rw [addr_add]
        exact (HB.out.cell (p := ⟨b2, o2 + j, none⟩) (Nat.lt_of_lt_of_le hbb HOK.out.hB)).trans (hcc j u hu)
      have HLN : Hid ((ints (y :: ys)).length = (y :: ys).length * 1) := by show _ = _; rw [ints_len, Nat.mul_one]
      have HM1 : Hid (1 + (y :: ys).length ≤ maxLen) := by show _ ≤ _; unfold maxLen; omega
      have HM2 : Hid ((1 + (y :: ys).length) * 8 ≤ 140737488355328) := by show _ ≤ _; omega
      have HUP := Lib.hid hup
      have hcons : Hid (ints [b] ++ ints (y :: ys) = ints (b :: y :: ys)) := rfl
      have HCN := hcons
      have HLL : Hid (1 + (y :: ys).length = (b :: y :: ys).length) := by show _ = _; simp; omega
      clear hya hbb hcc hup hcons hlen HOK
      generalize (y :: ys).length = U at *
      go_enter Try.func20, Try.ntmps20
      go_wp2_with (at_builtin; refine wpList_append_q rfl (.tmp 40) (.tmp 42) 23 rfl w.heap.size 3 i1 (.int .i64 0) 1 8 Try.underlying23 hi1 hy0 hy1 hy2 rfl (by decide) (some ⟨w.heap.size + 1, 0, none⟩) 1 1 (ints [b]) rfl HL.out ⟨b2, o2, none⟩ U cap (ints (y :: ys)) (by rw [← HYA.out]; rfl) HLN.out HNW.out (ints_oneI _) HM1.out HM2.out HB.out.size HUP.out ?_; intro g' o' c' w4 k1 k2 k3)
      go_ret
      rw [HCN.out] at k1
      rw [HLL.out] at k1 ⊢
      exact ⟨_, c', rfl, k1, HB.out.grown k2 HB.out.size (fun k hk => by simp at hk; omega)⟩
  have e9 : (op == 9) = false := by simp [h9]
  by_cases h13 : op = 13
  · subst h13
    rw [show readsT ⟨13, a, b, c, A, cap, args⟩ = [a, b] by simp [readsT, shape_13, readL]]
    clear hok
    go_enter Try.func20, Try.ntmps20
    go_wp2_with fail
    go_ret
    exact isRow_lit w (.cells #[.int .i64 13, .int .i64 a, .int .i64 b, .int .i64 c, .slice A args.length cap] 33) [a, b]
  have e13 : (op == 13) = false := by simp [h13]
  by_cases h22 : op = 22
  · subst h22
    rw [show readsT ⟨22, a, b, c, A, cap, args⟩ = [a, b] by simp [readsT, shape_22, readL]]
    clear hok
    go_enter Try.func20, Try.ntmps20
    go_wp2_with fail
    go_ret
    exact isRow_lit w (.cells #[.int .i64 22, .int .i64 a, .int .i64 b, .int .i64 c, .slice A args.length cap] 33) [a, b]
  have e22 : (op == 22) = false := by simp [h22]
  have hs : (shapeF op).s = ⟨#[]⟩ := by simp only [shapeF, List.mem_cons, List.not_mem_nil, or_false, h2, h20, h21, h4, h11, h18, h19, h23, h24, h25, h26, h27, h5, h6, h7, h8, h10, h12, h15, h9, h13, h22]; (repeat' split) <;> first | rfl | contradiction
  rw [show readsT ⟨op, a, b, c, A, cap, args⟩ = [] by simp [readsT, hs, readL]]
  clear hok hs h2 h20 h21 h4 h11 h18 h19 h23 h24 h25 h26 h27 h5 h6 h7 h8 h10 h12 h15 h9 h13 h22
  go_enter Try.func20, Try.ntmps20
  go_wp2_with fail
  go_ret
  exact isRow_nil ((Below.refl _ _).alloc (Nat.le_refl _) _)
end Go.Proofs.Ythglcnodoophaaa
