/-
  FenceStores: every sequence of writes to a fenced store has the specified results. For every input, no condition.
-/
import Derived.Test.YtjblfkoepedhpaaStore
import Derived.Test.YtjblfkoepedhpaaOpen
namespace Go.Proofs.Ytjblfkoepedhpaa
open Go.ChangeShapes Go.WideShapes Go.ChangeAt Go.RowKit

theorem st_new (w : World) : St (w.alloc (.cells #[.int .i64 0, .int .i64 0, .int .i64 0] 139)) w.heap.size 0 0 0 := Box.new _ _ _

set_option maxRecDepth 100000 in
set_option maxHeartbeats 1000000 in
theorem fenceStores_walk (A : Option Addr) (c : Nat) (xss : List (List Int)) (W : World) (h : IntRows W W.heap.size A xss) (hm : xss.length ≤ maxLen) :
    Calls Try.prog 3 #[.slice A xss.length c] W fun e w' => e = .returned (.bool true) ∧ Below W.heap.size W w' := by
  unfold maxLen at hm
  go_enter Try.func3, Try.ntmps3
  go_wp2_with fail
  refine (newStore_any _).mono ?_
  rintro e w' ⟨rfl, rfl⟩
  have s0 := st_new W
  have b0 : Below W.heap.size W (W.alloc (.cells #[.int .i64 0, .int .i64 0, .int .i64 0] 139)) := (Below.refl _ _).alloc (Nat.le_refl _) _
  generalize W.alloc (.cells #[.int .i64 0, .int .i64 0, .int .i64 0] 139) = w0 at *
  go_wp2_with fail
  refine (put_new _ _ _ _ _ _ _ s0 (by omega) (by omega) (by omega) (by omega)).mono ?_
  rintro e w1 ⟨rfl, s1, o1⟩
  have b1 := o1.below b0 b0.size (Nat.le_refl _)
  clear o1 s0 b0
  go_wp2_with fail
  refine (put_old _ _ _ _ _ _ _ s1 (by omega) (by omega) (by omega) (by omega)).mono ?_
  rintro e w2 ⟨rfl, s2, o2⟩
  have b2 := o2.below b1 b1.size (Nat.le_refl _)
  clear o2 s1 b1
  go_wp2_with fail
  refine (put_bad _ _ _ _ _ _ _ s2 (by omega) (by omega) (by omega)).mono ?_
  rintro e w3 ⟨rfl, s3, o3⟩
  have b3 := o3.below b2 b2.size (Nat.le_refl _)
  clear o3 s2 b2 s3
  go_wp2_with fail
  refine (newStore_any _).mono ?_
  rintro e w' ⟨rfl, rfl⟩
  have s4 := st_new w3
  have b4 : Below W.heap.size W (w3.alloc (.cells #[.int .i64 0, .int .i64 0, .int .i64 0] 139)) := b3.alloc b3.size _
  have hg : W.heap.size ≤ w3.heap.size := b3.size
  generalize w3.alloc (.cells #[.int .i64 0, .int .i64 0, .int .i64 0] 139) = w4 at *
  generalize w3.heap.size = g at *
  clear b3
  go_wp2_with fail
  go_loopw [4, 5, 6, 36] (fun v e r i wr => ∃ (k : Nat) (V E R : Int), k ≤ xss.length ∧ i = .int .i64 k ∧ v = .int .i64 V ∧ e = .int .i64 E ∧ r = .int .i64 R ∧ 0 ≤ R ∧ R ≤ k ∧ St wr g V E R ∧ Below W.heap.size W wr) (fun _ _ _ i _ => xss.length - (intOf i).toNat)
  case atStart => exact ⟨0, 0, 0, 0, Nat.zero_le _, rfl, rfl, rfl, rfl, by omega, by omega, s4, b4⟩
  case round =>
    obtain ⟨k, V, E, R, hk, rfl, rfl, rfl, rfl, hR0, hRk, hs, hb⟩ := hrel
    by_cases hlt : k < xss.length
    · obtain ⟨b, o, a', c', rfl, hcell, hrow, hlen, _⟩ := (h.below hb).at hlt
      generalize xss.getD k [] = xs at *
      go_wp2_with fail
      refine (at_any _ _ _ _ _ _ _ hrow rfl hlen (by omega)).mono ?_
      rintro e w' ⟨rfl, rfl⟩
      generalize xs.getD (Int.toNat 0) 0 = n at *
      go_wp2_with fail
      refine (at_any _ _ _ _ _ _ _ hrow rfl hlen (by omega)).mono ?_
      rintro e w' ⟨rfl, rfl⟩
      generalize xs.getD (Int.toNat 1) 0 = x at *
      by_cases c1 : n < 1
      · go_wp2_with fail
        refine (put_bad _ _ _ _ _ _ _ hs hR0 (by omega) (by omega)).mono ?_
        rintro e w' ⟨rfl, hs', ho⟩
        have hb' := ho.below hb hb.size hg
        go_wp2_with fail
        refine (get_any _ _ _ _ _ hs').mono ?_
        rintro e w'' ⟨rfl, nq, rfl⟩
        go_wp2_with fail
        go_roundw
        case rel => exact ⟨k + 1, V, E, R, by omega, by go_num, rfl, rfl, rfl, hR0, by omega, hs'.drewN nq, below_drewN hb' nq⟩
        case measure => simp [intOf]; omega
      · by_cases c2 : n < E
        · go_wp2_with fail
          refine (put_old _ _ _ _ _ _ _ hs hR0 (by omega) (by omega) (by omega)).mono ?_
          rintro e w' ⟨rfl, hs', ho⟩
          have hb' := ho.below hb hb.size hg
          go_wp2_with fail
          refine (get_any _ _ _ _ _ hs').mono ?_
          rintro e w'' ⟨rfl, nq, rfl⟩
          go_wp2_with fail
          go_roundw
          case rel => exact ⟨k + 1, V, E, R + 1, by omega, by go_num, rfl, rfl, rfl, by omega, by omega, hs'.drewN nq, below_drewN hb' nq⟩
          case measure => simp [intOf]; omega
        · go_wp2_with fail
          refine (put_new _ _ _ _ _ _ _ hs hR0 (by omega) (by omega) (by omega)).mono ?_
          rintro e w' ⟨rfl, hs', ho⟩
          have hb' := ho.below hb hb.size hg
          go_wp2_with fail
          refine (get_any _ _ _ _ _ hs').mono ?_
          rintro e w'' ⟨rfl, nq, rfl⟩
          go_wp2_with fail
          go_roundw
          case rel => exact ⟨k + 1, x, n, R, by omega, by go_num, rfl, rfl, rfl, by omega, by omega, hs'.drewN nq, below_drewN hb' nq⟩
          case measure => simp [intOf]; omega
    · go_wp2_with fail
      go_ret
      exact ⟨rfl, hb⟩
set_option maxRecDepth 100000 in
theorem fenceStores_called : Called 3 Try.f3 := by
  intro H enc W base args ds p hval hA hsz
  rw [Try.params3] at hA hval
  obtain ⟨v0, d0, rfl, rfl, h0⟩ := trodAll_one hA
  obtain ⟨A, c, xss, rfl, hr, hl, hm, _⟩ := open_intRows Try.underlying22 Try.underlying27 Try.underlying3 (by kernel_rfl) (by kernel_rfl) (hval 0 22 v0 rfl rfl) h0
  exact fenceStores_walk A c xss W hr (by omega)

set_option maxRecDepth 100000 in
theorem fenceStores_lifted (os : Os) (started : os.Started) (H : Type) (enc : TypeId × Value → H) :
    ReturnsInHanded {} Try.checked os 3 .any (Rows.fenceStoresSpec.pre6 enc Try.prog Try.f3 Rows.fenceStoresRow.domain false) (Rows.fenceStoresSpec.post enc Try.prog Try.f3 false true false false) :=
  law_lift started (by kernel_rfl) Try.func3
    (ChangeSpec.witness6 (enc := enc) (C := Try.checked) false ⟨#[], #[.slice none 0 0], []⟩ 8 (by kernel_rfl) (by kernel_rfl) (by kernel_rfl) (by kernel_rfl))
    rfl rfl (by kernel_rfl) (by kernel_rfl) (fun l hl => by
      rw [Try.params3] at hl
      match l, hl with
      | [d0], _ => rfl) fenceStores_called

theorem fenceStores_over : Rows.fenceStoresRow.holds Try.pinned (OpenSpec.ofChange Rows.fenceStoresSpec) :=
  OpenClaim.holds_of_wide 3 Try.f3 rfl rfl rfl rfl rfl rfl rfl ⟨rfl, rfl, rfl, rfl, rfl⟩ rfl rfl rfl rfl rfl (by kernel_rfl) Try.func3 (by kernel_rfl)
    (of_decide_eq_true (by kernel_rfl)) (by unfold Func.isWrapper; first | (rw [if_pos (by decide +kernel)]; kernel_rfl) | (rw [if_neg (by decide +kernel)]; exact ⟨rfl, rfl⟩))
    (fun os started H enc _ => fenceStores_lifted os started H enc)

theorem fenceStores_holds : Rows.FenceStoresSaid := fenceStores_over
end Go.Proofs.Ytjblfkoepedhpaa
