
/-
  slices.Index and slices.Contains, at []int.
-/
import Derived.Test.YtbhdagjilmgahaaRows2
import Derived.Deep.LoopGhost
namespace Go.Proofs.Ytbhdagjilmgahaa
open Go.RowKit

/-- What Index answers. -/
theorem index_ints (A : Option Addr) (c : Nat) (xs : List Int) (y : Int) (B : Nat) (w : World) (hr : Row w B A (ints xs)) (hm : xs.length ≤ maxLen) :
    Calls Try.prog 31 #[.slice A xs.length c, .int .i64 y] w fun e w' => e = .returned (.int .i64 (idxFrom (fun x => y == x) xs 0)) ∧ w = w' := by
  unfold maxLen at hm
  go_enter Try.func31, Try.ntmps31
  go_wp2_with fail
  go_loopg [8] xs.length (fun m v wr => ∃ k : Nat, k ≤ xs.length ∧ m = xs.length - k ∧ v = .int .i64 k ∧ idxFrom (fun x => y == x) xs 0 = idxFrom (fun x => y == x) (xs.drop k) k ∧ w = wr)
  case atStart => exact ⟨0, by omega, rfl, rfl, rfl, rfl⟩
  case round =>
    obtain ⟨k, hk, hmm, rfl, hK, rfl⟩ := hrel
    have HM := Lib.hid hmm
    have HK := Lib.hid hK
    clear hmm hK
    by_cases hlt : k < xs.length
    · obtain ⟨b, o, rfl, _, hc⟩ := hr.int hlt
      have HD := Lib.hid (idxFrom_drop (fun x => y == x) xs k hlt k)
      generalize xs.getD k 0 = x at *
      by_cases hx : y = x
      · have b1 : (y == x) = true := by simp [hx]
        have HX := Lib.hid b1
        clear hx
        go_wp2_with fail
        go_ret
        refine ⟨?_, rfl⟩
        rw [HK.out, HD.out, if_pos HX.out]
        rfl
      · have b1 : (y == x) = false := by simp [hx]
        have HX := Lib.hid b1
        clear hx
        go_wp2_with fail
        go_roundg (xs.length - (k + 1))
        case measure => have := HM.out; omega
        case rel => exact ⟨k + 1, by omega, rfl, by go_num, by rw [HK.out, HD.out, if_neg (by rw [HX.out]; simp)]; rfl, rfl⟩
    · go_wp2_with fail
      go_ret
      refine ⟨?_, rfl⟩
      rw [HK.out, List.drop_eq_nil_of_le (by omega)]
      rfl

theorem contains_ints (A : Option Addr) (c : Nat) (xs : List Int) (y : Int) (B : Nat) (w : World) (hr : Row w B A (ints xs)) (hm : xs.length ≤ maxLen) :
    Calls Try.prog 20 #[.slice A xs.length c, .int .i64 y] w fun e w' => e = .returned (.bool (xs.any (fun x => y == x))) ∧ w = w' := by
  have HI := Lib.hid (index_ints A c xs y B w hr hm)
  have HA := Lib.hid (idxFrom_any (fun x => y == x) xs 0 (by omega))
  generalize idxFrom (fun x => y == x) xs 0 = j at *
  go_enter Try.func20, Try.ntmps20
  go_wp2_with fail
  refine HI.out.mono ?_
  rintro e w1 ⟨rfl, rfl⟩
  go_wp2_with fail
  go_ret
  refine ⟨?_, rfl⟩
  rw [← HA.out]
  rfl
end Go.Proofs.Ytbhdagjilmgahaa
