/-
  slices.IndexFunc, at []int.
-/
import Derived.Test.YtcmkkfpcdebfkaaSlicesInt
namespace Go.Proofs.Ytcmkkfpcdebfkaa
open Go.RowKit

set_option maxRecDepth 100000 in
set_option maxHeartbeats 1000000 in
theorem indexFunc_any (A : Option Addr) (c : Nat) (xs : List Int) (fid : FuncId) (caps : Array Value) (f : Int → Bool) (B : Nat) (Inv : World → Prop) (w : World) (he : Enters fid) (hm : xs.length ≤ maxLen)
    (hr : ∀ w, Inv w → Row w B A (ints xs))
    (hf : ∀ x ∈ xs, ∀ w, Inv w → Calls Try.prog fid (#[.int .i64 x] ++ caps) w fun e w' => e = .returned (.bool (f x)) ∧ Inv w') (hi : Inv w) :
    Calls Try.prog 213 #[.slice A xs.length c, .func (.func fid) #[] caps] w fun e w' => e = .returned (.int .i64 (idxFrom f xs 0)) ∧ Inv w' := by
  have HF := Lib.hid hf
  have HR := Lib.hid hr
  clear hf hr
  unfold Enters at he
  unfold maxLen at hm
  go_enter Try.func213, Try.ntmps213
  go_wp2_with fail
  go_loopw [8] (fun i wr => ∃ k : Nat, k ≤ xs.length ∧ i = .int .i64 k ∧ Hid (idxFrom f xs 0 = idxFrom f (xs.drop k) k) ∧ Inv wr) (fun i _ => xs.length - (intOf i).toNat)
  case atStart => exact ⟨0, by omega, rfl, rfl, hi⟩
  case round =>
    obtain ⟨k, hk, rfl, HK, hI⟩ := hrel
    by_cases hlt : k < xs.length
    · obtain ⟨b, o, rfl, _, hc⟩ := (HR.out wr hI).int hlt
      have hmem : xs.getD k 0 ∈ xs := by rw [List.getD_eq_getElem?_getD, List.getElem?_eq_getElem hlt]; exact List.getElem_mem hlt
      have HD := Lib.hid (idxFrom_drop f xs k hlt k)
      generalize xs.getD k 0 = x at *
      have HM := Lib.hid hmem
      clear hmem
      go_wp2_with fail
      refine (HF.out x HM.out wr hI).mono ?_
      rintro e w1 ⟨rfl, hI1⟩
      by_cases hfx : f x = true
      · have HX := Lib.hid hfx
        rw [hfx]
        clear hfx
        go_wp2_with fail
        go_ret
        refine ⟨?_, hI1⟩
        rw [HK.out, HD.out, if_pos HX.out]
        rfl
      · have HX := Lib.hid hfx
        rw [show f x = false by simpa using hfx]
        clear hfx
        go_wp2_with fail
        go_roundw
        case rel =>
          refine ⟨k + 1, by omega, by go_num, ?_, hI1⟩
          unfold Hid
          rw [HK.out, HD.out, if_neg HX.out]
          rfl
        case measure => simp [intOf]; omega
    · go_wp2_with fail
      go_ret
      refine ⟨?_, hI⟩
      rw [HK.out, List.drop_eq_nil_of_le (by omega)]
      rfl

end Go.Proofs.Ytcmkkfpcdebfkaa
