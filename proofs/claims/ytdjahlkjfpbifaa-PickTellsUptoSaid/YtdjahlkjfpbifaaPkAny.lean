
/-
  slices.IndexFunc and slices.ContainsFunc with a function that gives some answer, over patterns and over letters.
-/
import Derived.Test.YtdjahlkjfpbifaaPkDef
import Derived.Test.YtdjahlkjfpbifaaLetRow
import Derived.Test.YtdjahlkjfpbifaaFlatV
namespace Go.Proofs.Ytdjahlkjfpbifaa
open Go.RowKit

set_option maxRecDepth 100000 in
set_option maxHeartbeats 1000000 in
theorem indexSome_val (A : Option Addr) (c : Nat) (xs : List (VC)) (fid : FuncId) (caps : Array Value) (B : Nat) (Inv : World → Prop) (w : World) (he : Enters fid) (hm : xs.length ≤ maxLen)
    (hr : ∀ w, Inv w → Row w B A (flat valC xs))
    (hf : ∀ k, k < xs.length → ∀ w, Inv w → Calls Try.prog fid (#[valV (xs.getD k vc0)] ++ caps) w fun e w' => SomeB e ∧ Inv w') (hi : Inv w) :
    Calls Try.prog 74 #[.slice A xs.length c, .func (.func fid) #[] caps] w fun e w' => (∃ j : Int, e = .returned (.int .i64 j)) ∧ Inv w' := by
  have HF := Lib.hid hf
  have HR := Lib.hid hr
  clear hf hr
  unfold Enters at he
  unfold maxLen at hm
  go_enter Try.func74, Try.ntmps74
  go_wp2_with fail
  go_loopw [8] (fun i wr => ∃ k : Nat, k ≤ xs.length ∧ i = .int .i64 k ∧ Inv wr) (fun i _ => xs.length - (intOf i).toNat)
  case atStart => exact ⟨0, by omega, rfl, hi⟩
  case round =>
    obtain ⟨k, hk, rfl, hI⟩ := hrel
    by_cases hlt : k < xs.length
    · obtain ⟨b, o, rfl, _, hc0, hc1, hc2, hc3⟩ := (HR.out wr hI).val hlt vc0
      have HFK := Lib.hid (HF.out k hlt)
      generalize xs.getD k vc0 = x at *
      go_wp2_with fail
      refine (HFK.out wr hI).mono ?_
      rintro e w1 ⟨⟨q, rfl⟩, hI1⟩
      cases q
      case true =>
        go_wp2_with fail
        go_ret
        exact ⟨⟨_, rfl⟩, hI1⟩
      case false =>
        go_wp2_with fail
        go_roundw
        case rel => exact ⟨k + 1, by omega, by go_num, hI1⟩
        case measure => simp [intOf]; omega
    · go_wp2_with fail
      go_ret
      exact ⟨⟨_, rfl⟩, hI⟩

set_option maxRecDepth 100000 in
theorem containsSome_val (A : Option Addr) (c : Nat) (xs : List (VC)) (fid : FuncId) (caps : Array Value) (B : Nat) (Inv : World → Prop) (w : World) (he : Enters fid) (hm : xs.length ≤ maxLen)
    (hr : ∀ w, Inv w → Row w B A (flat valC xs))
    (hf : ∀ k, k < xs.length → ∀ w, Inv w → Calls Try.prog fid (#[valV (xs.getD k vc0)] ++ caps) w fun e w' => SomeB e ∧ Inv w') (hi : Inv w) :
    Calls Try.prog 11 #[.slice A xs.length c, .func (.func fid) #[] caps] w fun e w' => SomeB e ∧ Inv w' := by
  have HC := Lib.hid (indexSome_val A c xs fid caps B Inv w he hm hr hf hi)
  clear hr hf hi he
  go_enter Try.func11, Try.ntmps11
  go_wp2_with fail
  refine HC.out.mono ?_
  rintro e w1 ⟨⟨j, rfl⟩, hI⟩
  go_wp2_with fail
  go_ret
  exact ⟨⟨_, rfl⟩, hI⟩

set_option maxRecDepth 100000 in
set_option maxHeartbeats 1000000 in
theorem indexSome_letter (A : Option Addr) (c : Nat) (xs : List (LC)) (fid : FuncId) (caps : Array Value) (B : Nat) (Inv : World → Prop) (w : World) (he : Enters fid) (hm : xs.length ≤ maxLen)
    (hr : ∀ w, Inv w → Row w B A (flat letterC xs))
    (hf : ∀ k, k < xs.length → ∀ w, Inv w → Calls Try.prog fid (#[letterV (xs.getD k lc0)] ++ caps) w fun e w' => SomeB e ∧ Inv w') (hi : Inv w) :
    Calls Try.prog 76 #[.slice A xs.length c, .func (.func fid) #[] caps] w fun e w' => (∃ j : Int, e = .returned (.int .i64 j)) ∧ Inv w' := by
  have HF := Lib.hid hf
  have HR := Lib.hid hr
  clear hf hr
  unfold Enters at he
  unfold maxLen at hm
  go_enter Try.func76, Try.ntmps76
  go_wp2_with fail
  go_loopw [8] (fun i wr => ∃ k : Nat, k ≤ xs.length ∧ i = .int .i64 k ∧ Inv wr) (fun i _ => xs.length - (intOf i).toNat)
  case atStart => exact ⟨0, by omega, rfl, hi⟩
  case round =>
    obtain ⟨k, hk, rfl, hI⟩ := hrel
    by_cases hlt : k < xs.length
    · obtain ⟨b, o, rfl, _, hc0, hc1, hc2, hc3, hc4, hc5, hc6, hc7, hc8⟩ := (HR.out wr hI).letter hlt lc0
      have HFK := Lib.hid (HF.out k hlt)
      generalize xs.getD k lc0 = x at *
      go_wp2_with fail
      refine (HFK.out wr hI).mono ?_
      rintro e w1 ⟨⟨q, rfl⟩, hI1⟩
      cases q
      case true =>
        go_wp2_with fail
        go_ret
        exact ⟨⟨_, rfl⟩, hI1⟩
      case false =>
        go_wp2_with fail
        go_roundw
        case rel => exact ⟨k + 1, by omega, by go_num, hI1⟩
        case measure => simp [intOf]; omega
    · go_wp2_with fail
      go_ret
      exact ⟨⟨_, rfl⟩, hI⟩

set_option maxRecDepth 100000 in
theorem containsSome_letter (A : Option Addr) (c : Nat) (xs : List (LC)) (fid : FuncId) (caps : Array Value) (B : Nat) (Inv : World → Prop) (w : World) (he : Enters fid) (hm : xs.length ≤ maxLen)
    (hr : ∀ w, Inv w → Row w B A (flat letterC xs))
    (hf : ∀ k, k < xs.length → ∀ w, Inv w → Calls Try.prog fid (#[letterV (xs.getD k lc0)] ++ caps) w fun e w' => SomeB e ∧ Inv w') (hi : Inv w) :
    Calls Try.prog 14 #[.slice A xs.length c, .func (.func fid) #[] caps] w fun e w' => SomeB e ∧ Inv w' := by
  have HC := Lib.hid (indexSome_letter A c xs fid caps B Inv w he hm hr hf hi)
  clear hr hf hi he
  go_enter Try.func14, Try.ntmps14
  go_wp2_with fail
  refine HC.out.mono ?_
  rintro e w1 ⟨⟨j, rfl⟩, hI⟩
  go_wp2_with fail
  go_ret
  exact ⟨⟨_, rfl⟩, hI⟩
end Go.Proofs.Ytdjahlkjfpbifaa
