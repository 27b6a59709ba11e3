
/-
  A word copied between heaps ((*carry.transfer).word).
-/
import Derived.Test.YtdjahlkjfpbifaaCy1
import Derived.Deep.CutBlock
import Derived.Deep.DeepCutAuto
import Derived.Deep.RegionHeld3
import Derived.Deep.LoopGhost
namespace Go.Proofs.Ytdjahlkjfpbifaa
open Go.RowKit

set_option maxRecDepth 100000 in
set_option maxHeartbeats 4000000 in
theorem word_early (f : Nat → CSt → Except Int (Nat × CSt)) (deep : Bool) (base u : Nat) (s : CSt) (gt gm : Nat) (Af : Option Addr) (cf : Nat) (g : List Nat) (At : Option Addr) (ct : Nat) (Ac : Option Addr) (cc : Nat) (level : Int) (w : World) (hu : u < 18446744073709551616) (hst : TSt base w gt gm Af cf g At ct Ac cc s)
    (hE : readB (u : Int) = false ∨ (u : Int) % 8 ≠ 4 ∨ ∃ c, s.mv (readN (u : Int)) = some c) :
    Calls Try.prog 92 #[.pointer (some ⟨gt, 0, none⟩), .int .u64 (u : Int), .int .i64 level] w (CyPost base gt gm Af cf g At Ac (carStep g f deep u s) w) := by
  have hform := carStep_form g f deep u s
  obtain ⟨l0, l1, l2, l3, _⟩ := own_cells4 hst.bx
  have hmp := hst.mp
  have HST := Lib.hid hst
  have hrd := fun w' => read_any (u : Int) w' (nat_u64 hu).1 (nat_u64 hu).2
  have hni := readN_i64 (u : Int)
  generalize carStep g f deep u s = r at *
  clear hst
  cases hrb : readB (u : Int) with
  | false =>
    rw [hrb, if_pos rfl] at hform
    rw [hrb] at hrd
    simp only [Bool.false_eq_true, if_false] at hrd
    have HRD := Lib.hid hrd
    have HF := Lib.hid hform
    clear hrd hform hE hmp hrb hni
    go_enter Try.func92, Try.ntmps92
    go_wp2_with fail
    refine (HRD.out _).mono ?_
    rintro e w1 ⟨rfl, rfl⟩
    go_wp2_with fail
    go_ret2
    exact CyPost.err HF.out (Only.refl _ _)
  | true =>
    rw [hrb, if_neg (by decide)] at hform
    rw [hrb] at hrd hE
    simp only [if_true] at hrd
    by_cases h4 : (u : Int) % 8 ≠ 4
    · rw [if_pos h4] at hform
      have b4 : ((u : Int) % 8 != 4) = true := by simpa using h4
      have HRD := Lib.hid hrd
      have HF := Lib.hid hform
      clear hrd hform hE hmp hrb hni h4
      generalize (u : Int) % 8 = t at *
      go_enter Try.func92, Try.ntmps92
      go_wp2_with fail
      refine (HRD.out _).mono ?_
      rintro e w1 ⟨rfl, rfl⟩
      go_wp2_with fail
      go_ret2
      exact CyPost.same HF.out HST.out
    · rw [if_neg h4] at hform
      have h4' : (u : Int) % 8 = 4 := by simpa using h4
      rw [h4'] at hrd
      obtain ⟨c, hc⟩ : ∃ c, s.mv (readN (u : Int)) = some c := by
        rcases hE with h | h | h
        · cases h
        · exact absurd h h4
        · exact h
      rw [hc] at hform
      dsimp only at hform
      generalize readN (u : Int) = n at *
      have hlk := hmp.look_ok ints_keyed Try.underlying99 (zero_u64C w) (int_key hni)
      rw [hc] at hlk
      simp only [Option.map_some, Option.getD_some, Option.isSome_some] at hlk
      have HRD := Lib.hid hrd
      have HF := Lib.hid hform
      clear hrd hform hE hmp hrb hni h4 h4' hc
      go_enter Try.func92, Try.ntmps92
      go_wp2_with fail
      refine (HRD.out _).mono ?_
      rintro e w1 ⟨rfl, rfl⟩
      go_wp2_with fail
      go_ret2
      exact CyPost.same HF.out HST.out

end Go.Proofs.Ytdjahlkjfpbifaa
