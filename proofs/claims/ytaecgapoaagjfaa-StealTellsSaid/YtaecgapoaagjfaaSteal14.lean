/-
  Lines: all of them in one row; the lines' row copied.
-/
import Derived.Test.YtaecgapoaagjfaaSteal13
import Derived.Test.YtaecgapoaagjfaaConcat
namespace Go.Proofs.Ytaecgapoaagjfaa
open Go.RowKit

set_option maxRecDepth 100000 in
set_option maxHeartbeats 400000 in
theorem clone_ln (A : Option Addr) (c : Nat) (xs : List (BC)) (B : Nat) (w : World) (hr : Row w B A (flat lnC xs)) (hA : A = none → c = 0) (hm : xs.length * 24 ≤ 140737488355328) :
    Calls Try.prog 146 #[.slice A xs.length c] w fun e w' => ∃ v, e = .returned v ∧ w'.ownsRow w.heap.size 64 1 v xs.length (flat lnC xs) ∧ Below w.heap.size w w' := by
  rcases A with _ | ad
  · obtain rfl := hA rfl
    have hx : xs = [] := by
      rcases xs with _ | ⟨x, r⟩
      · rfl
      · obtain ⟨b, o, h, _⟩ := hr (by rw [flat_len lnC_len]; simp)
        cases h
    subst hx
    have he := fun w => Lib.run_eql_slice_nil (P := Try.prog) w 235 64 none 0 0 0 0 Try.underlying235
    go_enter Try.func146, Try.ntmps146
    go_wp2_with fail
    go_ret
    exact ⟨_, rfl, World.ownsRow_nil _ _ _ _, Below.refl _ _⟩
  · have he := fun w => Lib.run_eql_slice_nil (P := Try.prog) w 235 64 (some ad) xs.length c 0 0 Try.underlying235
    obtain ⟨i0, z0, hi0, hz0, hz1, hz2, hz3⟩ := ln_parts
    have hnews : ∀ j u, (flat lnC xs)[j]? = some u → (w.alloc (.cells ⟨[]⟩ 64)).cell? (ad.add j) = some u := by
      intro j u hu
      have hj : j < (flat lnC xs).length := (List.getElem?_eq_some_iff.1 hu).1
      obtain ⟨b, o, e, _, hc⟩ := hr (by omega)
      injection e with e
      subst e
      have h1 := hc j u hu
      rw [addr_add, World.cell?_alloc_lt w _ ⟨b, o + j, none⟩ (lt_of_cell h1)]
      exact h1
    have HN := Lib.hid hnews
    have HO := Lib.hid (ln_one_all xs)
    have hown : (w.alloc (.cells ⟨[]⟩ 64)).ownsRow w.heap.size 64 1 (.slice (some ⟨w.heap.size, 0, none⟩) 0 0) 0 [] := World.ownsRow_lit w ⟨[]⟩ 0 (Nat.le_refl _) (Nat.zero_le _) rfl
    have HW := Lib.hid hown
    have HB := Lib.hid (show Below w.heap.size w (w.alloc (.cells ⟨[]⟩ 64)) from (Below.refl _ _).alloc (Nat.le_refl _) _)
    clear hnews hown hr hA
    go_enter Try.func146, Try.ntmps146
    go_wp2_with (at_builtin; refine wpList_append_own _ rfl (.tmp 5) (.tmp 6) _ rfl w.heap.size 64 i0 z0 1 24 Try.underlying235 hi0 hz0 hz1 hz2 hz3 (by decide) _ 0 [] rfl HW.out ad xs.length c (flat lnC xs) rfl (flat_len lnC_len xs) HN.out HO.out (by unfold maxLen; omega) (by omega) (by simp) ?_; intro v' w1 hown' hg' _)
    go_ret
    refine ⟨v', rfl, by simpa using hown', HB.out.grown hg' (by simp) (fun k hk => ?_)⟩
    have hk' := (HW.out.lt k hk).1
    exact hk'


set_option maxRecDepth 100000 in
set_option maxHeartbeats 2000000 in
theorem concat_lines (A : Option Addr) (c : Nat) (l : List BC) (vs : List (List Int)) (S : Nat → Prop) (w : World) (h : lnRow w S 0 A c l vs) (h8 : l.length ≤ 8) (h100 : vs.flatten.length ≤ 100) :
    Calls Try.prog 144 #[.slice A l.length c] w (IntsPost vs.flatten w) := by
  have HLV := Lib.hid h.1
  have HH := Lib.hid h.all
  have HV := Lib.hid (show ∀ k, k ≤ vs.length → (vs.take k).flatten.length ≤ 100 from fun k _ => by have h := congrArg (fun z => z.flatten.length) (List.take_append_drop k vs); simp only [List.flatten_append, List.length_append] at h; omega)
  clear h
  go_enter Try.func144, Try.ntmps144
  go_wp2_with fail
  go_loopg [3, 11] l.length (fun gk v i wr => ∃ (k n : Nat), gk = l.length - k ∧ k ≤ l.length ∧ v = .int .i64 n ∧ i = .int .i64 k ∧ (vs.take k).flatten.length = n ∧ n ≤ 100 ∧ w = wr)
  case atStart => exact ⟨0, 0, by omega, by omega, rfl, rfl, rfl, by omega, rfl⟩
  case round =>
    obtain ⟨k, n, hgk, hk, rfl, rfl, hnl, hn100, rfl⟩ := hrel
    have HK := Lib.hid hgk
    have HNL := Lib.hid hnl
    clear hgk hnl
    by_cases hlt : k < l.length
    · obtain ⟨b, o, rfl, hbl, hcc, hi⟩ := HH.out.at hlt
      have HFT := Lib.hid (lines_take vs k (by rw [← HLV.out]; exact hlt))
      have hbi : (vs.getD k []).length ≤ 100 := by
        have h1 := HV.out (k + 1) (by rw [← HLV.out]; omega)
        rw [HFT.out, List.length_append] at h1
        omega
      have HN2 := Lib.hid (show (vs.take (k + 1)).flatten.length = n + (vs.getD k []).length by rw [HFT.out, List.length_append, HNL.out])
      have hn2 : n + (vs.getD k []).length ≤ 100 := by rw [← HN2.out]; exact HV.out (k + 1) (by rw [← HLV.out]; omega)
      generalize vs.getD k [] = xs at *
      generalize l.getD k bc0 = x at *
      have dn : decide ((n : Int) + (xs.length : Int) < 0) = false := decide_eq_false (by omega)
      clear hi
      go_wp2_with fail
      go_roundg (l.length - (k + 1))
      case measure => have := HK.out; omega
      case rel => exact ⟨k + 1, n + xs.length, rfl, by omega, by go_num, by go_num, HN2.out, hn2, rfl⟩
    · obtain rfl : k = l.length := by omega
      have HG := Lib.hid (grow_nil n w (by omega))
      go_wp2_with fail
      refine HG.out.mono ?_
      rintro e w1 ⟨v0, rfl, hown0, hb0⟩
      have HO0 := Lib.hid hown0
      have HB0 := Lib.hid hb0
      clear hown0 hb0 HG
      go_wp2_with fail
      go_loopg [6, 27] l.length (fun gk v i wr => ∃ (k : Nat), gk = l.length - k ∧ k ≤ l.length ∧ i = .int .i64 k ∧ wr.ownsRow w.heap.size 3 1 v (vs.take k).flatten.length (ints (vs.take k).flatten) ∧ Below w.heap.size w wr)
      case atStart => exact ⟨0, by omega, by omega, rfl, HO0.out, HB0.out⟩
      case round =>
        obtain ⟨k, hgk, hk, rfl, hown, hb⟩ := hrel
        have HK := Lib.hid hgk
        have HO := Lib.hid hown
        have HB := Lib.hid hb
        have hs := hb.size
        clear hgk hown hb
        by_cases hlt : k < l.length
        · obtain ⟨b, o, rfl, hbl, hcc, hi⟩ := (HH.out.below HB.out fun _ h => h).at hlt
          have HFT := Lib.hid (lines_take vs k (by rw [← HLV.out]; exact hlt))
          have HI := Lib.hid hi
          have hbd : ((vs.take k).flatten.length + (vs.getD k []).length) * 8 ≤ 140737488355328 := by
            have h1 := HV.out (k + 1) (by rw [← HLV.out]; omega)
            rw [HFT.out, List.length_append] at h1
            omega
          have HBD := Lib.hid hbd
          generalize vs.getD k [] = xs at *
          generalize l.getD k bc0 = x at *
          generalize hzs : (vs.take k).flatten = zs at *
          clear hi hzs hbd
          go_wp2_with (at_builtin; refine wpList_append_ints rfl (.tmp 31) (.tmp 32) rfl w.heap.size _ zs rfl HO.out x.A x.cap _ xs rfl HI.out.row HI.out.2.2.2.2.1 HBD.out hs ?_; intro v' w2 hown2 hg2)
          have HB2 := Lib.hid (HB.out.grown hg2 hs (fun q hq => (HO.out.lt q hq).1))
          have HO2 := Lib.hid hown2
          clear hown2 hg2
          go_roundg (l.length - (k + 1))
          case measure => have := HK.out; omega
          case rel => exact ⟨k + 1, rfl, by omega, by go_num, by rw [HFT.out]; exact HO2.out, HB2.out⟩
        · have HE := Lib.hid (show (vs.take k).flatten = vs.flatten by rw [List.take_of_length_le (by rw [← HLV.out]; omega)])
          go_wp2_with fail
          go_ret
          exact ⟨_, rfl, by rw [← HE.out]; exact HO.out, HB.out⟩
end Go.Proofs.Ytaecgapoaagjfaa
