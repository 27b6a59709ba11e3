/-
  weightTells: the two sides tell the same.
-/
import Derived.Test.YtcmkkfpcdebfkaaWt5
namespace Go.Proofs.Ytcmkkfpcdebfkaa
open Go.RowKit

theorem MAt.backT {w : World} {B : Nat} {f : Nat → Nat} {m : Nat} {n : Int} {s : WS} {r : MR} (h : MS w B f m n s r) {k : Nat} (hk : k < s.T.length) : ∃ g o, r.A2 = some ⟨g, o, none⟩ ∧ w.cell? ⟨g, o + k, none⟩ = some (.int .i64 (s.T.getD k th0).back) := by
  have ho := MAt.o2 h
  rw [List.length_map] at ho
  obtain ⟨g, o, hA, _⟩ := ho.some_of (show 0 < s.T.length by omega)
  refine ⟨g, o, hA, ?_⟩
  rw [hA] at ho
  exact ho.cells k _ (by simp [ints, List.getD_eq_getElem?_getD, List.getElem?_eq_getElem hk])

set_option maxRecDepth 100000 in
set_option maxHeartbeats 4000000 in
theorem weightTells_any (B : Nat) (f : Nat → Nat) (x m N q : Nat) (s : WS) (r : XR) (r2 : MR) (w : World) (hx : XAt w B f x N q s r) (hm : MS w B f m N s r2) (hN : N ≤ 8) (hT : s.T.length ≤ 20) (hY : s.Y.length ≤ 60) :
    Calls Try.prog 58 #[.pointer (some ⟨x, 0, none⟩), .pointer (some ⟨m, 0, none⟩)] w fun e w' => e = .returned (.bool true) ∧ Below w.heap.size w w' := by
  have HX := Lib.hid hx
  have HM := Lib.hid hm
  have HN8 := Lib.hid (show (N : Int) ≤ 8 by omega)
  have c0 := MAt.d0 hm
  have c1 := MAt.d1 hm
  rw [List.length_map] at c1
  have c4 := MAt.d4 hm
  clear hx hm
  go_enter Try.func58, Try.ntmps58
  go_wp2_with fail
  go_loopg [5] (s.T.length + 2) (fun gk v wr => ∃ i : Nat, gk = s.T.length + 2 - i ∧ i ≤ s.T.length + 2 ∧ v = .int .i64 ((i : Int) - 1) ∧ w = wr)
  case atStart => exact ⟨0, by omega, by omega, rfl, rfl⟩
  case round =>
    obtain ⟨i, hgk, hi, rfl, rfl⟩ := hrel
    have HI := Lib.hid hgk
    clear hgk
    obtain ⟨t, ht⟩ : ∃ t : Int, Hid ((i : Int) - 1 = t) := ⟨_, rfl⟩
    have HTX := Lib.hid (show wrap64 (t + 1) = ((i + 1 : Nat) : Int) - 1 by have := ht.out; unfold wrap64; omega)
    rw [ht.out]
    by_cases hil : i < s.T.length + 2
    · have d1 : decide (t ≤ (s.T.length : Int)) = true := by have := ht.out; simp; omega
      have HF := Lib.hid (freed_any B f x N q s r t w HX.out)
      by_cases h0 : t < 0
      · rw [show freedE s t = 1 from if_pos (.inl h0), show freedV s t = false from if_pos (.inl h0)] at HF
        have d2 : decide (t < 0) = true := by simp; omega
        have HTB : Hid (∀ node, hasE N s node t = 1) := fun node => if_pos (.inr (.inl h0))
        clear h0
        go_wp2_with fail
        refine HF.out.mono ?_
        rintro e w' ⟨rfl, rfl⟩
        go_wp2_with fail
        go_loopg [8] (N + 2) (fun gp v wq => ∃ p : Nat, gp = N + 2 - p ∧ p ≤ N + 2 ∧ v = .int .i64 ((p : Int) - 1) ∧ w = wq)
        case atStart => exact ⟨0, by omega, by omega, rfl, rfl⟩
        case round =>
          obtain ⟨p, hgp, hp, rfl, rfl⟩ := hrel
          have HP := Lib.hid hgp
          clear hgp
          obtain ⟨node, hnode⟩ : ∃ node : Int, Hid ((p : Int) - 1 = node) := ⟨_, rfl⟩
          have HNX := Lib.hid (show wrap64 (node + 1) = ((p + 1 : Nat) : Int) - 1 by have := hnode.out; unfold wrap64; omega)
          rw [hnode.out]
          by_cases hlt : p < N + 2
          · have d1 : decide (node ≤ (N : Int)) = true := by have := hnode.out; simp; omega
            have HH := Lib.hid (has_any B f x N q s r node t w HX.out (by have := hnode.out; unfold I64; omega))
            have HE := Lib.hid (merr_any B f m N s r2 node t w HM.out HN8.out)
            by_cases he : hasE N s node t = 0
            · exact absurd he (by rw [HTB.out]; decide)
            · have hV : hasV N s node t = 0 := if_neg he
              rw [hV] at HH
              have b1 : (hasE N s node t != 0) = true := by simp [he]
              generalize hasE N s node t = E at *
              clear he hV
              go_wp2_with fail
              refine HH.out.mono ?_
              rintro e w' ⟨rfl, rfl⟩
              go_wp2_with fail
              refine HE.out.mono ?_
              rintro e w' ⟨rfl, rfl⟩
              go_wp2_with fail
              go_roundg (N + 2 - (p + 1))
              case measure => have := HP.out; omega
              case rel => exact ⟨p + 1, rfl, by omega, by first | (rw [← HNX.out]; go_num) | exact congrArg _ HNX.out, rfl⟩
          · have d1 : decide (node ≤ (N : Int)) = false := by have := hnode.out; simp; omega
            clear HP HNX
            go_wp2_with fail
            go_roundg (s.T.length + 2 - (i + 1))
            case measure => have := HI.out; omega
            case rel => exact ⟨i + 1, rfl, by omega, by first | (rw [← HTX.out]; go_num) | exact congrArg _ HTX.out | exact congrArg _ (by have := ht.out; omega), rfl⟩
      have d2 : decide (t < 0) = false := by simp; omega
      by_cases h1 : t = (s.T.length : Int)
      · rw [show freedE s t = 1 from if_pos (.inr (by omega)), show freedV s t = false from if_pos (.inr (by omega))] at HF
        have d3 : (t == (s.T.length : Int)) = true := by simp [h1]
        have HTB : Hid (∀ node, hasE N s node t = 1) := fun node => if_pos (.inr (.inr (by omega)))
        clear h0 h1
        go_wp2_with fail
        refine HF.out.mono ?_
        rintro e w' ⟨rfl, rfl⟩
        go_wp2_with fail
        go_loopg [8] (N + 2) (fun gp v wq => ∃ p : Nat, gp = N + 2 - p ∧ p ≤ N + 2 ∧ v = .int .i64 ((p : Int) - 1) ∧ w = wq)
        case atStart => exact ⟨0, by omega, by omega, rfl, rfl⟩
        case round =>
          obtain ⟨p, hgp, hp, rfl, rfl⟩ := hrel
          have HP := Lib.hid hgp
          clear hgp
          obtain ⟨node, hnode⟩ : ∃ node : Int, Hid ((p : Int) - 1 = node) := ⟨_, rfl⟩
          have HNX := Lib.hid (show wrap64 (node + 1) = ((p + 1 : Nat) : Int) - 1 by have := hnode.out; unfold wrap64; omega)
          rw [hnode.out]
          by_cases hlt : p < N + 2
          · have d1 : decide (node ≤ (N : Int)) = true := by have := hnode.out; simp; omega
            have HH := Lib.hid (has_any B f x N q s r node t w HX.out (by have := hnode.out; unfold I64; omega))
            have HE := Lib.hid (merr_any B f m N s r2 node t w HM.out HN8.out)
            by_cases he : hasE N s node t = 0
            · exact absurd he (by rw [HTB.out]; decide)
            · have hV : hasV N s node t = 0 := if_neg he
              rw [hV] at HH
              have b1 : (hasE N s node t != 0) = true := by simp [he]
              generalize hasE N s node t = E at *
              clear he hV
              go_wp2_with fail
              refine HH.out.mono ?_
              rintro e w' ⟨rfl, rfl⟩
              go_wp2_with fail
              refine HE.out.mono ?_
              rintro e w' ⟨rfl, rfl⟩
              go_wp2_with fail
              go_roundg (N + 2 - (p + 1))
              case measure => have := HP.out; omega
              case rel => exact ⟨p + 1, rfl, by omega, by first | (rw [← HNX.out]; go_num) | exact congrArg _ HNX.out, rfl⟩
          · have d1 : decide (node ≤ (N : Int)) = false := by have := hnode.out; simp; omega
            clear HP HNX
            go_wp2_with fail
            go_roundg (s.T.length + 2 - (i + 1))
            case measure => have := HI.out; omega
            case rel => exact ⟨i + 1, rfl, by omega, by first | (rw [← HTX.out]; go_num) | exact congrArg _ HTX.out | exact congrArg _ (by have := ht.out; omega), rfl⟩
      have d3 : (t == (s.T.length : Int)) = false := by simp [h1]
      obtain ⟨k0, hk0⟩ : ∃ k0 : Nat, t = k0 := ⟨t.toNat, by omega⟩
      have hk0l : k0 < s.T.length := by have := ht.out; omega
      have hk0n : k0 ≤ s.T.length := by omega
      have hk0m : (k0 : Int) < (s.T.length : Int) := by omega
      obtain ⟨g6, o6, hA6, p6⟩ := MAt.backT HM.out hk0l
      have c2 := MAt.d2 HM.out
      rw [hA6, List.length_map] at c2
      rw [show freedE s t = 0 from if_neg (by omega), show freedV s t = ((s.T.getD k0 th0).back == 65536) by unfold freedV WS.at; rw [if_neg (by omega), hk0, Int.toNat_natCast]] at HF
      generalize hbk : ((s.T.getD k0 th0).back == 65536) = bk at *
      have hbk2 : Hid ((s.T.getD k0 th0).back == 65536) = Hid ((s.T.getD k0 th0).back == 65536) := rfl
      clear hbk2
      generalize (s.T.getD k0 th0).back = zb at *
      subst hk0
      clear h0 h1 hA6
      go_wp2_with fail
      refine HF.out.mono ?_
      rintro e w' ⟨rfl, rfl⟩
      go_wp2_with fail
      go_loopg [8] (N + 2) (fun gp v wq => ∃ p : Nat, gp = N + 2 - p ∧ p ≤ N + 2 ∧ v = .int .i64 ((p : Int) - 1) ∧ w = wq)
      case atStart => exact ⟨0, by omega, by omega, rfl, rfl⟩
      case round =>
        obtain ⟨p, hgp, hp, rfl, rfl⟩ := hrel
        have HP := Lib.hid hgp
        clear hgp
        obtain ⟨node, hnode⟩ : ∃ node : Int, Hid ((p : Int) - 1 = node) := ⟨_, rfl⟩
        have HNX := Lib.hid (show wrap64 (node + 1) = ((p + 1 : Nat) : Int) - 1 by have := hnode.out; unfold wrap64; omega)
        rw [hnode.out]
        by_cases hlt : p < N + 2
        · have d1 : decide (node ≤ (N : Int)) = true := by have := hnode.out; simp; omega
          have HH := Lib.hid (has_any B f x N q s r node k0 w HX.out (by have := hnode.out; unfold I64; omega))
          have HE := Lib.hid (merr_any B f m N s r2 node k0 w HM.out HN8.out)
          by_cases he : hasE N s node k0 = 0
          · obtain ⟨k, hk, hkl, hn0, hnn, hV, hz⟩ := has_cases he
            obtain ⟨j, rfl⟩ := Int.eq_ofNat_of_zero_le hn0
            obtain ⟨g7, o7, hA7, _, p7⟩ := MAt.hasC HM.out hkl (show j < 8 by have := HN8.out; omega)
            have d3 := MAt.d3 HM.out
            rw [hA7] at d3
            rw [he, hV] at HH
            rw [he] at HE
            rw [hk] at HH HE
            have hjN : j ≤ N := by omega
            have hj8 : j < 8 := by have := HN8.out; omega
            have hj9 : (j : Int) < 8 := by omega
            have hk1 : (k : Int) < (s.T.length : Int) := by omega
            generalize (s.T.getD k th0).has j = z at *
            clear he hV hz hA7 hn0 hnn
            obtain rfl : k0 = k := by omega
            go_wp2_with fail
            refine HH.out.mono ?_
            rintro e w' ⟨rfl, rfl⟩
            go_wp2_with fail
            refine HE.out.mono ?_
            rintro e w' ⟨rfl, rfl⟩
            go_wp2_with fail
            go_roundg (N + 2 - (p + 1))
            case measure => have := HP.out; omega
            case rel => exact ⟨p + 1, rfl, by omega, by first | (rw [← HNX.out]; go_num) | exact congrArg _ (by have := hnode.out; omega), rfl⟩
          · have hV : hasV N s node k0 = 0 := if_neg he
            rw [hV] at HH
            have b1 : (hasE N s node k0 != 0) = true := by simp [he]
            generalize hasE N s node k0 = E at *
            clear he hV
            go_wp2_with fail
            refine HH.out.mono ?_
            rintro e w' ⟨rfl, rfl⟩
            go_wp2_with fail
            refine HE.out.mono ?_
            rintro e w' ⟨rfl, rfl⟩
            go_wp2_with fail
            go_roundg (N + 2 - (p + 1))
            case measure => have := HP.out; omega
            case rel => exact ⟨p + 1, rfl, by omega, by first | (rw [← HNX.out]; go_num) | exact congrArg _ HNX.out, rfl⟩
        · have d1 : decide (node ≤ (N : Int)) = false := by have := hnode.out; simp; omega
          clear HP HNX
          go_wp2_with fail
          go_roundg (s.T.length + 2 - (i + 1))
          case measure => have := HI.out; omega
          case rel => exact ⟨i + 1, rfl, by omega, by first | (rw [← HTX.out]; go_num) | exact congrArg _ HTX.out | exact congrArg _ (by have := ht.out; omega), rfl⟩
    · have d1 : decide (t ≤ (s.T.length : Int)) = false := by have := ht.out; simp; omega
      have HU := Lib.hid (under_any B f x N q s r w.drew (HX.out.keep (w' := w.drew) (S := fun _ => False) (Only.refl _ w).drew (fun _ h => h.elim) fun _ _ => rfl) hY)
      have HR4 : Hid (Row w.drew w.heap.size r2.A4 (flat wyC s.Y)) := (MAt.o4 HM.out).row
      clear HI HTX
      go_wp2_with fail
      go_region_law ((first
        | (go_simp; go_at_call 52; refine HU.out.mono ?_; rintro e w1 ⟨v1, rfl, hown1, hb1⟩; obtain ⟨A1, k1, rfl, hr1, _⟩ := row_of_own_any hown1; have c4' := (hb1.cell (p := ⟨m, 4, none⟩) (lt_of_cell c4)).trans c4; have HQ := Lib.hid (equal_wy A1 r2.A4 k1 r2.c4 s.Y s.Y _ _ w1 hr1 (HR4.out.below hb1) (by unfold maxLen; omega) (by unfold maxLen; omega)))
        | (go_simp; go_at_call 51; refine HQ.out.mono ?_; rintro e w2 ⟨rfl, nq, rfl⟩)))
      all_goals
        go_wp2_with fail
        go_ret
        exact ⟨rfl, below_drewN (((Below.refl w.heap.size w).drew).trans (show Below w.heap.size w.drew w1 from hb1)) nq⟩
end Go.Proofs.Ytcmkkfpcdebfkaa
