/-
  Lines: whose is the longest one, by the reference.
-/
import Derived.Test.YtaecgapoaagjfaaSteal5
namespace Go.Proofs.Ytaecgapoaagjfaa
open Go.RowKit

theorem rot_ne {n cpu k : Nat} (_h1 : cpu < n) (h2 : 1 ≤ k) (h3 : k ≤ n - 1) : rot n cpu k ≠ cpu := by unfold rot; split <;> omega
theorem rot_of {n cpu i : Nat} (h1 : cpu < n) (h2 : i < n) (h3 : i ≠ cpu) : ∃ k, 1 ≤ k ∧ k ≤ n - 1 ∧ rot n cpu k = i := by
  by_cases h : cpu < i
  · exact ⟨i - cpu, by omega, by omega, by unfold rot; rw [if_pos (by omega)]; omega⟩
  · exact ⟨i + n - cpu, by omega, by omega, by unfold rot; rw [if_neg (by omega)]; omega⟩
/-- The greatest length of the first k, one left out. -/
def MaxTo (vs : List (List Int)) (p k M : Nat) : Prop := (∀ i, i < k → i ≠ p → lnLen vs i ≤ M) ∧ (M = 0 ∨ ∃ i, i < k ∧ i ≠ p ∧ lnLen vs i = M)
theorem MaxTo.zero (vs : List (List Int)) (p : Nat) : MaxTo vs p 0 0 := ⟨fun i hi => by omega, .inl rfl⟩
theorem MaxTo.skip {vs : List (List Int)} {p k M : Nat} (h : MaxTo vs p k M) (hk : k = p) : MaxTo vs p (k + 1) M :=
  ⟨fun i hi hne => h.1 i (by omega) hne, h.2.elim .inl fun ⟨i, h1, h2⟩ => .inr ⟨i, by omega, h2⟩⟩
theorem MaxTo.keep {vs : List (List Int)} {p k M : Nat} (h : MaxTo vs p k M) (hk : ¬ M < lnLen vs k) : MaxTo vs p (k + 1) M :=
  ⟨fun i hi hne => by
    by_cases e : i = k
    · subst e; omega
    · exact h.1 i (by omega) hne, h.2.elim .inl fun ⟨i, h1, h2⟩ => .inr ⟨i, by omega, h2⟩⟩
theorem MaxTo.more {vs : List (List Int)} {p k M : Nat} (h : MaxTo vs p k M) (hp : k ≠ p) (hk : M < lnLen vs k) : MaxTo vs p (k + 1) (lnLen vs k) :=
  ⟨fun i hi hne => by
    by_cases e : i = k
    · subst e; exact Nat.le_refl _
    · have := h.1 i (by omega) hne; omega, .inr ⟨k, by omega, hp, rfl⟩⟩
theorem MaxTo.done {vs : List (List Int)} {p M : Nat} (hp : p < vs.length) (h : MaxTo vs p vs.length M) : (vicTo vs p (vs.length - 1) = -1 ∧ M = 0) ∨
    ∃ k0, 1 ≤ k0 ∧ k0 ≤ vs.length - 1 ∧ vicTo vs p (vs.length - 1) = (rot vs.length p k0 : Nat) ∧ 0 < M ∧ lnLen vs (rot vs.length p k0) = M ∧ ∀ k, 1 ≤ k → k < k0 → lnLen vs (rot vs.length p k) ≠ M := by
  rcases vic_spec vs p (vs.length - 1) with ⟨h1, h2⟩ | ⟨k0, h1, h2, h3, h4, h5, h6⟩
  · refine .inl ⟨h1, ?_⟩
    rcases h.2 with h0 | ⟨i, hi, hne, he⟩
    · exact h0
    · obtain ⟨k, k1, k2, rfl⟩ := rot_of hp hi hne
      rw [← he]; exact h2 k k1 k2
  · have hle := h.1 (rot vs.length p k0) (rot_lt hp (by omega)) (rot_ne hp h1 h2)
    have hge : M ≤ lnLen vs (rot vs.length p k0) := by
      rcases h.2 with h0 | ⟨i, hi, hne, he⟩
      · omega
      · obtain ⟨k, k1, k2, rfl⟩ := rot_of hp hi hne
        rw [← he]; exact h5 k k1 k2
    exact .inr ⟨k0, h1, h2, h3, by omega, by omega, fun k a b => by have := h6 k a b; omega⟩

set_option maxRecDepth 100000 in
set_option maxHeartbeats 4000000 in
theorem robbed_any (A : Option Addr) (c : Nat) (l : List BC) (vs : List (List Int)) (p : Nat) (S : Nat → Prop) (w : World) (h : lnRow w S 0 A c l vs) (hp : p < l.length) (h8 : l.length ≤ 8) :
    Calls Try.prog 143 #[.slice A l.length c, .int .i64 p] w fun e w' => e = .returned (.int .i64 (vicTo vs p (vs.length - 1))) ∧ w = w' := by
  have hlv := h.1
  have HH := Lib.hid h
  have HLV := Lib.hid hlv
  generalize hres : vicTo vs p (vs.length - 1) = res at *
  have HRES := Lib.hid hres
  clear h hlv hres
  go_enter Try.func143, Try.ntmps143
  go_wp2_with fail
  go_loopg [5, 12] l.length (fun gk v i wr => ∃ (k M : Nat), gk = l.length - k ∧ k ≤ l.length ∧ v = .int .i64 M ∧ i = .int .i64 k ∧ MaxTo vs p k M ∧ M ≤ 17592186044416 ∧ w = wr)
  case atStart => exact ⟨0, 0, by omega, by omega, rfl, rfl, MaxTo.zero vs p, by omega, rfl⟩
  case round =>
    obtain ⟨k, M, hgk, hk, rfl, rfl, hM, hMb, rfl⟩ := hrel
    have HK := Lib.hid hgk
    have HM := Lib.hid hM
    clear hgk hM
    by_cases hlt : k < l.length
    · obtain ⟨b, o, rfl, hbl, hcc, hi⟩ := HH.out.at hlt
      have hd : w.cell? ⟨b, o + k, none⟩ = some (.slice (l.getD k bc0).A (lnLen vs k) (l.getD k bc0).cap) := hcc
      have hLb : lnLen vs k ≤ 17592186044416 := hi.2.2.2.2.2.2
      generalize l.getD k bc0 = x at *
      clear hcc hi
      by_cases hkp : k = p
      · have e1 : ((k : Int) != (p : Int)) = false := by simp [hkp]
        have e1' : (k != p) = false := by simp [hkp]
        have HN := Lib.hid (HM.out.skip hkp)
        clear hkp
        generalize lnLen vs k = L at *
        go_wp2_with fail
        go_roundg (l.length - (k + 1))
        case measure => have := HK.out; omega
        case rel => exact ⟨k + 1, M, rfl, by omega, rfl, by go_num, HN.out, hMb, rfl⟩
      · have e1 : ((k : Int) != (p : Int)) = true := by simp; omega
        have e1' : (k != p) = true := by simp [hkp]
        by_cases hml : M < lnLen vs k
        · have HN := Lib.hid (HM.out.more hkp hml)
          have hml' : (M : Int) < (lnLen vs k : Int) := by omega
          clear hkp
          generalize lnLen vs k = L at *
          go_wp2_with fail
          go_roundg (l.length - (k + 1))
          case measure => have := HK.out; omega
          case rel => exact ⟨k + 1, L, rfl, by omega, rfl, by go_num, HN.out, hLb, rfl⟩
        · have HN := Lib.hid (HM.out.keep hml)
          have hml' : ¬ (M : Int) < (lnLen vs k : Int) := by omega
          clear hkp
          generalize lnLen vs k = L at *
          go_wp2_with fail
          go_roundg (l.length - (k + 1))
          case measure => have := HK.out; omega
          case rel => exact ⟨k + 1, M, rfl, by omega, rfl, by go_num, HN.out, hMb, rfl⟩
    · obtain rfl : k = l.length := by omega
      have hdone := MaxTo.done (vs := vs) (p := p) (M := M) (by rw [← HLV.out]; exact hp) (by have := HM.out; rwa [HLV.out] at this)
      rw [← HLV.out] at hdone
      rw [← HLV.out] at HRES
      rcases hdone with ⟨hv, hM0⟩ | ⟨k0, hk1, hk2, hv, hMp, hLM, hbef⟩
      · have HE := Lib.hid (show res = -1 by rw [← HRES.out]; exact hv)
        subst hM0
        clear hv
        go_wp2_with fail
        go_loopg [27] l.length (fun gk i wr => ∃ j : Nat, gk = l.length - j ∧ j ≤ l.length ∧ i = .int .i64 j ∧ w = wr)
        case atStart => exact ⟨0, by omega, by omega, rfl, rfl⟩
        case round =>
          obtain ⟨j, hgj, hj, rfl, rfl⟩ := hrel
          have HKJ := Lib.hid hgj
          clear hgj
          by_cases hlj : j < l.length
          · have hmod : ((p : Int) + 1 + (j : Int)) % (l.length : Int) = (rot l.length p (j + 1) : Nat) := by rw [← rot_mod hp (by omega)]; simp; congr 1; omega
            generalize rot l.length p (j + 1) = ri at *
            by_cases hrp : ri = p
            · have e1 : ((ri : Int) != (p : Int)) = false := by simp [hrp]
              have e1' : (ri != p) = false := by simp [hrp]
              clear hrp
              go_wp2_with fail
              go_roundg (l.length - (j + 1))
              case measure => have := HKJ.out; omega
              case rel => exact ⟨j + 1, rfl, by omega, by go_num, rfl⟩
            · have e1 : ((ri : Int) != (p : Int)) = true := by simp; omega
              have e1' : (ri != p) = true := by simp [hrp]
              clear hrp
              go_wp2_with fail
              go_roundg (l.length - (j + 1))
              case measure => have := HKJ.out; omega
              case rel => exact ⟨j + 1, rfl, by omega, by go_num, rfl⟩
          · go_wp2_with fail
            go_ret
            exact ⟨by rw [HE.out]; rfl, rfl⟩
      · have HE := Lib.hid (show res = (rot l.length p k0 : Nat) by rw [← HRES.out]; exact hv)
        have HBEF := Lib.hid hbef
        have HLM := Lib.hid hLM
        have dM : decide ((0 : Int) < (M : Int)) = true := decide_eq_true (by omega)
        have dM' : decide (0 < M) = true := decide_eq_true hMp
        clear hv hbef hLM
        go_wp2_with fail
        go_loopg [27] l.length (fun gk i wr => ∃ j : Nat, gk = l.length - j ∧ j < k0 ∧ i = .int .i64 j ∧ w = wr)
        case atStart => exact ⟨0, by omega, by omega, rfl, rfl⟩
        case round =>
          obtain ⟨j, hgj, hj, rfl, rfl⟩ := hrel
          have HKJ := Lib.hid hgj
          clear hgj
          have hlj : j < l.length := by omega
          have hmod : ((p : Int) + 1 + (j : Int)) % (l.length : Int) = (rot l.length p (j + 1) : Nat) := by rw [← rot_mod hp (by omega)]; simp; congr 1; omega
          have hrl : rot l.length p (j + 1) < l.length := rot_lt hp (by omega)
          have hrp : rot l.length p (j + 1) ≠ p := rot_ne hp (by omega) (by omega)
          obtain ⟨b, o, rfl, hbl, hcc, hi⟩ := HH.out.at hrl
          have hd : w.cell? ⟨b, o + rot l.length p (j + 1), none⟩ = some (.slice (l.getD (rot l.length p (j + 1)) bc0).A (lnLen vs (rot l.length p (j + 1))) (l.getD (rot l.length p (j + 1)) bc0).cap) := hcc
          generalize l.getD (rot l.length p (j + 1)) bc0 = x at *
          clear hcc hi
          by_cases hjk : j + 1 = k0
          · have HEQ := Lib.hid (show lnLen vs (rot l.length p (j + 1)) = M by rw [hjk]; exact HLM.out)
            rw [HEQ.out] at hd
            have HE2 := Lib.hid (show res = (rot l.length p (j + 1) : Nat) by rw [hjk]; exact HE.out)
            clear hjk
            generalize rot l.length p (j + 1) = ri at *
            have e1 : ((ri : Int) != (p : Int)) = true := by simp; omega
            have e1' : (ri != p) = true := by simp [hrp]
            clear hrp
            go_wp2_with fail
            go_ret
            exact ⟨by rw [HE2.out, ← hmod]; rfl, rfl⟩
          · have hne := HBEF.out (j + 1) (by omega) (by omega)
            generalize rot l.length p (j + 1) = ri at *
            generalize lnLen vs ri = L at *
            have e1 : ((ri : Int) != (p : Int)) = true := by simp; omega
            have e1' : (ri != p) = true := by simp [hrp]
            have e2 : ((L : Int) == (M : Int)) = false := by rw [beq_eq_false_iff_ne]; omega
            have e2' : (L == M) = false := by rw [beq_eq_false_iff_ne]; omega
            clear hrp hne
            go_wp2_with fail
            go_roundg (l.length - (j + 1))
            case measure => have := HKJ.out; omega
            case rel => exact ⟨j + 1, rfl, by omega, by go_num, rfl⟩
end Go.Proofs.Ytaecgapoaagjfaa
