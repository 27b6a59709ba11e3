/-
  The reference's Share.
-/
import Derived.Test.YtjblfkoepedhpaaCredit2
import Derived.RegionTactic
namespace Go.Proofs.Ytjblfkoepedhpaa
open Go.RowKit

set_option maxRecDepth 100000 in
set_option maxHeartbeats 2000000 in
theorem share_m (g gl : Nat) (room : Int) (t : Nat) (L : List Lane) (w : World) (h : MPool w g gl room t L) (hf : Fit room t L) :
    Calls Try.prog 68 #[.pointer (some ⟨g, 0, none⟩)] w fun e w' => e = .returned (.tuple #[]) ∧ MPool w' g gl room (granted room t L).1 (granted room t L).2 ∧ Only (Two g gl) w w' := by
  go_enter Try.func68, Try.ntmps68
  go_wp2_with fail
  go_loopg [2] (room - spent L).toNat (fun k _ wr => ∃ (t' : Nat) (L' : List Lane), MPool wr g gl room t' L' ∧ Fit room t' L' ∧ k = (room - spent L').toNat ∧ granted room t L = granted room t' L' ∧ Only (Two g gl) w wr)
  case atStart => exact ⟨t, L, h, hf, rfl, rfl, Only.refl _ _⟩
  case round =>
    obtain ⟨t', L', hp, hf', hk, hg, ho⟩ := hrel
    have HK := Lib.hid hk
    have HG := Lib.hid hg
    have hsp := spent_bounds hf' L'.length
    rw [List.take_of_length_le (Nat.le_refl _)] at hsp
    have hr2 := hf'.r2
    clear hk hg
    go_wp2_with fail
    refine (left_m g gl room t' L' wr hp hf').mono ?_
    rintro e w1 ⟨rfl, hb1⟩
    have hp1 := hp.below hb1
    have ho1 := ho.below hb1
    by_cases hl : 0 < room - spent L'
    · have hl' : spent L' < room := by omega
      have hn1 := hf'.n1
      have hn2 := hf'.n2
      have ht1 := hf'.t1
      have c2 := hp1.c2
      go_wp2_with fail
      obtain ⟨go_, hgo⟩ : ∃ q : Nat, q = gk := ⟨_, rfl⟩
      have HGO := Lib.hid hgo
      clear hgo
      go_loopg [2, 12] L'.length (fun m v2 v12 wr => ∃ k : Nat, k ≤ L'.length ∧ m = L'.length - k ∧ v2 = .bool false ∧ v12 = .int .i64 k ∧ MPool wr g gl room ((t' + k) % L'.length) L' ∧ Only (Two g gl) w wr ∧ next t' L' = nxt t' L' (L'.length - k))
      case atStart => exact ⟨0, by omega, rfl, rfl, rfl, by rw [Nat.add_zero, Nat.mod_eq_of_lt ht1]; exact hp1, ho1, rfl⟩
      case round =>
        obtain ⟨k, hk, hm, rfl, rfl, hp2, ho2, hnx⟩ := hrel
        have HM := Lib.hid hm
        have HNX := Lib.hid hnx
        clear hm hnx
        by_cases hlt : k < L'.length
        · have hjl : (t' + k) % L'.length < L'.length := Nat.mod_lt _ (by omega)
          have HS := Lib.hid (nxt_at t' L' hlt)
          have hj2 : ((t' + k) % L'.length + 1) % L'.length = (t' + (k + 1)) % L'.length := by rw [Nat.mod_add_mod, Nat.add_assoc]
          have hmod : (((t' + k) % L'.length : Nat) : Int) + 1 = ((((t' + k) % L'.length) + 1 : Nat) : Int) := by simp
          have hmod2 : ((((t' + k) % L'.length : Nat) : Int) + 1) % (L'.length : Int) = (((t' + (k + 1)) % L'.length : Nat) : Int) := by rw [hmod, ← Int.natCast_emod, hj2]
          have HJ2 := Lib.hid hj2
          clear hmod hj2
          have c1 := hp2.c1
          have c2' := hp2.c2
          have l0 := hp2.l0 hjl
          have l1 := hp2.l1 hjl
          have f0 := hp2.lanes.frozen ((t' + k) % L'.length * 3)
          have f1 := hp2.lanes.frozen ((t' + k) % L'.length * 3 + 1)
          have f2 := hp2.own.frozen 1
          have hne := hp2.ne
          have hne' : gl ≠ g := fun e => hne e.symm
          have hmm := hf'.each _ (getD_of_mem hjl)
          have hms := spent_mem (fun x hx => (by have := hf'.each x hx; omega : 0 ≤ x.2.1 ∧ 0 ≤ x.2.2)) _ (getD_of_mem hjl)
          have HPT := Lib.hid (fun n => (hp2.drewN n).turn ((t' + (k + 1)) % L'.length))
          have HOT := Lib.hid (fun n => (ho2.drewN n).set (p := ⟨g, 1, none⟩) (.inl rfl) (.int .i64 (((t' + (k + 1)) % L'.length : Nat) : Int)))
          have HP := Lib.hid (fun n => (((HPT.out n).put (i := (t' + k) % L'.length) (j := 0) (.int .i64 ((L'.getD ((t' + k) % L'.length) (0, 0, 0)).1 - 1)) hjl (by decide) ((L'.getD ((t' + k) % L'.length) (0, 0, 0)).1 - 1, (L'.getD ((t' + k) % L'.length) (0, 0, 0)).2.1, (L'.getD ((t' + k) % L'.length) (0, 0, 0)).2.2) rfl).put (i := (t' + k) % L'.length) (j := 1) (.int .i64 ((L'.getD ((t' + k) % L'.length) (0, 0, 0)).2.1 + 1)) (by simpa using hjl) (by decide) ((L'.getD ((t' + k) % L'.length) (0, 0, 0)).1 - 1, (L'.getD ((t' + k) % L'.length) (0, 0, 0)).2.1 + 1, (L'.getD ((t' + k) % L'.length) (0, 0, 0)).2.2) (by simp [hjl, laneC])))
          simp only [List.set_set] at HP
          have HO := Lib.hid (fun n => (((HOT.out n).set (p := ⟨gl, (t' + k) % L'.length * 3, none⟩) (.inr rfl) (.int .i64 ((L'.getD ((t' + k) % L'.length) (0, 0, 0)).1 - 1))).set (p := ⟨gl, (t' + k) % L'.length * 3 + 1, none⟩) (.inr rfl) (.int .i64 ((L'.getD ((t' + k) % L'.length) (0, 0, 0)).2.1 + 1))))
          have HFT := Lib.hid (fun hx => give_fit (t' := (t' + (k + 1)) % L'.length) hf' hjl hx (Nat.mod_lt _ (by omega)) hl)
          have HGS := Lib.hid (give_spent L' hjl)
          have HST := Lib.hid (fun hx => granted_step (t := t') hl hjl hx)
          unfold give at HFT HGS HST
          have hw1 : IntKind.i64.wrap ((((t' + k) % L'.length : Nat) : Int) + 1) = (((t' + k) % L'.length : Nat) : Int) + 1 := IntWalk.i64_in _ (by omega)
          have hnz : ((L'.length : Int) == 0) = false := beq_eq_false_iff_ne.2 (by omega)
          have hnz' : (L'.length == 0) = false := beq_eq_false_iff_ne.2 (by omega)
          generalize hj : (t' + k) % L'.length = j at *
          have HJ := Lib.hid hj
          clear hj
          generalize hj' : (t' + (k + 1)) % L'.length = j' at *
          have HJ' := Lib.hid hj'
          clear hj'
          have hj1 : (j : Int) < (L'.length : Int) := by omega
          have hj0 : (0 : Int) ≤ (j : Int) := by omega
          have hx1 : (L'.getD j (0, 0, 0)).2.1 + 1 ≤ 65 := by omega
          generalize L'.getD j (0, 0, 0) = x at *
          by_cases hx : 0 < x.1
          · go_wp2_with fail
            go_quiet (fail)
            go_wp2_with fail
            go_region
            go_wp2_with fail
            go_region
            go_wp2_with fail
            go_region
            go_wp2_with fail
            go_roundg (room - spent (L'.set j (x.1 - 1, x.2.1 + 1, x.2.2))).toNat
            case measure =>
              have := HK.out
              have := HGS.out
              omega
            case rel =>
              have hnj : next t' L' = (j : Int) := by rw [HNX.out, HS.out, if_pos hx]
              have hst := HST.out hnj
              rw [HJ2.out] at hst
              exact ⟨j', _, (HP.out _).drew.drew, HFT.out hx, rfl, HG.out.trans hst, (HO.out _).drew.drew⟩
          · go_wp2_with fail
            go_quiet (fail)
            go_wp2_with fail
            go_region
            go_wp2_with fail
            go_roundg (L'.length - (k + 1))
            case measure =>
              have := HM.out
              omega
            case rel =>
              refine ⟨k + 1, by omega, rfl, rfl, by go_num, ?_, HOT.out _, ?_⟩
              · rw [HJ'.out]
                exact HPT.out _
              · rw [HNX.out, HS.out, if_neg (by omega)]
        · obtain rfl : k = L'.length := by omega
          go_wp2_with fail
          refine bodyPost_ret (results_none rfl _ _ _) rfl ?_
          refine ⟨rfl, ?_, ho2⟩
          rw [HG.out, granted_stop (.inr (by rw [HNX.out, Nat.sub_self]; exact (by decide : (-1 : Int) < 0)))]
          rw [Nat.add_mod_right, Nat.mod_eq_of_lt ht1] at hp2
          exact hp2
    · have hl' : ¬ spent L' < room := by omega
      go_wp2_with fail
      go_end0
      refine ⟨rfl, ?_, ho1⟩
      rw [HG.out, granted_stop (.inl (by omega))]
      exact hp1
end Go.Proofs.Ytjblfkoepedhpaa
