/-
  Package credit's pool: Want, Use, Free, Drop, Lane, New.
-/
import Derived.Test.YtjblfkoepedhpaaCredit3
import Derived.RegionTactic
namespace Go.Proofs.Ytjblfkoepedhpaa
open Go.RowKit

theorem Fit.bound {room : Int} {t : Nat} {L : List Lane} (hf : Fit room t L) {i : Nat} (hi : i < L.length) :
    0 ≤ (L.getD i (0, 0, 0)).1 ∧ (L.getD i (0, 0, 0)).1 ≤ 64 ∧ 0 ≤ (L.getD i (0, 0, 0)).2.1 ∧ 0 ≤ (L.getD i (0, 0, 0)).2.2 ∧ (L.getD i (0, 0, 0)).2.1 + (L.getD i (0, 0, 0)).2.2 ≤ 64 := by
  have hm := hf.each _ (getD_of_mem hi)
  have hms := spent_mem (fun x hx => (by have := hf.each x hx; omega : 0 ≤ x.2.1 ∧ 0 ≤ x.2.2)) _ (getD_of_mem hi)
  have := hf.fits
  have := hf.r2
  omega
theorem Fit.set {room : Int} {t : Nat} {L : List Lane} (hf : Fit room t L) {i : Nat} (hi : i < L.length) (y : Lane) (hy : 0 ≤ y.1 ∧ y.1 ≤ 64 ∧ 0 ≤ y.2.1 ∧ 0 ≤ y.2.2) (hs : y.2.1 + y.2.2 ≤ (L.getD i (0, 0, 0)).2.1 + (L.getD i (0, 0, 0)).2.2) : Fit room t (L.set i y) := by
  refine ⟨hf.r1, hf.r2, by rw [List.length_set]; exact hf.n1, by rw [List.length_set]; exact hf.n2, by rw [List.length_set]; exact hf.t1, fun x hx => ?_, ?_⟩
  · rcases mem_set_or hx with rfl | hx
    · exact hy
    · exact hf.each x hx
  · rw [spent_set L (0, 0, 0) hi]
    have := hf.fits
    omega


set_option maxRecDepth 100000 in
set_option maxHeartbeats 1000000 in
theorem want_out (g gl : Nat) (room : Int) (t : Nat) (L : List Lane) (i : Int) (n : Int) (w : World) (h : XPool w g gl room t L) (hf : Fit room t L) (hi : ¬ (0 ≤ i ∧ i < L.length)) :
    Calls Try.prog 64 #[.pointer (some ⟨g, 0, none⟩), .int .i64 i, .int .i64 n] w fun e w' => e = .returned (.int .i64 1) ∧ XPool w' g gl room t L ∧ Only (Two g gl) w w' := by
  have HT := Lib.hid (there_x g gl room t L i w h hf.n2)
  rw [show decide (0 ≤ i ∧ i < (L.length : Int)) = false by simp; omega] at HT
  clear hi
  go_enter Try.func64, Try.ntmps64
  go_wp2_with fail
  refine HT.out.mono ?_
  rintro e w1 ⟨rfl, nq, rfl⟩
  go_wp2_with fail
  go_ret
  exact ⟨rfl, h.drewN nq, (Only.refl _ _).drewN nq⟩

set_option maxRecDepth 100000 in
set_option maxHeartbeats 1000000 in
theorem use_out (g gl : Nat) (room : Int) (t : Nat) (L : List Lane) (i : Int) (w : World) (h : XPool w g gl room t L) (hf : Fit room t L) (hi : ¬ (0 ≤ i ∧ i < L.length)) :
    Calls Try.prog 65 #[.pointer (some ⟨g, 0, none⟩), .int .i64 i] w fun e w' => e = .returned (.int .i64 1) ∧ XPool w' g gl room t L ∧ Only (Two g gl) w w' := by
  have HT := Lib.hid (there_x g gl room t L i w h hf.n2)
  rw [show decide (0 ≤ i ∧ i < (L.length : Int)) = false by simp; omega] at HT
  clear hi
  go_enter Try.func65, Try.ntmps65
  go_wp2_with fail
  refine HT.out.mono ?_
  rintro e w1 ⟨rfl, nq, rfl⟩
  go_wp2_with fail
  go_ret
  exact ⟨rfl, h.drewN nq, (Only.refl _ _).drewN nq⟩

set_option maxRecDepth 100000 in
set_option maxHeartbeats 1000000 in
theorem free_out (g gl : Nat) (room : Int) (t : Nat) (L : List Lane) (i : Int) (w : World) (h : XPool w g gl room t L) (hf : Fit room t L) (hi : ¬ (0 ≤ i ∧ i < L.length)) :
    Calls Try.prog 66 #[.pointer (some ⟨g, 0, none⟩), .int .i64 i] w fun e w' => e = .returned (.int .i64 1) ∧ XPool w' g gl room t L ∧ Only (Two g gl) w w' := by
  have HT := Lib.hid (there_x g gl room t L i w h hf.n2)
  rw [show decide (0 ≤ i ∧ i < (L.length : Int)) = false by simp; omega] at HT
  clear hi
  go_enter Try.func66, Try.ntmps66
  go_wp2_with fail
  refine HT.out.mono ?_
  rintro e w1 ⟨rfl, nq, rfl⟩
  go_wp2_with fail
  go_ret
  exact ⟨rfl, h.drewN nq, (Only.refl _ _).drewN nq⟩

set_option maxRecDepth 100000 in
set_option maxHeartbeats 1000000 in
theorem drop_out (g gl : Nat) (room : Int) (t : Nat) (L : List Lane) (i : Int) (w : World) (h : XPool w g gl room t L) (hf : Fit room t L) (hi : ¬ (0 ≤ i ∧ i < L.length)) :
    Calls Try.prog 67 #[.pointer (some ⟨g, 0, none⟩), .int .i64 i] w fun e w' => e = .returned (.int .i64 1) ∧ XPool w' g gl room t L ∧ Only (Two g gl) w w' := by
  have HT := Lib.hid (there_x g gl room t L i w h hf.n2)
  rw [show decide (0 ≤ i ∧ i < (L.length : Int)) = false by simp; omega] at HT
  clear hi
  go_enter Try.func67, Try.ntmps67
  go_wp2_with fail
  refine HT.out.mono ?_
  rintro e w1 ⟨rfl, nq, rfl⟩
  go_wp2_with fail
  go_ret
  exact ⟨rfl, h.drewN nq, (Only.refl _ _).drewN nq⟩

set_option maxRecDepth 100000 in
set_option maxHeartbeats 1000000 in
theorem want_arg (g gl : Nat) (room : Int) (t : Nat) (L : List Lane) (i : Nat) (n : Int) (w : World) (h : XPool w g gl room t L) (hf : Fit room t L) (hi : i < L.length) (hn : n < 1 ∨ 64 < n) :
    Calls Try.prog 64 #[.pointer (some ⟨g, 0, none⟩), .int .i64 i, .int .i64 n] w fun e w' => e = .returned (.int .i64 1) ∧ XPool w' g gl room t L ∧ Only (Two g gl) w w' := by
  have HT := fun w h => there_x g gl room t L i w h hf.n2
  rw [show decide (0 ≤ (i : Int) ∧ (i : Int) < (L.length : Int)) = true by simp; omega] at HT
  have HTT := Lib.hid HT
  clear HT
  have hbd := hf.bound hi
  have hi1 : (i : Int) < (L.length : Int) := by omega
  have hi0 : (0 : Int) ≤ (i : Int) := by omega
  have hn2 := hf.n2
  by_cases h1 : n < 1
  · have d1 : decide (n < 1) = true := by simp; omega
    go_enter Try.func64, Try.ntmps64
    go_wp2_with fail
    refine (HTT.out w h).mono ?_
    rintro e w1 ⟨rfl, nq, rfl⟩
    go_wp2_with fail
    go_ret
    exact ⟨rfl, h.drewN nq, (Only.refl _ _).drewN nq⟩
  · have d1 : decide (n < 1) = false := by simp; omega
    have d2 : decide (64 < n) = true := by simp; omega
    clear hn
    go_enter Try.func64, Try.ntmps64
    go_wp2_with fail
    refine (HTT.out w h).mono ?_
    rintro e w1 ⟨rfl, nq, rfl⟩
    go_wp2_with fail
    go_ret
    exact ⟨rfl, h.drewN nq, (Only.refl _ _).drewN nq⟩

set_option maxRecDepth 100000 in
set_option maxHeartbeats 1000000 in
theorem want_full (g gl : Nat) (room : Int) (t : Nat) (L : List Lane) (i : Nat) (n : Int) (w : World) (h : XPool w g gl room t L) (hf : Fit room t L) (hi : i < L.length) (hn : 1 ≤ n ∧ n ≤ 64) (hx : 64 < (L.getD i (0, 0, 0)).1 + n) :
    Calls Try.prog 64 #[.pointer (some ⟨g, 0, none⟩), .int .i64 i, .int .i64 n] w fun e w' => e = .returned (.int .i64 6) ∧ XPool w' g gl room t L ∧ Only (Two g gl) w w' := by
  have HT := fun w h => there_x g gl room t L i w h hf.n2
  rw [show decide (0 ≤ (i : Int) ∧ (i : Int) < (L.length : Int)) = true by simp; omega] at HT
  have HTT := Lib.hid HT
  clear HT
  have hbd := hf.bound hi
  have hi1 : (i : Int) < (L.length : Int) := by omega
  have hi0 : (0 : Int) ≤ (i : Int) := by omega
  have hn2 := hf.n2
  have d1 : decide (n < 1) = false := by simp; omega
  have d2 : decide (64 < n) = false := by simp; omega
  go_enter Try.func64, Try.ntmps64
  go_wp2_with fail
  refine (HTT.out w h).mono ?_
  rintro e w1 ⟨rfl, nq, rfl⟩
  have hp := h.drewN nq
  have ho := (Only.refl (Two g gl) w).drewN nq
  generalize w.drewN nq = w1 at *
  have c2 := hp.c2
  have l0 := hp.l0 hi
  have l1 := hp.l1 hi
  have l2 := hp.l2 hi
  have f0 := hp.lanes.frozen (i * 3)
  have f1 := hp.lanes.frozen (i * 3 + 1)
  have f2 := hp.lanes.frozen (i * 3 + 2)
  have hne := hp.ne
  have hne' : gl ≠ g := fun e => hne e.symm
  generalize L.getD i (0, 0, 0) = x at *
  go_wp2_with fail
  go_ret
  exact ⟨rfl, hp, ho⟩

set_option maxRecDepth 100000 in
set_option maxHeartbeats 1000000 in
theorem want_ok (g gl : Nat) (room : Int) (t : Nat) (L : List Lane) (i : Nat) (n : Int) (w : World) (h : XPool w g gl room t L) (hf : Fit room t L) (hi : i < L.length) (hn : 1 ≤ n ∧ n ≤ 64) (hx : (L.getD i (0, 0, 0)).1 + n ≤ 64) (L' : List Lane) (hL : L' = L.set i ((L.getD i (0, 0, 0)).1 + n, (L.getD i (0, 0, 0)).2.1, (L.getD i (0, 0, 0)).2.2)) :
    Calls Try.prog 64 #[.pointer (some ⟨g, 0, none⟩), .int .i64 i, .int .i64 n] w fun e w' => e = .returned (.int .i64 0) ∧ XPool w' g gl room (granted room t L').1 (granted room t L').2 ∧ Only (Two g gl) w w' := by
  have HT := fun w h => there_x g gl room t L i w h hf.n2
  rw [show decide (0 ≤ (i : Int) ∧ (i : Int) < (L.length : Int)) = true by simp; omega] at HT
  have HTT := Lib.hid HT
  clear HT
  have hbd := hf.bound hi
  have hi1 : (i : Int) < (L.length : Int) := by omega
  have hi0 : (0 : Int) ≤ (i : Int) := by omega
  have hn2 := hf.n2
  have d1 : decide (n < 1) = false := by simp; omega
  have d2 : decide (64 < n) = false := by simp; omega
  have hf2 : Fit room t L' := by rw [hL]; exact hf.set hi _ (by simp only; omega) (by simp only; omega)
  have HL := Lib.hid hL
  clear hL
  go_enter Try.func64, Try.ntmps64
  go_wp2_with fail
  refine (HTT.out w h).mono ?_
  rintro e w1 ⟨rfl, nq, rfl⟩
  have hp := h.drewN nq
  have ho := (Only.refl (Two g gl) w).drewN nq
  generalize w.drewN nq = w1 at *
  have c2 := hp.c2
  have l0 := hp.l0 hi
  have l1 := hp.l1 hi
  have l2 := hp.l2 hi
  have f0 := hp.lanes.frozen (i * 3)
  have f1 := hp.lanes.frozen (i * 3 + 1)
  have f2 := hp.lanes.frozen (i * 3 + 2)
  have hne := hp.ne
  have hne' : gl ≠ g := fun e => hne e.symm
  have hp2 := hp.put (i := i) (j := 0) (.int .i64 ((L.getD i (0, 0, 0)).1 + n)) hi (by decide) ((L.getD i (0, 0, 0)).1 + n, (L.getD i (0, 0, 0)).2.1, (L.getD i (0, 0, 0)).2.2) rfl
  rw [← HL.out] at hp2
  have ho2 := ho.set (p := ⟨gl, i * 3, none⟩) (.inr rfl) (.int .i64 ((L.getD i (0, 0, 0)).1 + n))
  clear HL
  generalize L.getD i (0, 0, 0) = x at *
  go_wp2_with fail
  refine (grant_x g gl room t L' _ hp2 hf2).mono ?_
  rintro e w3 ⟨rfl, hp3, ho3⟩
  go_wp2_with fail
  go_ret
  exact ⟨rfl, hp3, ho2.trans ho3⟩

set_option maxRecDepth 100000 in
set_option maxHeartbeats 1000000 in
theorem use_wait (g gl : Nat) (room : Int) (t : Nat) (L : List Lane) (i : Nat) (w : World) (h : XPool w g gl room t L) (hf : Fit room t L) (hi : i < L.length) (hx : (L.getD i (0, 0, 0)).2.1 = 0) :
    Calls Try.prog 65 #[.pointer (some ⟨g, 0, none⟩), .int .i64 i] w fun e w' => e = .returned (.int .i64 9) ∧ XPool w' g gl room t L ∧ Only (Two g gl) w w' := by
  have HT := fun w h => there_x g gl room t L i w h hf.n2
  rw [show decide (0 ≤ (i : Int) ∧ (i : Int) < (L.length : Int)) = true by simp; omega] at HT
  have HTT := Lib.hid HT
  clear HT
  have hbd := hf.bound hi
  have hi1 : (i : Int) < (L.length : Int) := by omega
  have hi0 : (0 : Int) ≤ (i : Int) := by omega
  have hn2 := hf.n2
  have b1 : ((L.getD i (0, 0, 0)).2.1 == 0) = true := by simp only [hx]; rfl
  go_enter Try.func65, Try.ntmps65
  go_wp2_with fail
  refine (HTT.out w h).mono ?_
  rintro e w1 ⟨rfl, nq, rfl⟩
  have hp := h.drewN nq
  have ho := (Only.refl (Two g gl) w).drewN nq
  generalize w.drewN nq = w1 at *
  have c2 := hp.c2
  have l0 := hp.l0 hi
  have l1 := hp.l1 hi
  have l2 := hp.l2 hi
  have f0 := hp.lanes.frozen (i * 3)
  have f1 := hp.lanes.frozen (i * 3 + 1)
  have f2 := hp.lanes.frozen (i * 3 + 2)
  have hne := hp.ne
  have hne' : gl ≠ g := fun e => hne e.symm
  have HX := Lib.hid hx
  clear hx
  generalize L.getD i (0, 0, 0) = x at *
  go_wp2_with fail
  go_ret
  exact ⟨rfl, hp, ho⟩

set_option maxRecDepth 100000 in
set_option maxHeartbeats 1000000 in
theorem use_ok (g gl : Nat) (room : Int) (t : Nat) (L : List Lane) (i : Nat) (w : World) (h : XPool w g gl room t L) (hf : Fit room t L) (hi : i < L.length) (hx : 0 < (L.getD i (0, 0, 0)).2.1) (L' : List Lane) (hL : L' = L.set i ((L.getD i (0, 0, 0)).1, (L.getD i (0, 0, 0)).2.1 - 1, (L.getD i (0, 0, 0)).2.2 + 1)) :
    Calls Try.prog 65 #[.pointer (some ⟨g, 0, none⟩), .int .i64 i] w fun e w' => e = .returned (.int .i64 0) ∧ XPool w' g gl room t L' ∧ Only (Two g gl) w w' := by
  have HT := fun w h => there_x g gl room t L i w h hf.n2
  rw [show decide (0 ≤ (i : Int) ∧ (i : Int) < (L.length : Int)) = true by simp; omega] at HT
  have HTT := Lib.hid HT
  clear HT
  have hbd := hf.bound hi
  have hi1 : (i : Int) < (L.length : Int) := by omega
  have hi0 : (0 : Int) ≤ (i : Int) := by omega
  have hn2 := hf.n2
  have b1 : ((L.getD i (0, 0, 0)).2.1 == 0) = false := beq_eq_false_iff_ne.2 (by omega)
  have HL := Lib.hid hL
  clear hL
  go_enter Try.func65, Try.ntmps65
  go_wp2_with fail
  refine (HTT.out w h).mono ?_
  rintro e w1 ⟨rfl, nq, rfl⟩
  have hp := h.drewN nq
  have ho := (Only.refl (Two g gl) w).drewN nq
  generalize w.drewN nq = w1 at *
  have c2 := hp.c2
  have l0 := hp.l0 hi
  have l1 := hp.l1 hi
  have l2 := hp.l2 hi
  have f0 := hp.lanes.frozen (i * 3)
  have f1 := hp.lanes.frozen (i * 3 + 1)
  have f2 := hp.lanes.frozen (i * 3 + 2)
  have hne := hp.ne
  have hne' : gl ≠ g := fun e => hne e.symm
  have hp2 := (hp.put (i := i) (j := 1) (.int .i64 ((L.getD i (0, 0, 0)).2.1 - 1)) hi (by decide) ((L.getD i (0, 0, 0)).1, (L.getD i (0, 0, 0)).2.1 - 1, (L.getD i (0, 0, 0)).2.2) rfl).put (i := i) (j := 2) (.int .i64 ((L.getD i (0, 0, 0)).2.2 + 1)) (by simpa using hi) (by decide) ((L.getD i (0, 0, 0)).1, (L.getD i (0, 0, 0)).2.1 - 1, (L.getD i (0, 0, 0)).2.2 + 1) (by simp [hi, laneC])
  rw [List.set_set, ← HL.out] at hp2
  have ho2 := (ho.set (p := ⟨gl, i * 3 + 1, none⟩) (.inr rfl) (.int .i64 ((L.getD i (0, 0, 0)).2.1 - 1))).set (p := ⟨gl, i * 3 + 2, none⟩) (.inr rfl) (.int .i64 ((L.getD i (0, 0, 0)).2.2 + 1))
  clear HL
  generalize L.getD i (0, 0, 0) = x at *
  have hx2 : x.2.2 + 1 ≤ 65 := by omega
  go_wp2_with fail
  go_ret
  exact ⟨rfl, hp2, ho2⟩

set_option maxRecDepth 100000 in
set_option maxHeartbeats 1000000 in
theorem free_state (g gl : Nat) (room : Int) (t : Nat) (L : List Lane) (i : Nat) (w : World) (h : XPool w g gl room t L) (hf : Fit room t L) (hi : i < L.length) (hx : (L.getD i (0, 0, 0)).2.2 = 0) :
    Calls Try.prog 66 #[.pointer (some ⟨g, 0, none⟩), .int .i64 i] w fun e w' => e = .returned (.int .i64 8) ∧ XPool w' g gl room t L ∧ Only (Two g gl) w w' := by
  have HT := fun w h => there_x g gl room t L i w h hf.n2
  rw [show decide (0 ≤ (i : Int) ∧ (i : Int) < (L.length : Int)) = true by simp; omega] at HT
  have HTT := Lib.hid HT
  clear HT
  have hbd := hf.bound hi
  have hi1 : (i : Int) < (L.length : Int) := by omega
  have hi0 : (0 : Int) ≤ (i : Int) := by omega
  have hn2 := hf.n2
  have b1 : ((L.getD i (0, 0, 0)).2.2 == 0) = true := by simp only [hx]; rfl
  go_enter Try.func66, Try.ntmps66
  go_wp2_with fail
  refine (HTT.out w h).mono ?_
  rintro e w1 ⟨rfl, nq, rfl⟩
  have hp := h.drewN nq
  have ho := (Only.refl (Two g gl) w).drewN nq
  generalize w.drewN nq = w1 at *
  have c2 := hp.c2
  have l0 := hp.l0 hi
  have l1 := hp.l1 hi
  have l2 := hp.l2 hi
  have f0 := hp.lanes.frozen (i * 3)
  have f1 := hp.lanes.frozen (i * 3 + 1)
  have f2 := hp.lanes.frozen (i * 3 + 2)
  have hne := hp.ne
  have hne' : gl ≠ g := fun e => hne e.symm
  have HX := Lib.hid hx
  clear hx
  generalize L.getD i (0, 0, 0) = x at *
  go_wp2_with fail
  go_ret
  exact ⟨rfl, hp, ho⟩

set_option maxRecDepth 100000 in
set_option maxHeartbeats 1000000 in
theorem free_ok (g gl : Nat) (room : Int) (t : Nat) (L : List Lane) (i : Nat) (w : World) (h : XPool w g gl room t L) (hf : Fit room t L) (hi : i < L.length) (hx : 0 < (L.getD i (0, 0, 0)).2.2) (L' : List Lane) (hL : L' = L.set i ((L.getD i (0, 0, 0)).1, (L.getD i (0, 0, 0)).2.1, (L.getD i (0, 0, 0)).2.2 - 1)) :
    Calls Try.prog 66 #[.pointer (some ⟨g, 0, none⟩), .int .i64 i] w fun e w' => e = .returned (.int .i64 0) ∧ XPool w' g gl room (granted room t L').1 (granted room t L').2 ∧ Only (Two g gl) w w' := by
  have HT := fun w h => there_x g gl room t L i w h hf.n2
  rw [show decide (0 ≤ (i : Int) ∧ (i : Int) < (L.length : Int)) = true by simp; omega] at HT
  have HTT := Lib.hid HT
  clear HT
  have hbd := hf.bound hi
  have hi1 : (i : Int) < (L.length : Int) := by omega
  have hi0 : (0 : Int) ≤ (i : Int) := by omega
  have hn2 := hf.n2
  have b1 : ((L.getD i (0, 0, 0)).2.2 == 0) = false := beq_eq_false_iff_ne.2 (by omega)
  have hf2 : Fit room t L' := by rw [hL]; exact hf.set hi _ (by simp only; omega) (by simp only; omega)
  have HL := Lib.hid hL
  clear hL
  go_enter Try.func66, Try.ntmps66
  go_wp2_with fail
  refine (HTT.out w h).mono ?_
  rintro e w1 ⟨rfl, nq, rfl⟩
  have hp := h.drewN nq
  have ho := (Only.refl (Two g gl) w).drewN nq
  generalize w.drewN nq = w1 at *
  have c2 := hp.c2
  have l0 := hp.l0 hi
  have l1 := hp.l1 hi
  have l2 := hp.l2 hi
  have f0 := hp.lanes.frozen (i * 3)
  have f1 := hp.lanes.frozen (i * 3 + 1)
  have f2 := hp.lanes.frozen (i * 3 + 2)
  have hne := hp.ne
  have hne' : gl ≠ g := fun e => hne e.symm
  have hp2 := hp.put (i := i) (j := 2) (.int .i64 ((L.getD i (0, 0, 0)).2.2 - 1)) hi (by decide) ((L.getD i (0, 0, 0)).1, (L.getD i (0, 0, 0)).2.1, (L.getD i (0, 0, 0)).2.2 - 1) rfl
  rw [← HL.out] at hp2
  have ho2 := ho.set (p := ⟨gl, i * 3 + 2, none⟩) (.inr rfl) (.int .i64 ((L.getD i (0, 0, 0)).2.2 - 1))
  clear HL
  generalize L.getD i (0, 0, 0) = x at *
  go_wp2_with fail
  refine (grant_x g gl room t L' _ hp2 hf2).mono ?_
  rintro e w3 ⟨rfl, hp3, ho3⟩
  go_wp2_with fail
  go_ret
  exact ⟨rfl, hp3, ho2.trans ho3⟩

set_option maxRecDepth 100000 in
set_option maxHeartbeats 1000000 in
theorem drop_ok (g gl : Nat) (room : Int) (t : Nat) (L : List Lane) (i : Nat) (w : World) (h : XPool w g gl room t L) (hf : Fit room t L) (hi : i < L.length) (L' : List Lane) (hL : L' = L.set i (0, 0, 0)) :
    Calls Try.prog 67 #[.pointer (some ⟨g, 0, none⟩), .int .i64 i] w fun e w' => e = .returned (.int .i64 0) ∧ XPool w' g gl room (granted room t L').1 (granted room t L').2 ∧ Only (Two g gl) w w' := by
  have HT := fun w h => there_x g gl room t L i w h hf.n2
  rw [show decide (0 ≤ (i : Int) ∧ (i : Int) < (L.length : Int)) = true by simp; omega] at HT
  have HTT := Lib.hid HT
  clear HT
  have hbd := hf.bound hi
  have hi1 : (i : Int) < (L.length : Int) := by omega
  have hi0 : (0 : Int) ≤ (i : Int) := by omega
  have hn2 := hf.n2
  have hf2 : Fit room t L' := by rw [hL]; exact hf.set hi _ (by simp) (by simp only; omega)
  have HL := Lib.hid hL
  clear hL
  go_enter Try.func67, Try.ntmps67
  go_wp2_with fail
  refine (HTT.out w h).mono ?_
  rintro e w1 ⟨rfl, nq, rfl⟩
  have hp := h.drewN nq
  have ho := (Only.refl (Two g gl) w).drewN nq
  generalize w.drewN nq = w1 at *
  have c2 := hp.c2
  have l0 := hp.l0 hi
  have l1 := hp.l1 hi
  have l2 := hp.l2 hi
  have f0 := hp.lanes.frozen (i * 3)
  have f1 := hp.lanes.frozen (i * 3 + 1)
  have f2 := hp.lanes.frozen (i * 3 + 2)
  have hne := hp.ne
  have hne' : gl ≠ g := fun e => hne e.symm
  have hp2 := ((hp.put (i := i) (j := 0) (.int .i64 0) hi (by decide) (0, (L.getD i (0, 0, 0)).2.1, (L.getD i (0, 0, 0)).2.2) rfl).put (i := i) (j := 1) (.int .i64 0) (by simpa using hi) (by decide) (0, 0, (L.getD i (0, 0, 0)).2.2) (by simp [hi, laneC])).put (i := i) (j := 2) (.int .i64 0) (by simpa using hi) (by decide) (0, 0, 0) (by simp [hi, laneC])
  rw [List.set_set, List.set_set, ← HL.out] at hp2
  have ho2 := ((ho.set (p := ⟨gl, i * 3, none⟩) (.inr rfl) (.int .i64 0)).set (p := ⟨gl, i * 3 + 1, none⟩) (.inr rfl) (.int .i64 0)).set (p := ⟨gl, i * 3 + 2, none⟩) (.inr rfl) (.int .i64 0)
  clear HL
  generalize L.getD i (0, 0, 0) = x at *
  go_wp2_with fail
  refine (grant_x g gl room t L' _ hp2 hf2).mono ?_
  rintro e w3 ⟨rfl, hp3, ho3⟩
  go_wp2_with fail
  go_ret
  exact ⟨rfl, hp3, ho2.trans ho3⟩
end Go.Proofs.Ytjblfkoepedhpaa
