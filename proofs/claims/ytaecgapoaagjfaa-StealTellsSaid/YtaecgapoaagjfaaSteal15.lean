/-
  Lines: what the calls give, by values.
-/
import Derived.Test.YtaecgapoaagjfaaSteal14
namespace Go.Proofs.Ytaecgapoaagjfaa
open Go.RowKit

/-- Lines of n, as a value. -/
def LinesV (w : World) (n : Nat) (us : List (List Int)) (V : Value) : Prop := ∃ A' c' l', V = .slice A' n c' ∧ l'.length = n ∧ lnRow w (· < w.heap.size) 0 A' c' l' us
theorem LinesV.below {w w' : World} {n : Nat} {us : List (List Int)} {V : Value} (h : LinesV w n us V) (hb : Below w.heap.size w w') : LinesV w' n us V := by
  obtain ⟨A', c', l', h1, h2, h3⟩ := h
  exact ⟨A', c', l', h1, h2, h3.keep (fun p hp => hb.cell hp) (fun b hp => Nat.lt_of_lt_of_le hp hb.size)⟩
theorem OwnLines.linesV {w : World} {base n : Nat} {A' : Option Addr} {c' : Nat} {l' : List BC} {us : List (List Int)} (h : OwnLines w base A' c' l' us) (hn : us.length = n) (h8 : n ≤ 8) : LinesV w n us (.slice A' n c') :=
  ⟨A', c', l', rfl, by rw [h.len, hn], (h.lnRow (by rw [h.len, hn]; unfold reachBytes; omega)).all⟩
def PushV (vs : List (List Int)) (cpu task : Int) (n : Nat) (w : World) (PV : Value) (PE : Int) : Prop :=
  (pushE vs cpu task ≠ 0 ∧ PV = .slice none 0 0 ∧ PE = pushE vs cpu task) ∨ (pushE vs cpu task = 0 ∧ PE = 0 ∧ LinesV w n (pushed vs cpu.toNat task) PV)
theorem PushV.below {vs : List (List Int)} {cpu task : Int} {n : Nat} {w w' : World} {PV : Value} {PE : Int} (h : PushV vs cpu task n w PV PE) (hb : Below w.heap.size w w') : PushV vs cpu task n w' PV PE :=
  h.elim .inl fun h => .inr ⟨h.1, h.2.1, h.2.2.below hb⟩
theorem pushE_cpu {vs : List (List Int)} {cpu task : Int} (h : pushE vs cpu task = 0) : cpuFault vs cpu = 0 := by
  unfold pushE at h
  by_cases e : cpuFault vs cpu = 0
  · exact e
  · rw [if_neg e] at h; exact absurd h e
theorem push_v (A : Option Addr) (c : Nat) (l : List BC) (vs : List (List Int)) (cpu task : Int) (S : Nat → Prop) (w : World) (h : lnRow w S 0 A c l vs) (ht : I64 task) :
    Calls Try.prog 134 #[.slice A l.length c, .int .i64 cpu, .int .i64 task] w fun e w' => ∃ PV PE, e = .returned (.tuple #[PV, .int .i64 PE]) ∧ Below w.heap.size w w' ∧ PushV vs cpu task l.length w' PV PE := by
  refine (push_any A c l vs cpu task S w h ht).mono ?_
  rintro e w' ⟨hb, ⟨h1, rfl⟩ | ⟨h1, A', c', l', rfl, h2⟩⟩
  · exact ⟨_, _, rfl, hb, .inl ⟨h1, rfl, rfl⟩⟩
  · have hc := cpuFault_zero (pushE_cpu h1)
    exact ⟨_, _, rfl, hb, .inr ⟨h1, rfl, h2.linesV (by unfold pushed; rw [List.length_set]; exact h.1.symm) (by rw [h.1]; exact hc.2.2.2.2)⟩⟩
def PopV (vs : List (List Int)) (cpu : Int) (n : Nat) (w : World) (PV : Value) (PT PE : Int) : Prop :=
  (cpuFault vs cpu ≠ 0 ∧ PV = .slice none 0 0 ∧ PT = 0 ∧ PE = cpuFault vs cpu) ∨ (cpuFault vs cpu = 0 ∧ ready vs cpu.toNat = none ∧ PV = .slice none 0 0 ∧ PT = 0 ∧ PE = 4) ∨
    (cpuFault vs cpu = 0 ∧ PE = 0 ∧ ∃ us, ready vs cpu.toNat = some us ∧ PT = lastOf us cpu.toNat ∧ LinesV w n (cutOf us cpu.toNat) PV)
theorem PopV.below {vs : List (List Int)} {cpu : Int} {n : Nat} {w w' : World} {PV : Value} {PT PE : Int} (h : PopV vs cpu n w PV PT PE) (hb : Below w.heap.size w w') : PopV vs cpu n w' PV PT PE := by
  rcases h with h | h | ⟨h1, h2, us, h3, h4, h5⟩
  · exact .inl h
  · exact .inr (.inl h)
  · exact .inr (.inr ⟨h1, h2, us, h3, h4, h5.below hb⟩)
theorem pop_v (A : Option Addr) (c : Nat) (l : List BC) (vs : List (List Int)) (cpu : Int) (S : Nat → Prop) (w : World) (h : lnRow w S 0 A c l vs) :
    Calls Try.prog 135 #[.slice A l.length c, .int .i64 cpu] w fun e w' => ∃ PV PT PE, e = .returned (.tuple #[PV, .int .i64 PT, .int .i64 PE]) ∧ Below w.heap.size w w' ∧ PopV vs cpu l.length w' PV PT PE := by
  refine (pop_any A c l vs cpu S w h).mono ?_
  rintro e w' ⟨hb, ⟨h1, rfl⟩ | ⟨h1, h2, rfl⟩ | ⟨h1, us, h2, A', c', l', rfl, h3⟩⟩
  · exact ⟨_, _, _, rfl, hb, .inl ⟨h1, rfl, rfl, rfl⟩⟩
  · exact ⟨_, _, _, rfl, hb, .inr (.inl ⟨h1, h2, rfl, rfl, rfl⟩)⟩
  · have hc := cpuFault_zero h1
    exact ⟨_, _, _, rfl, hb, .inr (.inr ⟨h1, rfl, us, h2, rfl, h3.linesV (by rw [cutOf_len, (ready_some (by omega) h2).1]; exact h.1.symm) (by rw [h.1]; exact hc.2.2.2.2)⟩)⟩
def PopdV (vs : List (List Int)) (p n : Nat) (w : World) (PV : Value) (PT : Int) (PO : Bool) : Prop :=
  (ready vs p = none ∧ PV = .slice none 0 0 ∧ PT = 0 ∧ PO = false) ∨ (PO = true ∧ ∃ us, ready vs p = some us ∧ PT = lastOf us p ∧ LinesV w n (cutOf us p) PV)
theorem popd_v (A : Option Addr) (c : Nat) (l : List BC) (vs : List (List Int)) (p : Nat) (S : Nat → Prop) (w : World) (h : lnRow w S 0 A c l vs) (hp : p < l.length) (h8 : l.length ≤ 8) :
    Calls Try.prog 140 #[.slice A l.length c, .int .i64 p] w fun e w' => ∃ PV PT PO, e = .returned (.tuple #[PV, .int .i64 PT, .bool PO]) ∧ Below w.heap.size w w' ∧ PopdV vs p l.length w' PV PT PO := by
  refine (popped_any A c l vs p S w h hp h8).mono ?_
  rintro e w' ⟨hb, ⟨h1, rfl⟩ | ⟨us, h2, A', c', l', rfl, h3⟩⟩
  · exact ⟨_, _, _, rfl, hb, .inl ⟨h1, rfl, rfl, rfl⟩⟩
  · exact ⟨_, _, _, rfl, hb, .inr ⟨rfl, us, h2, rfl, h3.linesV (by rw [cutOf_len, (ready_some (by rw [← h.1]; exact hp) h2).1]; exact h.1.symm) h8⟩⟩

set_option maxRecDepth 100000 in
theorem run_bad (A B : Option Addr) (c cB : Nat) (l : List BC) (vs : List (List Int)) (n : Nat) (S : Nat → Prop) (w : World) (h : lnRow w S 0 A c l vs) (hf : linesFault vs ≠ 0) :
    Calls Try.prog 137 #[.slice A l.length c, .slice B n cB] w fun e w' => e = .returned (.tuple #[.slice none 0 0, .slice none 0 0, .int .i64 (linesFault vs)]) ∧ Below w.heap.size w w' := by
  have HC := Lib.hid (checkS_any A c l vs S w h)
  have e0 : (linesFault vs != 0) = true := by simpa using hf
  generalize linesFault vs = r at *
  clear h hf
  go_enter Try.func137, Try.ntmps137
  go_wp2_with fail
  refine HC.out.mono ?_
  rintro e w1 ⟨rfl, hb1⟩
  go_wp2_with fail
  go_ret3
  exact ⟨rfl, hb1⟩
set_option maxRecDepth 100000 in
theorem run_large (A B : Option Addr) (c cB : Nat) (l : List BC) (vs : List (List Int)) (n : Nat) (S : Nat → Prop) (w : World) (h : lnRow w S 0 A c l vs) (hf : linesFault vs = 0) (hn : 100 < n) :
    Calls Try.prog 137 #[.slice A l.length c, .slice B n cB] w fun e w' => e = .returned (.tuple #[.slice none 0 0, .slice none 0 0, .int .i64 2]) ∧ Below w.heap.size w w' := by
  have HC := Lib.hid (checkS_any A c l vs S w h)
  rw [hf] at HC
  have d1 : decide ((100 : Int) < (n : Int)) = true := decide_eq_true (by omega)
  have d1' : decide (100 < n) = true := decide_eq_true hn
  clear h hf
  go_enter Try.func137, Try.ntmps137
  go_wp2_with fail
  refine HC.out.mono ?_
  rintro e w1 ⟨rfl, hb1⟩
  go_wp2_with fail
  go_ret3
  exact ⟨rfl, hb1⟩
/-- What a run gives, of lines that are right. -/
def RunV (w0 : World) (vs : List (List Int)) (turns : List Int) (n : Nat) (w : World) (RV LV : Value) (RE : Int) : Prop :=
  (100 < turns.length ∧ RV = .slice none 0 0 ∧ LV = .slice none 0 0 ∧ RE = 2) ∨ (turns.length ≤ 100 ∧ RE = 0 ∧ LinesV w n (runTo vs turns turns.length).1 LV ∧ ∃ O oc, RV = .slice O (runTo vs turns turns.length).2.length oc ∧ OwnAt w w0.heap.size 247 2 O (runTo vs turns turns.length).2.length oc (flat prC (runTo vs turns turns.length).2))
theorem RunV.below {w0 : World} {vs : List (List Int)} {turns : List Int} {n : Nat} {w w' : World} {RV LV : Value} {RE : Int} (h : RunV w0 vs turns n w RV LV RE) (hb : Below w.heap.size w w') : RunV w0 vs turns n w' RV LV RE := by
  rcases h with h | ⟨h1, h2, h3, O, oc, h4, h5⟩
  · exact .inl h
  · exact .inr ⟨h1, h2, h3.below hb, O, oc, h4, h5.below hb⟩
theorem run_v (A B : Option Addr) (c cB : Nat) (l : List BC) (vs : List (List Int)) (turns : List Int) (S : Nat → Prop) (w : World) (h : lnRow w S 0 A c l vs) (ht : Row w w.heap.size B (ints turns)) (hG : Good vs) :
    Calls Try.prog 137 #[.slice A l.length c, .slice B turns.length cB] w fun e w' => ∃ RV LV RE, e = .returned (.tuple #[RV, LV, .int .i64 RE]) ∧ Below w.heap.size w w' ∧ RunV w vs turns l.length w' RV LV RE := by
  by_cases hT : turns.length ≤ 100
  · refine (run_any A B c cB l vs turns S w h ht hG hT).mono ?_
    rintro e w' ⟨A1, c1, l1, O, oc, rfl, hr⟩
    exact ⟨_, _, _, rfl, hr.below, .inr ⟨hT, rfl, ⟨A1, c1, l1, rfl, hr.len, hr.row.all⟩, O, oc, rfl, hr.own⟩⟩
  · refine (run_large A B c cB l vs turns.length S w h ((good_iff vs).2 hG) (by omega)).mono ?_
    rintro e w' ⟨rfl, hb⟩
    exact ⟨_, _, _, rfl, hb, .inl ⟨by omega, rfl, rfl, rfl⟩⟩
end Go.Proofs.Ytaecgapoaagjfaa
