/-
  The reference's gossip in memory; what it hears, whom it asks.
-/
import Derived.Test.YtaecgapoaagjfaaGossip5
namespace Go.Proofs.Ytaecgapoaagjfaa
open Go.RowKit

/-- The reference's gossip: block m, its rows' blocks P, all above m. -/
structure RefAt (w : World) (m me : Nat) (ticks last : Int) (P : Nat → Option Nat) (G : GS) (W : Nat → Int) : Prop where
  own : ∃ cs, Box w m 61 cs
  c0 : w.cell? ⟨m, 0, none⟩ = some (.int .i64 me)
  c1 : w.cell? ⟨m, 1, none⟩ = some (.int .i64 ticks)
  c2 : w.cell? ⟨m, 2, none⟩ = some (.int .i64 last)
  p : ∀ i, i < 9 → w.cell? ⟨m, 3 + i, none⟩ = some (.pointer ((P i).map fun b => ⟨b, 0, none⟩))
  k : ∀ i, i < 9 → G.K i = (P i).isSome
  r : ∀ i, i < 9 → ∀ b, P i = some b → Box w b 63 #[.int .i64 i, .int .i64 (G.T i), .int .i64 (G.S i), .int .i64 (W i)]
  up : ∀ i, i < 9 → ∀ b, P i = some b → m < b
  inj : ∀ i j, i < 9 → j < 9 → ∀ b, P i = some b → P j = some b → i = j

section
variable {w w' : World} {m me : Nat} {ticks last : Int} {P : Nat → Option Nat} {G : GS} {W : Nat → Int}
theorem RefAt.lt (h : RefAt w m me ticks last P G W) : m < w.heap.size := lt_of_cell h.c0
theorem RefAt.frozen (h : RefAt w m me ticks last P G W) (o : Nat) : w.frozen? ⟨m, o, none⟩ = false := by
  obtain ⟨cs, hb⟩ := h.own
  exact hb.frozen o
theorem RefAt.same (h : RefAt w m me ticks last P G W) (hb : ∀ b, m ≤ b → b < w.heap.size → w'.heap[b]? = w.heap[b]?) : RefAt w' m me ticks last P G W := by
  have hm := hb m (Nat.le_refl _) h.lt
  have hc : ∀ o, w'.cell? ⟨m, o, none⟩ = w.cell? ⟨m, o, none⟩ := fun o => by simp only [World.cell?, hm]
  obtain ⟨cs, hx⟩ := h.own
  exact ⟨⟨cs, hm.trans hx⟩, (hc _).trans h.c0, (hc _).trans h.c1, (hc _).trans h.c2, fun i hi => (hc _).trans (h.p i hi), h.k, fun i hi b hp => (hb b (Nat.le_of_lt (h.up i hi b hp)) (h.r i hi b hp).lt).trans (h.r i hi b hp), h.up, h.inj⟩
theorem RefAt.below (h : RefAt w m me ticks last P G W) (hb : Below w.heap.size w w') : RefAt w' m me ticks last P G W := h.same fun b _ hl => hb.block b hl
theorem RefAt.only {g : Nat} (h : RefAt w m me ticks last P G W) (ho : Only (· = g) w w') (hg : g < m) : RefAt w' m me ticks last P G W := h.same fun b hm hl => ho.block b hl (by omega)
theorem RefAt.turn (h : RefAt w m me ticks last P G W) (x : Int) : RefAt (w.setCell ⟨m, 2, none⟩ (.int .i64 x)) m me ticks x P G W := by
  obtain ⟨cs, hx⟩ := h.own
  exact ⟨⟨_, hx.set 2 _⟩, set_other (by omega) h.c0, set_other (by omega) h.c1, set_same h.c2, fun i hi => set_other (by omega) (h.p i hi), h.k, fun i hi b hp => (h.r i hi b hp).far (p := ⟨m, 2, none⟩) (by have := h.up i hi b hp; show b ≠ m; omega) _, h.up, h.inj⟩
theorem RefAt.put (h : RefAt w m me ticks last P G W) {n : Nat} (hn : n < 9) (t s : Int) :
    RefAt ((w.alloc (.cells #[.int .i64 n, .int .i64 t, .int .i64 s, .int .i64 0] 63)).setCell ⟨m, 3 + n, none⟩ (.pointer (some ⟨w.heap.size, 0, none⟩))) m me ticks last (upd P n (some w.heap.size)) (G.set n t s) (upd W n 0) := by
  have hm := h.lt
  have hA := h.below ((Below.refl _ _).alloc (Nat.le_refl _) (.cells #[.int .i64 n, .int .i64 t, .int .i64 s, .int .i64 0] 63))
  obtain ⟨cs, hx⟩ := hA.own
  have hne : ∀ i, i ≠ n → ∀ b, upd P n (some w.heap.size) i = some b → P i = some b := fun i hi b hp => by rw [upd_ne _ _ hi] at hp; exact hp
  refine ⟨⟨_, hx.set _ _⟩, set_other (by omega) hA.c0, set_other (by omega) hA.c1, set_other (by omega) hA.c2, fun i hi => ?_, fun i hi => ?_, fun i hi b hp => ?_, fun i hi b hp => ?_, fun i j hi hj b hp hq => ?_⟩
  · by_cases e : i = n
    · subst e; rw [upd_same]; exact set_same (hA.p i hi)
    · rw [upd_ne _ _ e]; exact set_other (by omega) (hA.p i hi)
  · by_cases e : i = n
    · subst e; simp only [GS.set, upd_same]; rfl
    · simp only [GS.set, upd_ne _ _ e]; exact h.k i hi
  · by_cases e : i = n
    · subst e
      rw [upd_same] at hp
      injection hp with hp
      subst hp
      simp only [GS.set, upd_same]
      exact (Box.new w _ _).far (p := ⟨m, 3 + i, none⟩) (by show w.heap.size ≠ m; omega) _
    · have hp := hne i e b hp
      simp only [GS.set, upd_ne _ _ e]
      exact (hA.r i hi b hp).far (p := ⟨m, 3 + n, none⟩) (by have := h.up i hi b hp; show b ≠ m; omega) _
  · by_cases e : i = n
    · subst e
      rw [upd_same] at hp
      injection hp with hp
      omega
    · exact h.up i hi b (hne i e b hp)
  · by_cases e : i = n
    · by_cases e' : j = n
      · omega
      · subst e
        rw [upd_same] at hp
        injection hp with hp
        have := (h.r j hj b (hne j e' b hq)).lt
        omega
    · by_cases e' : j = n
      · subst e'
        rw [upd_same] at hq
        injection hq with hq
        have := (h.r i hi b (hne i e b hp)).lt
        omega
      · exact h.inj i j hi hj b (hne i e b hp) (hne j e' b hq)
/-- What is said of node n turns, and how long it has waited. -/
theorem RefAt.say (h : RefAt w m me ticks last P G W) {n b : Nat} (hn : n < 9) (hp : P n = some b) (s : Int) : RefAt (w.setCell ⟨b, 2, none⟩ (.int .i64 s)) m me ticks last P (G.say n s) W := by
  have hm := h.up n hn b hp
  have hc : ∀ o v, w.cell? ⟨m, o, none⟩ = some v → (w.setCell ⟨b, 2, none⟩ (.int .i64 s)).cell? ⟨m, o, none⟩ = some v := fun o v hv => by
    rw [← hv]; simp only [World.cell?, Below.heap_setCell w ⟨b, 2, none⟩ _ m (by show m ≠ b; omega)]
  obtain ⟨cs, hx⟩ := h.own
  refine ⟨⟨_, hx.far (p := ⟨b, 2, none⟩) (by show m ≠ b; omega) _⟩, hc _ _ h.c0, hc _ _ h.c1, hc _ _ h.c2, fun i hi => hc _ _ (h.p i hi), h.k, fun i hi b' hp' => ?_, h.up, h.inj⟩
  by_cases e : i = n
  · subst e
    rw [hp] at hp'
    injection hp' with hp'
    subst hp'
    have := (h.r i hi b hp).set 2 (.int .i64 s)
    simp only [GS.say, upd_same]
    simpa using this
  · simp only [GS.say, upd_ne _ _ e]
    exact (h.r i hi b' hp').far (p := ⟨b, 2, none⟩) (fun e' => e (h.inj i n hi hn b' hp' (by rw [hp]; exact congrArg some e'.symm))) _
theorem RefAt.wait (h : RefAt w m me ticks last P G W) {n b : Nat} (hn : n < 9) (hp : P n = some b) (x : Int) : RefAt (w.setCell ⟨b, 3, none⟩ (.int .i64 x)) m me ticks last P G (upd W n x) := by
  have hm := h.up n hn b hp
  have hc : ∀ o v, w.cell? ⟨m, o, none⟩ = some v → (w.setCell ⟨b, 3, none⟩ (.int .i64 x)).cell? ⟨m, o, none⟩ = some v := fun o v hv => by
    rw [← hv]; simp only [World.cell?, Below.heap_setCell w ⟨b, 3, none⟩ _ m (by show m ≠ b; omega)]
  obtain ⟨cs, hx⟩ := h.own
  refine ⟨⟨_, hx.far (p := ⟨b, 3, none⟩) (by show m ≠ b; omega) _⟩, hc _ _ h.c0, hc _ _ h.c1, hc _ _ h.c2, fun i hi => hc _ _ (h.p i hi), h.k, fun i hi b' hp' => ?_, h.up, h.inj⟩
  by_cases e : i = n
  · subst e
    rw [hp] at hp'
    injection hp' with hp'
    subst hp'
    have := (h.r i hi b hp).set 3 (.int .i64 x)
    rw [upd_same]
    simpa using this
  · rw [upd_ne _ _ e]
    exact (h.r i hi b' hp').far (p := ⟨b, 3, none⟩) (fun e' => e (h.inj i n hi hn b' hp' (by rw [hp]; exact congrArg some e'.symm))) _
end

/-- What Hear leaves. -/
def HearPost (m me : Nat) (ticks last : Int) (G : GS) (W : Nat → Int) (w : World) (e : Ending) (w' : World) : Prop :=
  e = .returned (.tuple #[]) ∧ Below m w w' ∧ ∃ P, RefAt w' m me ticks last P G W

set_option maxRecDepth 100000 in
set_option maxHeartbeats 2000000 in
theorem hear_any (m me n : Nat) (ticks last t s : Int) (P : Nat → Option Nat) (G : GS) (W : Nat → Int) (w : World) (h : RefAt w m me ticks last P G W) (hn : n < 9) (hs : 1 ≤ s) (ht : 0 ≤ t ∧ t ≤ 1099511627776) :
    Calls Try.prog 164 #[.pointer (some ⟨m, 0, none⟩), .int .i64 n, .int .i64 t, .int .i64 s] w (HearPost m me ticks last (hearG me G ((n : Int), t, s)) (hearW G W ((n : Int), t, s)) w) := by
  have HH := Lib.hid h
  have c0 := h.c0
  have hp := h.p n hn
  have hn1 : (n : Int) < 9 := by omega
  have hn0 : (0 : Int) ≤ (n : Int) := by omega
  have hf := h.frozen (3 + n)
  have hm := h.lt
  have hmne : m ≠ w.heap.size := by omega
  unfold hearG hearW
  simp only [Int.toNat_natCast]
  have HSW := Lib.hid (fun (o : Obj) (u : Value) => World.setCell_alloc_past (w := w) o m (3 + n) u hm)
  have HPUT := Lib.hid (fun t s => h.put hn t s)
  have HBEL := Lib.hid (show ∀ t s, Below m w ((w.alloc (.cells #[.int .i64 n, .int .i64 t, .int .i64 s, .int .i64 0] 63)).setCell ⟨m, 3 + n, none⟩ (.pointer (some ⟨w.heap.size, 0, none⟩))) from fun t s => ((Below.refl m w).alloc (Nat.le_of_lt hm) _).setCell (Nat.le_refl m) _)
  simp only [HSW.out] at HPUT HBEL
  have hap : ∀ t s, (w.alloc (.cells #[.int .i64 n, .int .i64 t, .int .i64 s, .int .i64 0] 63)).cell? ⟨m, 3 + n, none⟩ = some (.pointer ((P n).map fun b => ⟨b, 0, none⟩)) := fun t s => (World.cell?_alloc_lt w _ ⟨m, 3 + n, none⟩ hm).trans hp
  have haf : ∀ t s, (w.alloc (.cells #[.int .i64 n, .int .i64 t, .int .i64 s, .int .i64 0] 63)).frozen? ⟨m, 3 + n, none⟩ = false := fun t s => (h.below ((Below.refl _ _).alloc (Nat.le_refl _) _)).frozen _
  have HAP := Lib.hid hap
  have HAF := Lib.hid haf
  have hK := h.k n hn
  have hR := h.r n hn
  clear hap haf h
  cases hPn : P n with
  | none =>
    rw [hPn] at hp hK HAP
    simp only [Option.map_none] at hp HAP
    have HST := Lib.hid (show stale G n t s = false by unfold stale; rw [hK]; rfl)
    clear hK hR hPn
    rw [HST.out]
    simp only [Bool.false_eq_true, if_false]
    by_cases hm2 : n = me ∧ s ≠ 1
    · rw [if_pos hm2]
      obtain ⟨rfl, hs1⟩ := hm2
      have bm : ((n : Int) == (n : Int)) = true := by simp
      have ds : decide (1 < s) = true := by simp; omega
      unfold capT
      clear hs1
      by_cases hcap : t + 1 ≤ 1099511627776
      · rw [if_pos hcap]
        have dc : decide (1099511627776 < t + 1) = false := by simp; omega
        have ap := HAP.out (t + 1) 1
        have af := HAF.out (t + 1) 1
        go_enter Try.func164, Try.ntmps164
        go_wp2_with fail
        go_end0
        exact ⟨rfl, HBEL.out _ _, _, HPUT.out _ _⟩
      · rw [if_neg hcap]
        have dc : decide (1099511627776 < t + 1) = true := by simp; omega
        have ap := HAP.out 1099511627776 1
        have af := HAF.out 1099511627776 1
        go_enter Try.func164, Try.ntmps164
        go_wp2_with fail
        go_end0
        exact ⟨rfl, HBEL.out _ _, _, HPUT.out _ _⟩
    · rw [if_neg hm2]
      have ap := HAP.out t s
      have af := HAF.out t s
      by_cases hnm : n = me
      · have bm : ((n : Int) == (me : Int)) = true := by simp [hnm]
        have bm' : (n == me) = true := by simp [hnm]
        have ds : decide (1 < s) = false := by
          have : s = 1 := by
            rcases Int.lt_or_le 1 s with h | h
            · exact absurd ⟨hnm, by omega⟩ hm2
            · omega
          simp [this]
        clear hm2 hnm
        go_enter Try.func164, Try.ntmps164
        go_wp2_with fail
        go_end0
        exact ⟨rfl, HBEL.out _ _, _, HPUT.out _ _⟩
      · have bm : ((n : Int) == (me : Int)) = false := by simp; omega
        have bm' : (n == me) = false := by simp [hnm]
        clear hm2 hnm
        go_enter Try.func164, Try.ntmps164
        go_wp2_with fail
        go_end0
        exact ⟨rfl, HBEL.out _ _, _, HPUT.out _ _⟩
  | some b =>
    rw [hPn] at hp hK HAP
    simp only [Option.map_some] at hp HAP
    have hB := hR b hPn
    have b1 := hB.cell 1
    have b2 := hB.cell 2
    simp only [List.getElem?_toArray, List.getElem?_cons_zero, List.getElem?_cons_succ] at b1 b2
    have HSG := Lib.hid (show stale G n t s = !(decide (G.T n < t) || (G.T n == t && decide (G.S n < s))) by unfold stale; rw [hK]; rfl)
    generalize G.T n = Tn at *
    generalize G.S n = Sn at *
    clear hK hR hPn hB
    by_cases hT : t < Tn
    · have d1 : decide (t < Tn) = true := by simp; omega
      have HST := Lib.hid (show stale G n t s = true by
        rw [HSG.out, show decide (Tn < t) = false by simp; omega, show (Tn == t) = false by simp; omega]; rfl)
      rw [HST.out]
      simp only [if_true]
      go_enter Try.func164, Try.ntmps164
      go_wp2_with fail
      refine bodyPost_ret (results_none rfl _ _ _) rfl ?_
      exact ⟨rfl, Below.refl _ _, _, HH.out⟩
    · have d1 : decide (t < Tn) = false := by simp; omega
      by_cases hE : Tn = t
      · have d2 : (Tn == t) = true := by simp [hE]
        by_cases hS : s ≤ Sn
        · have d3 : decide (s ≤ Sn) = true := by simp; omega
          have HST := Lib.hid (show stale G n t s = true by
            rw [HSG.out, show decide (Tn < t) = false by simp; omega, d2, show decide (Sn < s) = false by simp; omega]; rfl)
          rw [HST.out]
          simp only [if_true]
          clear hE
          go_enter Try.func164, Try.ntmps164
          go_wp2_with fail
          refine bodyPost_ret (results_none rfl _ _ _) rfl ?_
          exact ⟨rfl, Below.refl _ _, _, HH.out⟩
        · have d3 : decide (s ≤ Sn) = false := by simp; omega
          have HST := Lib.hid (show stale G n t s = false by
            rw [HSG.out, d2, show decide (Sn < s) = true by simp; omega]; simp)
          clear hE
          rw [HST.out]
          simp only [Bool.false_eq_true, if_false]
          by_cases hm2 : n = me ∧ s ≠ 1
          · rw [if_pos hm2]
            obtain ⟨rfl, hs1⟩ := hm2
            have bm : ((n : Int) == (n : Int)) = true := by simp
            have ds : decide (1 < s) = true := by simp; omega
            unfold capT
            clear hs1
            by_cases hcap : t + 1 ≤ 1099511627776
            · rw [if_pos hcap]
              have dc : decide (1099511627776 < t + 1) = false := by simp; omega
              have ap := HAP.out (t + 1) 1
              have af := HAF.out (t + 1) 1
              go_enter Try.func164, Try.ntmps164
              go_wp2_with fail
              go_end0
              exact ⟨rfl, HBEL.out _ _, _, HPUT.out _ _⟩
            · rw [if_neg hcap]
              have dc : decide (1099511627776 < t + 1) = true := by simp; omega
              have ap := HAP.out 1099511627776 1
              have af := HAF.out 1099511627776 1
              go_enter Try.func164, Try.ntmps164
              go_wp2_with fail
              go_end0
              exact ⟨rfl, HBEL.out _ _, _, HPUT.out _ _⟩
          · rw [if_neg hm2]
            have ap := HAP.out t s
            have af := HAF.out t s
            by_cases hnm : n = me
            · have bm : ((n : Int) == (me : Int)) = true := by simp [hnm]
              have bm' : (n == me) = true := by simp [hnm]
              have ds : decide (1 < s) = false := by
                have : s = 1 := by
                  rcases Int.lt_or_le 1 s with h | h
                  · exact absurd ⟨hnm, by omega⟩ hm2
                  · omega
                simp [this]
              clear hm2 hnm
              go_enter Try.func164, Try.ntmps164
              go_wp2_with fail
              go_end0
              exact ⟨rfl, HBEL.out _ _, _, HPUT.out _ _⟩
            · have bm : ((n : Int) == (me : Int)) = false := by simp; omega
              have bm' : (n == me) = false := by simp [hnm]
              clear hm2 hnm
              go_enter Try.func164, Try.ntmps164
              go_wp2_with fail
              go_end0
              exact ⟨rfl, HBEL.out _ _, _, HPUT.out _ _⟩
      · have d2 : (Tn == t) = false := by simp [hE]
        have HST := Lib.hid (show stale G n t s = false by
          rw [HSG.out, show decide (Tn < t) = true by simp; omega]; rfl)
        clear hE
        rw [HST.out]
        simp only [Bool.false_eq_true, if_false]
        by_cases hm2 : n = me ∧ s ≠ 1
        · rw [if_pos hm2]
          obtain ⟨rfl, hs1⟩ := hm2
          have bm : ((n : Int) == (n : Int)) = true := by simp
          have ds : decide (1 < s) = true := by simp; omega
          unfold capT
          clear hs1
          by_cases hcap : t + 1 ≤ 1099511627776
          · rw [if_pos hcap]
            have dc : decide (1099511627776 < t + 1) = false := by simp; omega
            have ap := HAP.out (t + 1) 1
            have af := HAF.out (t + 1) 1
            go_enter Try.func164, Try.ntmps164
            go_wp2_with fail
            go_end0
            exact ⟨rfl, HBEL.out _ _, _, HPUT.out _ _⟩
          · rw [if_neg hcap]
            have dc : decide (1099511627776 < t + 1) = true := by simp; omega
            have ap := HAP.out 1099511627776 1
            have af := HAF.out 1099511627776 1
            go_enter Try.func164, Try.ntmps164
            go_wp2_with fail
            go_end0
            exact ⟨rfl, HBEL.out _ _, _, HPUT.out _ _⟩
        · rw [if_neg hm2]
          have ap := HAP.out t s
          have af := HAF.out t s
          by_cases hnm : n = me
          · have bm : ((n : Int) == (me : Int)) = true := by simp [hnm]
            have bm' : (n == me) = true := by simp [hnm]
            have ds : decide (1 < s) = false := by
              have : s = 1 := by
                rcases Int.lt_or_le 1 s with h | h
                · exact absurd ⟨hnm, by omega⟩ hm2
                · omega
              simp [this]
            clear hm2 hnm
            go_enter Try.func164, Try.ntmps164
            go_wp2_with fail
            go_end0
            exact ⟨rfl, HBEL.out _ _, _, HPUT.out _ _⟩
          · have bm : ((n : Int) == (me : Int)) = false := by simp; omega
            have bm' : (n == me) = false := by simp [hnm]
            clear hm2 hnm
            go_enter Try.func164, Try.ntmps164
            go_wp2_with fail
            go_end0
            exact ⟨rfl, HBEL.out _ _, _, HPUT.out _ _⟩
end Go.Proofs.Ytaecgapoaagjfaa
