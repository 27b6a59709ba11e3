/-
  A gossip in memory; the small functions over it.
-/
import Derived.Test.YtaecgapoaagjfaaGRow
import Derived.Test.YtaecgapoaagjfaaOnly
import Derived.IntWalk
import Derived.Outline
import Derived.Deep.LoopGhost
import Derived.Deep.DeepCutAuto
import Derived.Deep.CutBlock
import Derived.Deep.RegionLaw
import Derived.Deep.RegionHeld3
namespace Go.Proofs.Ytaecgapoaagjfaa
open Go.RowKit

theorem set_other {w : World} {g o o' : Nat} {u v : Value} (h : o ≠ o') (hc : w.cell? ⟨g, o, none⟩ = some v) : (w.setCell ⟨g, o', none⟩ u).cell? ⟨g, o, none⟩ = some v := by
  rw [World.cell?_setCell_other w _ _ _ (fun e => h (by injection e with _ e; exact e.symm))]; exact hc
theorem set_same {w : World} {g o : Nat} {u v : Value} (hc : w.cell? ⟨g, o, none⟩ = some v) : (w.setCell ⟨g, o, none⟩ u).cell? ⟨g, o, none⟩ = some u := World.cell?_setCell_same w _ _ hc
theorem Only.set1 {w w' : World} {g o : Nat} (h : Only (· = g) w w') (u : Value) : Only (· = g) w (w'.setCell ⟨g, o, none⟩ u) := h.set (p := ⟨g, o, none⟩) rfl u

/-- The gossip of package gossip, in block g. -/
structure GossipAt (w : World) (g : Nat) (me : Nat) (ticks last : Int) (G : GS) (V : Nat → Int) : Prop where
  own : ∃ cs, Box w g 269 cs
  c0 : w.cell? ⟨g, 0, none⟩ = some (.int .i64 me)
  c1 : w.cell? ⟨g, 1, none⟩ = some (.int .i64 ticks)
  c2 : w.cell? ⟨g, 2, none⟩ = some (.int .i64 last)
  n : ∀ i, i < 9 → w.cell? ⟨g, 3 + i * 3, none⟩ = some (.int .i64 (gN G i))
  t : ∀ i, i < 9 → w.cell? ⟨g, 3 + i * 3 + 1, none⟩ = some (.int .i64 (G.T i))
  s : ∀ i, i < 9 → w.cell? ⟨g, 3 + i * 3 + 2, none⟩ = some (.int .i64 (G.S i))
  v : ∀ i, i < 9 → w.cell? ⟨g, 30 + i, none⟩ = some (.int .i64 (V i))

section
variable {w w' : World} {g me : Nat} {ticks last : Int} {G : GS} {V : Nat → Int}
theorem GossipAt.lt (h : GossipAt w g me ticks last G V) : g < w.heap.size := lt_of_cell h.c0
theorem GossipAt.frozen (h : GossipAt w g me ticks last G V) (o : Nat) : w.frozen? ⟨g, o, none⟩ = false := by
  obtain ⟨cs, hb⟩ := h.own
  exact hb.frozen o
theorem GossipAt.same (h : GossipAt w g me ticks last G V) (hb : w'.heap[g]? = w.heap[g]?) : GossipAt w' g me ticks last G V := by
  have hc : ∀ o, w'.cell? ⟨g, o, none⟩ = w.cell? ⟨g, o, none⟩ := fun o => by simp only [World.cell?, hb]
  obtain ⟨cs, hx⟩ := h.own
  exact ⟨⟨cs, by unfold Box at hx ⊢; rw [hb]; exact hx⟩, (hc _).trans h.c0, (hc _).trans h.c1, (hc _).trans h.c2, fun i hi => (hc _).trans (h.n i hi), fun i hi => (hc _).trans (h.t i hi), fun i hi => (hc _).trans (h.s i hi), fun i hi => (hc _).trans (h.v i hi)⟩
theorem GossipAt.below (h : GossipAt w g me ticks last G V) (hb : Below w.heap.size w w') : GossipAt w' g me ticks last G V := h.same (hb.block g h.lt)
theorem GossipAt.only {S : Nat → Prop} (h : GossipAt w g me ticks last G V) (ho : Only S w w') (hS : ¬ S g) : GossipAt w' g me ticks last G V := h.same (ho.block g h.lt hS)
theorem GossipAt.turn (h : GossipAt w g me ticks last G V) (x : Int) : GossipAt (w.setCell ⟨g, 2, none⟩ (.int .i64 x)) g me ticks x G V := by
  obtain ⟨cs, hx⟩ := h.own
  exact ⟨⟨_, hx.set 2 _⟩, set_other (by omega) h.c0, set_other (by omega) h.c1, set_same h.c2, fun i hi => set_other (by omega) (h.n i hi), fun i hi => set_other (by omega) (h.t i hi), fun i hi => set_other (by omega) (h.s i hi), fun i hi => set_other (by omega) (h.v i hi)⟩
theorem GossipAt.time (h : GossipAt w g me ticks last G V) {k : Nat} (hk : k < 9) (x : Int) : GossipAt (w.setCell ⟨g, 30 + k, none⟩ (.int .i64 x)) g me ticks last G (upd V k x) := by
  obtain ⟨cs, hx⟩ := h.own
  refine ⟨⟨_, hx.set _ _⟩, set_other (by omega) h.c0, set_other (by omega) h.c1, set_other (by omega) h.c2, fun i hi => set_other (by omega) (h.n i hi), fun i hi => set_other (by omega) (h.t i hi), fun i hi => set_other (by omega) (h.s i hi), fun i hi => ?_⟩
  by_cases e : i = k
  · subst e; rw [upd_same]; exact set_same (h.v i hi)
  · rw [upd_ne _ _ e]; exact set_other (by omega) (h.v i hi)
theorem GossipAt.say (h : GossipAt w g me ticks last G V) {k : Nat} (hk : k < 9) (x : Int) : GossipAt (w.setCell ⟨g, 3 + k * 3 + 2, none⟩ (.int .i64 x)) g me ticks last (G.say k x) V := by
  obtain ⟨cs, hx⟩ := h.own
  refine ⟨⟨_, hx.set _ _⟩, set_other (by omega) h.c0, set_other (by omega) h.c1, set_other (by omega) h.c2, fun i hi => set_other (by omega) (h.n i hi), fun i hi => set_other (by omega) (h.t i hi), fun i hi => ?_, fun i hi => set_other (by omega) (h.v i hi)⟩
  simp only [GS.say]
  by_cases e : i = k
  · subst e; rw [upd_same]; exact set_same (h.s i hi)
  · rw [upd_ne _ _ e]; exact set_other (by omega) (h.s i hi)
theorem GossipAt.put (h : GossipAt w g me ticks last G V) {k : Nat} (hk : k < 9) (t s : Int) : GossipAt (((w.setCell ⟨g, 3 + k * 3, none⟩ (.int .i64 k)).setCell ⟨g, 3 + k * 3 + 1, none⟩ (.int .i64 t)).setCell ⟨g, 3 + k * 3 + 2, none⟩ (.int .i64 s)) g me ticks last (G.set k t s) V := by
  obtain ⟨cs, hx⟩ := h.own
  have h3 : ∀ o v, o ≠ 3 + k * 3 → o ≠ 3 + k * 3 + 1 → o ≠ 3 + k * 3 + 2 → w.cell? ⟨g, o, none⟩ = some v → (((w.setCell ⟨g, 3 + k * 3, none⟩ (.int .i64 k)).setCell ⟨g, 3 + k * 3 + 1, none⟩ (.int .i64 t)).setCell ⟨g, 3 + k * 3 + 2, none⟩ (.int .i64 s)).cell? ⟨g, o, none⟩ = some v :=
    fun o v h1 h2 h3 hc => set_other h3 (set_other h2 (set_other h1 hc))
  refine ⟨⟨_, ((hx.set _ _).set _ _).set _ _⟩, h3 _ _ (by omega) (by omega) (by omega) h.c0, h3 _ _ (by omega) (by omega) (by omega) h.c1, h3 _ _ (by omega) (by omega) (by omega) h.c2, fun i hi => ?_, fun i hi => ?_, fun i hi => ?_, fun i hi => h3 _ _ (by omega) (by omega) (by omega) (h.v i hi)⟩
  · by_cases e : i = k
    · subst e; simp only [gN, GS.set, upd_same, if_true]; exact set_other (by omega) (set_other (by omega) (set_same (h.n i hi)))
    · simp only [gN, GS.set, upd_ne _ _ e]; exact h3 _ _ (by omega) (by omega) (by omega) (h.n i hi)
  · by_cases e : i = k
    · subst e; simp only [GS.set, upd_same]; exact set_other (by omega) (set_same (set_other (by omega) (h.t i hi)))
    · simp only [GS.set, upd_ne _ _ e]; exact h3 _ _ (by omega) (by omega) (by omega) (h.t i hi)
  · by_cases e : i = k
    · subst e; simp only [GS.set, upd_same]; exact set_same (set_other (by omega) (set_other (by omega) (h.s i hi)))
    · simp only [GS.set, upd_ne _ _ e]; exact h3 _ _ (by omega) (by omega) (by omega) (h.s i hi)
end
def isN (n : Int) : Bool := decide (1 ≤ n ∧ n ≤ 8)
/-- Whether a node is known. -/
def kn (G : GS) (n : Int) : Bool := isN n && G.K n.toNat

theorem isNode_any (n : Int) (w : World) : Calls Try.prog 160 #[.int .i64 n] w fun e w' => e = .returned (.bool (isN n)) ∧ w = w' := by
  unfold isN
  by_cases h1 : 1 ≤ n
  · have d1 : decide (1 ≤ n) = true := by simp; omega
    by_cases h2 : n ≤ 8
    · have d2 : decide (n ≤ 8) = true := by simp; omega
      rw [show decide (1 ≤ n ∧ n ≤ 8) = true by simp; omega]
      go_enter Try.func160, Try.ntmps160
      go_wp2_with fail
      go_ret
      exact ⟨rfl, rfl⟩
    · have d2 : decide (n ≤ 8) = false := by simp; omega
      rw [show decide (1 ≤ n ∧ n ≤ 8) = false by simp; omega]
      go_enter Try.func160, Try.ntmps160
      go_wp2_with fail
      go_ret
      exact ⟨rfl, rfl⟩
  · have d1 : decide (1 ≤ n) = false := by simp; omega
    rw [show decide (1 ≤ n ∧ n ≤ 8) = false by simp; omega]
    go_enter Try.func160, Try.ntmps160
    go_wp2_with fail
    go_ret
    exact ⟨rfl, rfl⟩

set_option maxRecDepth 100000 in
theorem known_any (g me : Nat) (ticks last : Int) (G : GS) (V : Nat → Int) (n : Int) (w : World) (h : GossipAt w g me ticks last G V) :
    Calls Try.prog 161 #[.pointer (some ⟨g, 0, none⟩), .int .i64 n] w fun e w' => e = .returned (.bool (kn G n)) ∧ w = w' := by
  have HI := Lib.hid (isNode_any n w)
  unfold kn
  by_cases hn : isN n = true
  · rw [hn] at HI ⊢
    simp only [isN, decide_eq_true_eq] at hn
    obtain ⟨k, rfl⟩ := Int.eq_ofNat_of_zero_le (show 0 ≤ n by omega)
    have hk : k < 9 := by omega
    have hk1 : (k : Int) < 9 := by omega
    have hk0 : (0 : Int) ≤ (k : Int) := by omega
    have hc := h.n k hk
    have HQ := Lib.hid (show ((gN G k) != 0) = G.K k by unfold gN; cases G.K k <;> simp; omega)
    rw [Int.toNat_natCast, Bool.true_and]
    generalize gN G k = z at *
    generalize G.K k = q at *
    clear hn h
    go_enter Try.func161, Try.ntmps161
    go_wp2_with fail
    refine HI.out.mono ?_
    rintro e w' ⟨rfl, rfl⟩
    go_wp2_with fail
    go_ret
    exact ⟨by rw [← HQ.out]; rfl, rfl⟩
  · rw [show isN n = false by simpa using hn] at HI ⊢
    clear hn h
    go_enter Try.func161, Try.ntmps161
    go_wp2_with fail
    refine HI.out.mono ?_
    rintro e w' ⟨rfl, rfl⟩
    go_wp2_with fail
    go_ret
    exact ⟨rfl, rfl⟩

set_option maxRecDepth 100000 in
theorem says_g (g me : Nat) (ticks last : Int) (G : GS) (V : Nat → Int) (n : Int) (w : World) (h : GossipAt w g me ticks last G V) :
    Calls Try.prog 165 #[.pointer (some ⟨g, 0, none⟩), .int .i64 n] w fun e w' => e = .returned (.tuple #[.int .i64 (if kn G n then G.S n.toNat else 0), .int .i64 (if kn G n then 0 else 4)]) ∧ w = w' := by
  have HK := Lib.hid (known_any g me ticks last G V n w h)
  by_cases hn : kn G n = true
  · rw [hn] at HK ⊢
    rw [if_pos rfl, if_pos rfl]
    have hi : 1 ≤ n ∧ n ≤ 8 := by
      unfold kn isN at hn
      simp at hn
      exact hn.1
    obtain ⟨k, rfl⟩ := Int.eq_ofNat_of_zero_le (show 0 ≤ n by omega)
    have hk : k < 9 := by omega
    have hk1 : (k : Int) < 9 := by omega
    have hk0 : (0 : Int) ≤ (k : Int) := by omega
    have hc := h.s k hk
    rw [Int.toNat_natCast]
    generalize G.S k = z at *
    clear hn h hi
    go_enter Try.func165, Try.ntmps165
    go_wp2_with fail
    refine HK.out.mono ?_
    rintro e w' ⟨rfl, rfl⟩
    go_wp2_with fail
    go_ret2
    exact ⟨rfl, rfl⟩
  · rw [show kn G n = false by simpa using hn] at HK ⊢
    clear hn h
    go_enter Try.func165, Try.ntmps165
    go_wp2_with fail
    refine HK.out.mono ?_
    rintro e w' ⟨rfl, rfl⟩
    go_wp2_with fail
    go_ret2
    exact ⟨rfl, rfl⟩

/-- What Doubt answers, and leaves. -/
def doubtE (me : Nat) (G : GS) (n : Int) : Int := if kn G n = false ∨ n = me then 4 else if G.S n.toNat ≠ 1 then 8 else 0
set_option maxRecDepth 100000 in
set_option maxHeartbeats 1000000 in
theorem doubt_any (g me : Nat) (ticks last : Int) (G : GS) (V : Nat → Int) (n : Int) (w : World) (h : GossipAt w g me ticks last G V) :
    Calls Try.prog 32 #[.pointer (some ⟨g, 0, none⟩), .int .i64 n] w fun e w' => e = .returned (.int .i64 (doubtE me G n)) ∧ Only (· = g) w w' ∧ GossipAt w' g me ticks last (if doubtE me G n = 0 then G.say n.toNat 2 else G) (if doubtE me G n = 0 then upd V n.toNat 0 else V) := by
  have HK := Lib.hid (known_any g me ticks last G V n w h)
  have HG := Lib.hid h
  have hc0 := h.c0
  unfold doubtE
  by_cases hn : kn G n = true
  · rw [hn] at HK ⊢
    by_cases hm : n = me
    · rw [if_pos (.inr hm), if_neg (by decide), if_neg (by decide)]
      have bm : (n == (me : Int)) = true := by simp [hm]
      clear hm h hn
      go_enter Try.func32, Try.ntmps32
      go_wp2_with fail
      refine HK.out.mono ?_
      rintro e w' ⟨rfl, rfl⟩
      go_wp2_with fail
      go_ret
      exact ⟨rfl, Only.refl _ _, HG.out⟩
    · rw [if_neg (by simp [hm])]
      have bm : (n == (me : Int)) = false := by simp [hm]
      have hi : 1 ≤ n ∧ n ≤ 8 := by
        unfold kn isN at hn
        simp at hn
        exact hn.1
      obtain ⟨k, rfl⟩ := Int.eq_ofNat_of_zero_le (show 0 ≤ n by omega)
      have hk : k < 9 := by omega
      have hk1 : (k : Int) < 9 := by omega
      have hk0 : (0 : Int) ≤ (k : Int) := by omega
      have hcs := h.s k hk
      have hcv := h.v k hk
      have hf1 := h.frozen (3 + k * 3 + 2)
      have hf2 := h.frozen (30 + k)
      rw [Int.toNat_natCast]
      by_cases hs : G.S k = 1
      · rw [if_neg (fun e => e hs), if_pos rfl, if_pos rfl]
        have HP := Lib.hid ((h.say hk 2).time hk 0)
        have HO := Lib.hid (show Only (· = g) w ((w.setCell ⟨g, 3 + k * 3 + 2, none⟩ (.int .i64 2)).setCell ⟨g, 30 + k, none⟩ (.int .i64 0)) from ((Only.refl _ _).set1 _).set1 _)
        rw [hs] at hcs
        clear hs h hn hm hi
        go_enter Try.func32, Try.ntmps32
        go_wp2_with fail
        refine HK.out.mono ?_
        rintro e w' ⟨rfl, rfl⟩
        go_wp2_with fail
        go_region
        go_wp2_with fail
        go_ret
        exact ⟨rfl, HO.out.drew, HP.out.same rfl⟩
      · have bs : ((G.S k) != 1) = true := by simp [hs]
        rw [if_pos hs, if_neg (by decide), if_neg (by decide)]
        generalize G.S k = z at *
        clear hs h hn hm hi
        go_enter Try.func32, Try.ntmps32
        go_wp2_with fail
        refine HK.out.mono ?_
        rintro e w' ⟨rfl, rfl⟩
        go_wp2_with fail
        go_ret
        exact ⟨rfl, Only.refl _ _, HG.out⟩
  · rw [show kn G n = false by simpa using hn] at HK ⊢
    rw [if_pos (.inl rfl), if_neg (by decide), if_neg (by decide)]
    clear hn h
    go_enter Try.func32, Try.ntmps32
    go_wp2_with fail
    refine HK.out.mono ?_
    rintro e w' ⟨rfl, rfl⟩
    go_wp2_with fail
    go_ret
    exact ⟨rfl, Only.refl _ _, HG.out⟩
end Go.Proofs.Ytaecgapoaagjfaa
