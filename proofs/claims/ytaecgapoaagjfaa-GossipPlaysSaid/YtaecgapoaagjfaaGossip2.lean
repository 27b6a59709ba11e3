/-
  A gossip made; its rows told; its timers; whom it asks next.
-/
import Derived.Test.YtaecgapoaagjfaaGossip1
namespace Go.Proofs.Ytaecgapoaagjfaa
open Go.RowKit

def G00 : GS := ⟨fun _ => false, fun _ => 0, fun _ => 0⟩
def z39 (me ticks : Int) : Array Value := #[.int .i64 me, .int .i64 ticks, .int .i64 0, .int .i64 0, .int .i64 0, .int .i64 0, .int .i64 0, .int .i64 0, .int .i64 0, .int .i64 0, .int .i64 0, .int .i64 0, .int .i64 0, .int .i64 0, .int .i64 0, .int .i64 0, .int .i64 0, .int .i64 0, .int .i64 0, .int .i64 0, .int .i64 0, .int .i64 0, .int .i64 0, .int .i64 0, .int .i64 0, .int .i64 0, .int .i64 0, .int .i64 0, .int .i64 0, .int .i64 0, .int .i64 0, .int .i64 0, .int .i64 0, .int .i64 0, .int .i64 0, .int .i64 0, .int .i64 0, .int .i64 0, .int .i64 0]
theorem gossip_new (w : World) (me : Nat) (ticks : Int) : GossipAt (w.alloc (.cells (z39 me ticks) 269)) w.heap.size me ticks 0 G00 (fun _ => 0) := by
  have hb := Box.new w 269 (z39 me ticks)
  have hc : ∀ o, (w.alloc (.cells (z39 me ticks) 269)).cell? ⟨w.heap.size, o, none⟩ = (z39 me ticks)[o]? := fun o => hb.cell o
  refine ⟨⟨_, hb⟩, hc 0, hc 1, hc 2, fun i hi => ?_, fun i hi => ?_, fun i hi => ?_, fun i hi => ?_⟩
  all_goals
    rw [hc]
    match i, hi with
    | 0, _ => rfl
    | 1, _ => rfl
    | 2, _ => rfl
    | 3, _ => rfl
    | 4, _ => rfl
    | 5, _ => rfl
    | 6, _ => rfl
    | 7, _ => rfl
    | 8, _ => rfl
    | i + 9, hi => omega

set_option maxRecDepth 100000 in
set_option maxHeartbeats 1000000 in
theorem new_g (me : Nat) (ticks : Int) (w : World) (h1 : 1 ≤ me) (h8 : me ≤ 8) (t1 : 1 ≤ ticks) (t2 : ticks ≤ 100) :
    Calls Try.prog 29 #[.int .i64 me, .int .i64 ticks] w fun e w' => e = .returned (.tuple #[.pointer (some ⟨w.heap.size, 0, none⟩), .int .i64 0]) ∧ Below w.heap.size w w' ∧ w.heap.size < w'.heap.size ∧ GossipAt w' w.heap.size me ticks 0 (G00.set me 0 1) (fun _ => 0) := by
  have HI := Lib.hid (isNode_any me w)
  rw [show isN me = true by unfold isN; simp; omega] at HI
  have d1 : decide (ticks < 1) = false := by simp; omega
  have d2 : decide (100 < ticks) = false := by simp; omega
  have hm1 : (me : Int) < 9 := by omega
  have hm0 : (0 : Int) ≤ (me : Int) := by omega
  have hg := gossip_new w me ticks
  have hp := hg.put (k := me) (by omega) 0 1
  have hc1 := hg.n me (by omega)
  have hc2 := hg.t me (by omega)
  have hc3 := hg.s me (by omega)
  have hf := hg.frozen
  have HP := Lib.hid hp
  have HB := Lib.hid (show Below w.heap.size w (((((w.alloc (.cells (z39 me ticks) 269))).setCell ⟨w.heap.size, 3 + me * 3, none⟩ (.int .i64 me)).setCell ⟨w.heap.size, 3 + me * 3 + 1, none⟩ (.int .i64 0)).setCell ⟨w.heap.size, 3 + me * 3 + 2, none⟩ (.int .i64 1)) from ((((Below.refl _ _).alloc (Nat.le_refl _) _).setCell (Nat.le_refl _) _).setCell (Nat.le_refl _) _).setCell (Nat.le_refl _) _)
  clear hg hp
  unfold z39 at *
  go_enter Try.func29, Try.ntmps29
  go_wp2_with fail
  refine HI.out.mono ?_
  rintro e w' ⟨rfl, rfl⟩
  go_upto_region 4 with fail
  have hf1 := hf (3 + me * 3)
  have hf2 := hf (3 + me * 3 + 1)
  have hf3 := hf (3 + me * 3 + 2)
  have HSZ := Lib.hid (show w.heap.size < (w.alloc (.cells #[.int .i64 (me : Int), .int .i64 ticks, .int .i64 0, .int .i64 0, .int .i64 0, .int .i64 0, .int .i64 0, .int .i64 0, .int .i64 0, .int .i64 0, .int .i64 0, .int .i64 0, .int .i64 0, .int .i64 0, .int .i64 0, .int .i64 0, .int .i64 0, .int .i64 0, .int .i64 0, .int .i64 0, .int .i64 0, .int .i64 0, .int .i64 0, .int .i64 0, .int .i64 0, .int .i64 0, .int .i64 0, .int .i64 0, .int .i64 0, .int .i64 0, .int .i64 0, .int .i64 0, .int .i64 0, .int .i64 0, .int .i64 0, .int .i64 0, .int .i64 0, .int .i64 0, .int .i64 0] 269)).heap.size by simp)
  clear hf
  generalize w.alloc (.cells #[.int .i64 (me : Int), .int .i64 ticks, .int .i64 0, .int .i64 0, .int .i64 0, .int .i64 0, .int .i64 0, .int .i64 0, .int .i64 0, .int .i64 0, .int .i64 0, .int .i64 0, .int .i64 0, .int .i64 0, .int .i64 0, .int .i64 0, .int .i64 0, .int .i64 0, .int .i64 0, .int .i64 0, .int .i64 0, .int .i64 0, .int .i64 0, .int .i64 0, .int .i64 0, .int .i64 0, .int .i64 0, .int .i64 0, .int .i64 0, .int .i64 0, .int .i64 0, .int .i64 0, .int .i64 0, .int .i64 0, .int .i64 0, .int .i64 0, .int .i64 0, .int .i64 0, .int .i64 0] 269) = w1 at *
  go_wp2_with fail
  go_ret2
  exact ⟨rfl, HB.out, by simpa [World.setCell] using HSZ.out, HP.out⟩

theorem new_bad (me ticks : Int) (w : World) (h : me < 1 ∨ 8 < me ∨ ticks < 1 ∨ 100 < ticks) :
    Calls Try.prog 29 #[.int .i64 me, .int .i64 ticks] w fun e w' => e = .returned (.tuple #[.pointer none, .int .i64 1]) ∧ w = w' := by
  have HI := Lib.hid (isNode_any me w)
  by_cases hm : 1 ≤ me ∧ me ≤ 8
  · rw [show isN me = true by unfold isN; simp; omega] at HI
    by_cases h1 : ticks < 1
    · have d1 : decide (ticks < 1) = true := by simp; omega
      clear h hm
      go_enter Try.func29, Try.ntmps29
      go_wp2_with fail
      refine HI.out.mono ?_
      rintro e w' ⟨rfl, rfl⟩
      go_wp2_with fail
      go_ret2
      exact ⟨rfl, rfl⟩
    · have d1 : decide (ticks < 1) = false := by simp; omega
      have d2 : decide (100 < ticks) = true := by simp; omega
      clear h hm
      go_enter Try.func29, Try.ntmps29
      go_wp2_with fail
      refine HI.out.mono ?_
      rintro e w' ⟨rfl, rfl⟩
      go_wp2_with fail
      go_ret2
      exact ⟨rfl, rfl⟩
  · rw [show isN me = false by unfold isN; simp; omega] at HI
    clear h hm
    go_enter Try.func29, Try.ntmps29
    go_wp2_with fail
    refine HI.out.mono ?_
    rintro e w' ⟨rfl, rfl⟩
    go_wp2_with fail
    go_ret2
    exact ⟨rfl, rfl⟩

/-- The k-th timer advances. -/
theorem tickG_succ (ticks : Int) (G : GS) (V : Nat → Int) (k : Nat) : (tickG ticks G V k).S k = G.S k ∧ tickVs G V k k = V k ∧ (G.S k ≠ 2 → tickG ticks G V (k + 1) = tickG ticks G V k ∧ tickVs G V (k + 1) = tickVs G V k) ∧
    (G.S k = 2 → tickVs G V (k + 1) = upd (tickVs G V k) k (V k + 1) ∧ (ticks ≤ V k + 1 → tickG ticks G V (k + 1) = (tickG ticks G V k).say k 3) ∧ (¬ ticks ≤ V k + 1 → tickG ticks G V (k + 1) = tickG ticks G V k)) := by
  refine ⟨by simp [tickG], by simp [tickVs], fun h => ⟨?_, ?_⟩, fun h => ⟨?_, fun ht => ?_, fun ht => ?_⟩⟩
  · simp only [tickG, GS.mk.injEq, true_and]
    funext i
    by_cases e : i = k
    · subst e; simp [tickS, h]
    · simp only [show (i < k + 1) = (i < k) by simp; omega]
  · funext i
    by_cases e : i = k
    · subst e; simp [tickVs, tickV, h]
    · simp only [tickVs, show (i < k + 1) = (i < k) by simp; omega]
  · funext i
    by_cases e : i = k
    · subst e; simp [tickVs, tickV, h, upd]
    · simp only [tickVs, upd_ne _ _ e, show (i < k + 1) = (i < k) by simp; omega]
  · simp only [tickG, GS.say, GS.mk.injEq, true_and]
    funext i
    by_cases e : i = k
    · subst e; simp [tickS, h, ht, upd]
    · simp only [upd_ne _ _ e, show (i < k + 1) = (i < k) by simp; omega]
  · simp only [tickG, GS.mk.injEq, true_and]
    funext i
    by_cases e : i = k
    · subst e; simp [tickS, h, ht]
    · simp only [show (i < k + 1) = (i < k) by simp; omega]

set_option maxRecDepth 100000 in
set_option maxHeartbeats 1000000 in
theorem tick_g (g me : Nat) (ticks last : Int) (G : GS) (V : Nat → Int) (w : World) (h : GossipAt w g me ticks last G V) (hv : ∀ i, i < 9 → G.S i = 2 → 0 ≤ V i ∧ V i < 100) :
    Calls Try.prog 37 #[.pointer (some ⟨g, 0, none⟩)] w fun e w' => e = .returned (.tuple #[]) ∧ Only (· = g) w w' ∧ GossipAt w' g me ticks last (tickG ticks G V 9) (tickVs G V 9) := by
  have HV := Lib.hid hv
  have HG := Lib.hid h
  clear hv h
  go_enter Try.func37, Try.ntmps37
  go_wp2_with fail
  go_loopg [4] 9 (fun gk i wr => ∃ k : Nat, gk = 9 - k ∧ k ≤ 9 ∧ i = .int .i64 k ∧ Only (· = g) w wr ∧ GossipAt wr g me ticks last (tickG ticks G V k) (tickVs G V k))
  case atStart => exact ⟨0, by omega, by omega, rfl, Only.refl _ _, HG.out⟩
  case round =>
    obtain ⟨k, hgk, hk, rfl, ho, hg⟩ := hrel
    have HK := Lib.hid hgk
    clear hgk
    by_cases hlt : k < 9
    · obtain ⟨e1, e2, e3, e4⟩ := tickG_succ ticks G V k
      have hs := hg.s k hlt
      have hvv := hg.v k hlt
      have hc1 := hg.c1
      have hf1 := hg.frozen (3 + k * 3 + 2)
      have hf2 := hg.frozen (30 + k)
      rw [e1] at hs
      rw [e2] at hvv
      have hlt1 : (k : Int) < 9 := by omega
      have hlt0 : (0 : Int) ≤ (k : Int) := by omega
      have HGG := Lib.hid hg
      have HE3 := Lib.hid e3
      have HE4 := Lib.hid e4
      have hvb := HV.out k hlt
      clear hg e1 e2 e3 e4
      by_cases h2 : G.S k = 2
      · have hvb' := hvb h2
        have HH := Lib.hid (HE4.out h2)
        rw [h2] at hs
        have hvk1 := hvb'.1
        have hvk2 := hvb'.2
        clear hvb HE3 HE4 hvb'
        have HG2 := Lib.hid (HGG.out.time hlt (V k + 1))
        have HO2 := Lib.hid (ho.set1 (g := g) (o := 30 + k) (.int .i64 (V k + 1)))
        by_cases ht : ticks ≤ V k + 1
        · have dt : decide (ticks ≤ V k + 1) = true := by simp; omega
          have HG3 := Lib.hid (HG2.out.say hlt 3)
          have HO3 := Lib.hid (HO2.out.set1 (g := g) (o := 3 + k * 3 + 2) (.int .i64 3))
          have HH3 := Lib.hid (HH.out.2.1 ht)
          go_wp2_with fail
          go_region
          go_wp2_with fail
          go_quiet (fail)
          go_wp2_with fail
          go_roundg (9 - (k + 1))
          case measure => have := HK.out; omega
          case rel =>
            refine ⟨k + 1, rfl, by omega, by go_num, ?_, ?_⟩
            · exact ⟨HO3.out.os, HO3.out.tape, HO3.out.output, HO3.out.size, HO3.out.block⟩
            · rw [HH3.out, HH.out.1]; exact HG3.out.same rfl
        · have dt : decide (ticks ≤ V k + 1) = false := by simp; omega
          have HH3 := Lib.hid (HH.out.2.2 ht)
          go_wp2_with fail
          go_region
          go_wp2_with fail
          go_quiet (fail)
          go_wp2_with fail
          go_roundg (9 - (k + 1))
          case measure => have := HK.out; omega
          case rel =>
            refine ⟨k + 1, rfl, by omega, by go_num, ?_, ?_⟩
            · exact ⟨HO2.out.os, HO2.out.tape, HO2.out.output, HO2.out.size, HO2.out.block⟩
            · rw [HH3.out, HH.out.1]; exact HG2.out.same rfl
      · have b2 : (G.S k == 2) = false := by simp [h2]
        have HH := Lib.hid (HE3.out h2)
        clear hvb HE3 HE4
        generalize G.S k = z at *
        go_wp2_with fail
        go_roundg (9 - (k + 1))
        case measure => have := HK.out; omega
        case rel => exact ⟨k + 1, rfl, by omega, by go_num, ho, by rw [HH.out.1, HH.out.2]; exact HGG.out⟩
    · obtain rfl : k = 9 := by omega
      go_wp2_with fail
      go_end0
      exact ⟨rfl, ho, hg⟩
end Go.Proofs.Ytaecgapoaagjfaa
