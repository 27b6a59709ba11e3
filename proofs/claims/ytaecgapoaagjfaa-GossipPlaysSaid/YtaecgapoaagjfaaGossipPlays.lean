/-
  The law GossipPlays: its walk.
-/
import Derived.Test.YtaecgapoaagjfaaGossip8
namespace Go.Proofs.Ytaecgapoaagjfaa
open Go.RowKit

def z12 (me ticks : Int) : Array Value := #[.int .i64 me, .int .i64 ticks, .int .i64 0, .pointer none, .pointer none, .pointer none, .pointer none, .pointer none, .pointer none, .pointer none, .pointer none, .pointer none]
theorem ref_new (w : World) (me : Nat) (ticks : Int) : RefAt (w.alloc (.cells (z12 me ticks) 61)) w.heap.size me ticks 0 (fun _ => none) G00 (fun _ => 0) := by
  have hb := Box.new w 61 (z12 me ticks)
  have hc : ∀ o, (w.alloc (.cells (z12 me ticks) 61)).cell? ⟨w.heap.size, o, none⟩ = (z12 me ticks)[o]? := fun o => hb.cell o
  refine ⟨⟨_, hb⟩, hc 0, hc 1, hc 2, fun i hi => ?_, fun i hi => rfl, fun i hi b hp => (by cases hp), fun i hi b hp => (by cases hp), fun i j hi hj b hp => (by cases hp)⟩
  rw [hc]
  match i, hi with
    | 0, _ => rfl
    | 1, _ => rfl
    | 2, _ => rfl
    | 3, _ => rfl
    | 4, _ => rfl
    | 5, _ => rfl
    | 6, _ => rfl
    | 7, _ => rfl
    | 8, _ => rfl
    | i + 9, hi => omega
theorem gok_new (me : Nat) (ticks : Int) (h1 : 1 ≤ me) (h8 : me ≤ 8) (t1 : 1 ≤ ticks) (t2 : ticks ≤ 100) : GOk me ticks (0 : Nat) (G00.set me 0 1) (fun _ => 0) (upd (fun _ => 0) me 0) := by
  refine ⟨h1, h8, t1, t2, by simp, by simp, by simp [GS.set, upd], by simp [GS.set, upd], ?_, ?_, ?_, ?_⟩
  · simp only [GS.set]; rw [upd_ne _ _ (by omega)]; rfl
  · intro i hi hk
    by_cases e : i = me
    · subst e; simp [GS.set, upd] at hk
    · simp only [GS.set, upd_ne _ _ e]; exact ⟨rfl, rfl⟩
  · intro i hi hk
    by_cases e : i = me
    · subst e; simp only [GS.set, upd_same]; omega
    · simp only [GS.set, upd_ne _ _ e] at hk; cases hk
  · intro i hi hs
    by_cases e : i = me
    · subst e; simp [GS.set, upd] at hs
    · simp only [GS.set, upd_ne _ _ e] at hs; cases hs

/-- The two gossips, side by side. -/
def Both (W : World) (g m me : Nat) (ticks : Int) (L : Nat) (P : Nat → Option Nat) (G : GS) (V U : Nat → Int) (w : World) : Prop :=
  GossipAt w g me ticks L G V ∧ RefAt w m me ticks L P G U ∧ GOk me ticks L G V U ∧ Below W.heap.size W w ∧ W.heap.size ≤ g ∧ g < m
theorem Both.below {W : World} {g m me : Nat} {ticks : Int} {L : Nat} {P : Nat → Option Nat} {G : GS} {V U : Nat → Int} {w w' : World} (h : Both W g m me ticks L P G V U w) (hb : Below w.heap.size w w') : Both W g m me ticks L P G V U w' :=
  ⟨h.1.below hb, h.2.1.below hb, h.2.2.1, h.2.2.2.1.trans (hb.mono h.2.2.2.1.size), h.2.2.2.2⟩
/-- One that is told. -/
def Told (W : World) (v : Value) : Prop := ∃ A c l, v = .slice A l.length c ∧ Row W W.heap.size A (flat grC l) ∧ l.length ≤ maxLen

section
variable {W : World} {g m me : Nat} {ticks : Int} {L : Nat} {P : Nat → Option Nat} {G : GS} {V U : Nat → Int} {w w' : World}
/-- One gossip alone has turned. -/
theorem Both.x (h : Both W g m me ticks L P G V U w) (ho : Only (· = g) w w') : RefAt w' m me ticks L P G U ∧ Below W.heap.size W w' :=
  ⟨h.2.1.only ho h.2.2.2.2.2, ho.to_below h.2.2.2.1 h.2.2.2.1.size fun i hi => by have := h.2.2.2.2.1; omega⟩
theorem GossipAt.under (h : GossipAt w g me ticks L G V) (hb : Below m w w') (hg : g < m) : GossipAt w' g me ticks L G V := h.same (hb.block g hg)
end
def ptr9 (P : Nat → Option Nat) : Array Value := #[.pointer ((P 0).map fun b => ⟨b, 0, none⟩), .pointer ((P 1).map fun b => ⟨b, 0, none⟩), .pointer ((P 2).map fun b => ⟨b, 0, none⟩), .pointer ((P 3).map fun b => ⟨b, 0, none⟩), .pointer ((P 4).map fun b => ⟨b, 0, none⟩), .pointer ((P 5).map fun b => ⟨b, 0, none⟩), .pointer ((P 6).map fun b => ⟨b, 0, none⟩), .pointer ((P 7).map fun b => ⟨b, 0, none⟩), .pointer ((P 8).map fun b => ⟨b, 0, none⟩)]
theorem idx_ptr (P : Nat → Option Nat) (w : World) : ∀ k : Nat, k < 9 → (Instr.index 59 (.agg (ptr9 P)) (.int .i64 k)).run Try.prog w = .ok (.pointer ((P k).map fun b => ⟨b, 0, none⟩)) w
  | 0, _ => by unfold ptr9; simp [Instr.index, run_underlying Try.underlying59, asIntOf, go_sem]
  | 1, _ => by unfold ptr9; simp [Instr.index, run_underlying Try.underlying59, asIntOf, go_sem]
  | 2, _ => by unfold ptr9; simp [Instr.index, run_underlying Try.underlying59, asIntOf, go_sem]
  | 3, _ => by unfold ptr9; simp [Instr.index, run_underlying Try.underlying59, asIntOf, go_sem]
  | 4, _ => by unfold ptr9; simp [Instr.index, run_underlying Try.underlying59, asIntOf, go_sem]
  | 5, _ => by unfold ptr9; simp [Instr.index, run_underlying Try.underlying59, asIntOf, go_sem]
  | 6, _ => by unfold ptr9; simp [Instr.index, run_underlying Try.underlying59, asIntOf, go_sem]
  | 7, _ => by unfold ptr9; simp [Instr.index, run_underlying Try.underlying59, asIntOf, go_sem]
  | 8, _ => by unfold ptr9; simp [Instr.index, run_underlying Try.underlying59, asIntOf, go_sem]
  | k + 9, h => by omega
theorem ptr_range {w : World} {m me : Nat} {ticks last : Int} {P : Nat → Option Nat} {G : GS} {U : Nat → Int} (h : RefAt w m me ticks last P G U) : w.rangeAt m 3 (ptr9 P).toList := fun j v hv => match j, hv with
  | 0, hv => by simp [ptr9] at hv; subst hv; exact h.p 0 (by omega)
  | 1, hv => by simp [ptr9] at hv; subst hv; exact h.p 1 (by omega)
  | 2, hv => by simp [ptr9] at hv; subst hv; exact h.p 2 (by omega)
  | 3, hv => by simp [ptr9] at hv; subst hv; exact h.p 3 (by omega)
  | 4, hv => by simp [ptr9] at hv; subst hv; exact h.p 4 (by omega)
  | 5, hv => by simp [ptr9] at hv; subst hv; exact h.p 5 (by omega)
  | 6, hv => by simp [ptr9] at hv; subst hv; exact h.p 6 (by omega)
  | 7, hv => by simp [ptr9] at hv; subst hv; exact h.p 7 (by omega)
  | 8, hv => by simp [ptr9] at hv; subst hv; exact h.p 8 (by omega)
  | j + 9, hv => by simp [ptr9] at hv
theorem tickG_same {me : Nat} {ticks last : Int} {G : GS} {V U : Nat → Int} (h : GOk me ticks last G V U) : tickG ticks G U 9 = tickG ticks G V 9 := by
  have := h.tick.2
  unfold tickG
  simp only [GS.mk.injEq, true_and]
  funext i
  by_cases hi : i < 9
  · rw [if_pos hi, if_pos hi, this i hi]
  · rw [if_neg hi, if_neg hi]

set_option maxRecDepth 100000 in
set_option maxHeartbeats 8000000 in
theorem gossipPlays_walk (me ticks : Int) (A B : Option Addr) (c d nt : Nat) (xss : List (List Int)) (W : World) (hr : IntRows W W.heap.size A xss) (hm : xss.length ≤ maxLen)
    (ht : nt ≤ maxLen) (hT : 0 < nt → ∃ b o, B = some ⟨b, o, none⟩ ∧ b < W.heap.size ∧ ∀ k, k < nt → ∃ v, W.cell? ⟨b, o + k, none⟩ = some v ∧ Told W v) :
    Calls Try.prog 4 #[.int .i64 me, .int .i64 ticks, .slice A xss.length c, .slice B nt d] W fun e w' => e = .returned (.bool true) ∧ Below W.heap.size W w' := by
  have HR := Lib.hid hr
  have HTT := Lib.hid hT
  unfold maxLen at hm
  clear hr hT
  have HN3 := Lib.hid (new_g 3 1 W (by decide) (by decide) (by decide) (by decide))
  go_enter Try.func4, Try.ntmps4
  go_wp2_with fail
  refine HN3.out.mono ?_
  rintro e w1 ⟨rfl, hb1, _, hg1⟩
  have HST := Lib.hid (state_g W.heap.size 3 1 0 (G00.set 3 0 1) (fun _ => 0) w1 hg1 rfl)
  rw [show rowsOf (G00.set 3 0 1) 9 = [((3 : Int), (0 : Int), (1 : Int))] from rfl] at HST
  have HG1 := Lib.hid hg1
  have HB1 := Lib.hid hb1
  clear hg1 hb1 HN3
  go_wp2_with fail
  refine HST.out.mono ?_
  rintro e w2 ⟨v2, rfl, hown2, hb2⟩
  obtain ⟨A2, c2, rfl, hr2, _⟩ := row_of_own_any hown2
  have HEQ := Lib.hid (equal_gr A2 (some ⟨w2.heap.size, 0, none⟩) c2 1 [((3 : Int), (0 : Int), (1 : Int))] [((3 : Int), (0 : Int), (1 : Int))] _ (w2.heap.size + 1) (w2.alloc (.cells #[.int .i64 3, .int .i64 0, .int .i64 1] 54)) ((hr2.below ((Below.refl _ _).alloc (Nat.le_refl _) _))) (fun _ => ⟨w2.heap.size, 0, rfl, by omega, fun i v hv => by rw [Nat.zero_add, (Box.new w2 54 #[.int .i64 3, .int .i64 0, .int .i64 1]).cell i, ← hv]; simp [flat, grC]⟩) (by decide) (by decide))
  have HG2 := Lib.hid ((HG1.out.below hb2).below ((Below.refl w2.heap.size w2).alloc (Nat.le_refl _) (.cells #[.int .i64 3, .int .i64 0, .int .i64 1] 54)))
  have HB2 := Lib.hid (((HB1.out.trans (hb2.mono HB1.out.size)).alloc (Nat.le_trans HB1.out.size hb2.size) (.cells #[.int .i64 3, .int .i64 0, .int .i64 1] 54)))
  clear hown2 hb2 hr2 HST HG1 HB1
  go_wp2_with fail
  refine HEQ.out.mono ?_
  rintro e w3 ⟨rfl, n3, rfl⟩
  simp only [decide_true]
  have HD := Lib.hid (doubt_any W.heap.size 3 1 0 (G00.set 3 0 1) (fun _ => 0) 3 _ (HG2.out.same (w' := (w2.alloc (.cells #[.int .i64 3, .int .i64 0, .int .i64 1] 54)).drewN n3) rfl))
  rw [show doubtE 3 (G00.set 3 0 1) 3 = 4 from rfl] at HD
  clear HEQ
  go_wp2_with fail
  refine HD.out.mono ?_
  rintro e w4 ⟨rfl, ho4, _⟩
  have hb4 : Below W.heap.size W w4 := ho4.to_below (below_drewN HB2.out n3) (below_drewN HB2.out n3).size (fun i hi => by omega)
  have HB4 := Lib.hid hb4
  clear HD ho4 HG2 HB2 hb4
  by_cases hbad : me < 1 ∨ 8 < me ∨ ticks < 1 ∨ 100 < ticks
  · have HNB := Lib.hid (new_bad me ticks w4 hbad)
    have HBAD := Lib.hid hbad
    clear hbad
    go_wp2_with fail
    refine HNB.out.mono ?_
    rintro e w5 ⟨rfl, rfl⟩
    have hbad := HBAD.out
    by_cases e1 : me < 1
    · have d1 : decide (me < 1) = true := by simp; omega
      clear hbad
      go_wp2_with fail
      go_ret
      exact ⟨rfl, HB4.out⟩
    have d1 : decide (me < 1) = false := by simp; omega
    by_cases e2 : 8 < me
    · have d2 : decide (8 < me) = true := by simp; omega
      clear hbad
      go_wp2_with fail
      go_ret
      exact ⟨rfl, HB4.out⟩
    have d2 : decide (8 < me) = false := by simp; omega
    by_cases e3 : ticks < 1
    · have d3 : decide (ticks < 1) = true := by simp; omega
      clear hbad
      go_wp2_with fail
      go_ret
      exact ⟨rfl, HB4.out⟩
    have d3 : decide (ticks < 1) = false := by simp; omega
    have d4 : decide (100 < ticks) = true := by simp; omega
    clear hbad
    go_wp2_with fail
    go_ret
    exact ⟨rfl, HB4.out⟩
  · obtain ⟨me, rfl⟩ := Int.eq_ofNat_of_zero_le (show 0 ≤ me by omega)
    have m1 : 1 ≤ me := by omega
    have m8 : me ≤ 8 := by omega
    have t1 : 1 ≤ ticks := by omega
    have t2 : ticks ≤ 100 := by omega
    have d1 : decide ((me : Int) < 1) = false := by simp; omega
    have d2 : decide ((8 : Int) < (me : Int)) = false := by simp; omega
    have d2' : decide (8 < me) = false := by simp; omega
    have d3 : decide (ticks < 1) = false := by simp; omega
    have d4 : decide (100 < ticks) = false := by simp; omega
    have HNG := Lib.hid (new_g me ticks w4 m1 m8 t1 t2)
    have hme9 : (me : Int) < 9 := by omega
    have hme0 : (0 : Int) ≤ (me : Int) := by omega
    clear hbad
    go_wp2_with fail
    refine HNG.out.mono ?_
    rintro e w5 ⟨rfl, hb5, hs5, hg5⟩
    have hgW : W.heap.size ≤ w4.heap.size := HB4.out.size
    have hbW5 := HB4.out.trans (hb5.mono HB4.out.size)
    generalize w4.heap.size = g at *
    clear HNG HB4 hb5
    go_upto_region 10 with fail
    have hm5 := ref_new w5 me ticks
    have hbA : Below w5.heap.size w5 (w5.alloc (.cells (z12 me ticks) 61)) := (Below.refl _ _).alloc (Nat.le_refl _) _
    have hg6 := hg5.below hbA
    have hb6 := hbW5.trans (hbA.mono hbW5.size)
    unfold z12 at hm5 hg6 hb6
    clear hbA hg5 hbW5
    generalize w5.heap.size = m at *
    generalize w5.alloc (.cells #[.int .i64 (me : Int), .int .i64 ticks, .int .i64 0, .pointer none, .pointer none, .pointer none, .pointer none, .pointer none, .pointer none, .pointer none, .pointer none, .pointer none] 61) = w6 at *
    have hml := hm5.lt
    have hpm := hm5.p me (by omega)
    have hpf := hm5.frozen (3 + me)
    have hput := hm5.put (n := me) (by omega) 0 1
    have hsw := World.setCell_alloc_past (w := w6) (.cells #[.int .i64 (me : Int), .int .i64 0, .int .i64 1, .int .i64 0] 63) m (3 + me) (.pointer (some ⟨w6.heap.size, 0, none⟩)) hml
    have hap : (w6.alloc (.cells #[.int .i64 (me : Int), .int .i64 0, .int .i64 1, .int .i64 0] 63)).cell? ⟨m, 3 + me, none⟩ = some (.pointer none) := (World.cell?_alloc_lt w6 _ ⟨m, 3 + me, none⟩ hml).trans hpm
    have haf := (hm5.below ((Below.refl w6.heap.size w6).alloc (Nat.le_refl _) (.cells #[.int .i64 (me : Int), .int .i64 0, .int .i64 1, .int .i64 0] 63))).frozen (3 + me)
    have HBO : Hid (Both W g m me ticks 0 (upd (fun _ => none) me (some w6.heap.size)) (G00.set me 0 1) (fun _ => 0) (upd (fun _ => 0) me 0) ((w6.setCell ⟨m, 3 + me, none⟩ (.pointer (some ⟨w6.heap.size, 0, none⟩))).alloc (.cells #[.int .i64 (me : Int), .int .i64 0, .int .i64 1, .int .i64 0] 63))) := by
      rw [hsw] at hput
      refine ⟨?_, hput, gok_new me ticks m1 m8 t1 t2, ?_, hgW, hs5⟩
      · exact (hg6.same (w' := w6.setCell ⟨m, 3 + me, none⟩ (.pointer (some ⟨w6.heap.size, 0, none⟩))) (Below.heap_setCell w6 _ _ g (by show g ≠ m; omega))).below ((Below.refl _ _).alloc (Nat.le_refl _) _)
      · exact (hb6.setCell (by show W.heap.size ≤ m; omega) _).alloc (by have := hb6.size; simpa [World.setCell] using this) _
    have hmne : m ≠ w6.heap.size := by omega
    clear hput hsw hg6 hb6 hm5 hs5 hgW
    go_wp2_with fail
    go_loopg [94] xss.length (fun gk i wr => ∃ (k L : Nat) (P : Nat → Option Nat) (G : GS) (V U : Nat → Int), gk = xss.length - k ∧ k ≤ xss.length ∧ i = .int .i64 k ∧ Both W g m me ticks L P G V U wr)
    case atStart => exact ⟨0, 0, _, _, _, _, by omega, by omega, rfl, HBO.out⟩
    case round =>
      obtain ⟨k, L, P, G, V, U, hgk, hk, rfl, hbo⟩ := hrel
      have HK := Lib.hid hgk
      clear hgk HBO hpm hpf hap haf hml hmne
      by_cases hlt : k < xss.length
      · obtain ⟨b, o, a', c', rfl, hcell, hrow, hlm, hI⟩ := (HR.out.below hbo.2.2.2.1).at hlt
        generalize xss.getD k [] = xs at *
        have HA1 := Lib.hid (at_any a' xs.length c' xs 1 _ wr hrow rfl hlm (by decide))
        have HA0 := Lib.hid (at_any a' xs.length c' xs 0 _ wr hrow rfl hlm (by decide))
        have hI1 := I64.getD hI 1
        rw [show (1 : Int).toNat = 1 from rfl] at HA1
        rw [show (0 : Int).toNat = 0 from rfl] at HA0
        generalize xs.getD 1 0 = y at *
        generalize xs.getD 0 0 = z at *
        have HBO := Lib.hid hbo
        clear hrow hI hbo
        go_wp2_with fail
        refine HA1.out.mono ?_
        rintro e w' ⟨rfl, rfl⟩
        go_wp2_with fail
        refine HA0.out.mono ?_
        rintro e w' ⟨rfl, rfl⟩
        clear HA1 HA0
        by_cases z1 : z = 1
        case pos =>
          have b1 : (z == 1) = true := by simp [z1]
          clear z1
          have HPK := Lib.hid (pick_any B d nt y wr ht (Told W) ⟨none, 0, [], rfl, Row.nil, by simp⟩ (fun h => by
            obtain ⟨b, o, e, hb, hk⟩ := HTT.out h
            exact ⟨b, o, e, fun k hk' => by
              obtain ⟨v, hv, hv2⟩ := hk k hk'
              exact ⟨v, (HBO.out.2.2.2.1.cell (p := ⟨b, o + k, none⟩) hb).trans hv, hv2⟩⟩))
          go_wp2_with fail
          refine HPK.out.mono ?_
          rintro e w' ⟨v, rfl, ⟨A1, c1, l, rfl, hrl, hll⟩, rfl⟩
          clear HPK
          have hWg := HBO.out.2.2.2.2.1
          have hgm := HBO.out.2.2.2.2.2
          by_cases hf : rowsFault l = 0
          · have HME := Lib.hid (merge_ok g me ticks L G V A1 c1 W.heap.size l wr HBO.out.1 (hrl.below HBO.out.2.2.2.1) hWg hll hf m8)
            have HHE := Lib.hid (fun (w2 : World) (h2 : RefAt w2 m me ticks L P G U) (h3 : Below W.heap.size W w2) => heard_any m me W.heap.size ticks L P G U A1 c1 l w2 h2 (hrl.below h3) (by omega) hll)
            rw [hf, if_pos rfl, if_pos rfl] at HHE
            have HOKK := Lib.hid (show GOk me ticks L (heardG me G l) (heardV me G V l) (heardW me G U l) from HBO.out.2.2.1.heard l (by
              unfold rowsFault at hf
              split at hf
              · cases hf
              · exact rowsF_ok _ l hf))
            clear hf hrl hll
            go_wp2_with fail
            refine HME.out.mono ?_
            rintro e w2 ⟨rfl, ho2, hg2⟩
            have HX := Lib.hid (HBO.out.x ho2)
            have HG2 := Lib.hid hg2
            clear ho2 hg2 HME
            go_wp2_with fail
            refine (HHE.out w2 HX.out.1 HX.out.2).mono ?_
            rintro e w3 ⟨rfl, hb3, P3, hm3⟩
            have HBN := Lib.hid (show Both W g m me ticks L P3 (heardG me G l) (heardV me G V l) (heardW me G U l) w3 from ⟨HG2.out.under hb3 hgm, hm3, HOKK.out, HX.out.2.trans (hb3.mono (by omega)), hWg, hgm⟩)
            clear hb3 hm3 HHE HX HG2 HOKK
            go_wp2_with fail
            refine (gossipTells_any g m me ticks L L P3 (heardG me G l) (heardV me G V l) (heardW me G U l) _ HBN.out.1 HBN.out.2.1 HBN.out.2.2.1.k0).mono ?_
            rintro e w9 ⟨rfl, hb9⟩
            have HB9 := Lib.hid (HBN.out.below hb9)
            clear hb9
            go_wp2_with fail
            go_roundg (xss.length - (k + 1))
            case measure => have := HK.out; omega
            case rel => exact ⟨k + 1, _, _, _, _, _, rfl, by omega, by go_num, HB9.out⟩
          · have HME := Lib.hid (merge_bad g me ticks L G V A1 c1 W.heap.size l wr HBO.out.1 (hrl.below HBO.out.2.2.2.1) hWg hll hf)
            have HHE := Lib.hid (fun (w2 : World) (h2 : RefAt w2 m me ticks L P G U) (h3 : Below W.heap.size W w2) => heard_any m me W.heap.size ticks L P G U A1 c1 l w2 h2 (hrl.below h3) (by omega) hll)
            rw [if_neg hf, if_neg hf] at HHE
            generalize rowsFault l = f at *
            clear hf hrl hll
            go_wp2_with fail
            refine HME.out.mono ?_
            rintro e w2 ⟨rfl, ho2, hg2⟩
            have HX := Lib.hid (HBO.out.x ho2)
            have HG2 := Lib.hid hg2
            clear ho2 hg2 HME
            go_wp2_with fail
            refine (HHE.out w2 HX.out.1 HX.out.2).mono ?_
            rintro e w3 ⟨rfl, hb3, P3, hm3⟩
            have HBN := Lib.hid (show Both W g m me ticks L P3 G V U w3 from ⟨HG2.out.under hb3 hgm, hm3, HBO.out.2.2.1, HX.out.2.trans (hb3.mono (by omega)), hWg, hgm⟩)
            clear hb3 hm3 HHE HX HG2
            go_wp2_with fail
            refine (gossipTells_any g m me ticks L L P3 G V U _ HBN.out.1 HBN.out.2.1 HBN.out.2.2.1.k0).mono ?_
            rintro e w9 ⟨rfl, hb9⟩
            have HB9 := Lib.hid (HBN.out.below hb9)
            clear hb9
            go_wp2_with fail
            go_roundg (xss.length - (k + 1))
            case measure => have := HK.out; omega
            case rel => exact ⟨k + 1, _, _, _, _, _, rfl, by omega, by go_num, HB9.out⟩
        have b1 : (z == 1) = false := by simp [z1]
        by_cases z2 : z = 2
        case pos =>
          have b2 : (z == 2) = true := by simp [z2]
          clear z1 z2
          by_cases y1 : y < 1
          · have e1 : decide (1 ≤ y) = false := by simp; omega
            have HDB := Lib.hid (doubt_any g me ticks L G V y wr HBO.out.1)
            rw [show doubtE me G y = 4 by unfold doubtE kn isN; rw [show decide (1 ≤ y ∧ y ≤ 8) = false by simp; omega]; simp, if_neg (by decide), if_neg (by decide)] at HDB
            clear y1
            go_wp2_with fail
            refine HDB.out.mono ?_
            rintro e w2 ⟨rfl, ho2, hg2⟩
            have HBN := Lib.hid (show Both W g m me ticks L P G V U w2 from ⟨hg2, (HBO.out.x ho2).1, HBO.out.2.2.1, (HBO.out.x ho2).2, HBO.out.2.2.2.2⟩)
            clear ho2 hg2 HDB

            go_wp2_with fail
            refine (gossipTells_any g m me ticks L L P G V U _ HBN.out.1 HBN.out.2.1 HBN.out.2.2.1.k0).mono ?_
            rintro e w9 ⟨rfl, hb9⟩
            have HB9 := Lib.hid (HBN.out.below hb9)
            clear hb9
            go_wp2_with fail
            go_roundg (xss.length - (k + 1))
            case measure => have := HK.out; omega
            case rel => exact ⟨k + 1, _, _, _, _, _, rfl, by omega, by go_num, HB9.out⟩
          have e1 : decide (1 ≤ y) = true := by simp; omega
          by_cases y8 : 8 < y
          · have e2 : decide (y ≤ 8) = false := by simp; omega
            have HDB := Lib.hid (doubt_any g me ticks L G V y wr HBO.out.1)
            rw [show doubtE me G y = 4 by unfold doubtE kn isN; rw [show decide (1 ≤ y ∧ y ≤ 8) = false by simp; omega]; simp, if_neg (by decide), if_neg (by decide)] at HDB
            clear y1 y8
            go_wp2_with fail
            refine HDB.out.mono ?_
            rintro e w2 ⟨rfl, ho2, hg2⟩
            have HBN := Lib.hid (show Both W g m me ticks L P G V U w2 from ⟨hg2, (HBO.out.x ho2).1, HBO.out.2.2.1, (HBO.out.x ho2).2, HBO.out.2.2.2.2⟩)
            clear ho2 hg2 HDB

            go_wp2_with fail
            refine (gossipTells_any g m me ticks L L P G V U _ HBN.out.1 HBN.out.2.1 HBN.out.2.2.1.k0).mono ?_
            rintro e w9 ⟨rfl, hb9⟩
            have HB9 := Lib.hid (HBN.out.below hb9)
            clear hb9
            go_wp2_with fail
            go_roundg (xss.length - (k + 1))
            case measure => have := HK.out; omega
            case rel => exact ⟨k + 1, _, _, _, _, _, rfl, by omega, by go_num, HB9.out⟩
          have e2 : decide (y ≤ 8) = true := by simp; omega
          obtain ⟨n, rfl⟩ := Int.eq_ofNat_of_zero_le (show 0 ≤ y by omega)
          have hn9 : n < 9 := by omega
          have hn1 : (n : Int) < 9 := by omega
          have hn0 : (0 : Int) ≤ (n : Int) := by omega
          by_cases ym : n = me
          · have e3 : ((n : Int) != (me : Int)) = false := by simp [ym]
            have e3' : (n != me) = false := by simp [ym]
            have HDB := Lib.hid (doubt_any g me ticks L G V n wr HBO.out.1)
            rw [show doubtE me G n = 4 by unfold doubtE; rw [if_pos (.inr (by rw [ym]))], if_neg (by decide), if_neg (by decide)] at HDB
            clear y1 y8 ym
            go_wp2_with fail
            refine HDB.out.mono ?_
            rintro e w2 ⟨rfl, ho2, hg2⟩
            have HBN := Lib.hid (show Both W g m me ticks L P G V U w2 from ⟨hg2, (HBO.out.x ho2).1, HBO.out.2.2.1, (HBO.out.x ho2).2, HBO.out.2.2.2.2⟩)
            clear ho2 hg2 HDB

            go_wp2_with fail
            refine (gossipTells_any g m me ticks L L P G V U _ HBN.out.1 HBN.out.2.1 HBN.out.2.2.1.k0).mono ?_
            rintro e w9 ⟨rfl, hb9⟩
            have HB9 := Lib.hid (HBN.out.below hb9)
            clear hb9
            go_wp2_with fail
            go_roundg (xss.length - (k + 1))
            case measure => have := HK.out; omega
            case rel => exact ⟨k + 1, _, _, _, _, _, rfl, by omega, by go_num, HB9.out⟩
          have e3 : ((n : Int) != (me : Int)) = true := by simp; omega
          have e3' : (n != me) = true := by simp [ym]
          have hp := HBO.out.2.1.p n hn9
          have hKn := HBO.out.2.1.k n hn9
          have hRn := HBO.out.2.1.r n hn9
          cases hPn : P n with
          | none =>
            rw [hPn] at hp hKn
            simp only [Option.map_none] at hp
            have HDB := Lib.hid (doubt_any g me ticks L G V n wr HBO.out.1)
            rw [show doubtE me G n = 4 by unfold doubtE kn; rw [Int.toNat_natCast, hKn]; simp, if_neg (by decide), if_neg (by decide)] at HDB
            clear y1 y8 ym hKn hRn hPn
            go_wp2_with fail
            refine HDB.out.mono ?_
            rintro e w2 ⟨rfl, ho2, hg2⟩
            have HBN := Lib.hid (show Both W g m me ticks L P G V U w2 from ⟨hg2, (HBO.out.x ho2).1, HBO.out.2.2.1, (HBO.out.x ho2).2, HBO.out.2.2.2.2⟩)
            clear ho2 hg2 HDB

            go_wp2_with fail
            refine (gossipTells_any g m me ticks L L P G V U _ HBN.out.1 HBN.out.2.1 HBN.out.2.2.1.k0).mono ?_
            rintro e w9 ⟨rfl, hb9⟩
            have HB9 := Lib.hid (HBN.out.below hb9)
            clear hb9
            go_wp2_with fail
            go_roundg (xss.length - (k + 1))
            case measure => have := HK.out; omega
            case rel => exact ⟨k + 1, _, _, _, _, _, rfl, by omega, by go_num, HB9.out⟩
          | some b =>
            rw [hPn] at hp hKn
            simp only [Option.map_some] at hp
            simp only [Option.isSome_some] at hKn
            have hB := hRn b hPn
            have c2 := hB.cell 2
            have b3 := hB.cell 3
            have f2 := hB.frozen 2
            have f3 := hB.frozen 3
            simp only [List.getElem?_toArray, List.getElem?_cons_zero, List.getElem?_cons_succ] at c2 b3
            have hkn : kn G n = true := by unfold kn isN; rw [Int.toNat_natCast, hKn, show decide (1 ≤ (n : Int) ∧ (n : Int) ≤ 8) = true by simp; omega]; rfl
            by_cases hS : G.S n = 1
            · have HDE := Lib.hid (show doubtE me G n = 0 by unfold doubtE; rw [if_neg (by rw [hkn]; simp; omega), Int.toNat_natCast, if_neg (fun h => h hS)])
              have hR2 := (HBO.out.2.1.say hn9 hPn 2).wait hn9 hPn 0
              have hbm := HBO.out.2.1.up n hn9 b hPn
              have hgm := HBO.out.2.2.2.2.2
              have hWg := HBO.out.2.2.2.2.1
              have HOKK := Lib.hid (HBO.out.2.2.1.doubt (i := n) hKn ym)
              have HG2 := Lib.hid (show GossipAt ((wr.setCell ⟨b, 2, none⟩ (.int .i64 2)).setCell ⟨b, 3, none⟩ (.int .i64 0)) g me ticks L G V from (HBO.out.1.same (Below.heap_setCell wr ⟨b, 2, none⟩ _ g (by show g ≠ b; omega))).same (Below.heap_setCell _ ⟨b, 3, none⟩ _ g (by show g ≠ b; omega)))
              have HB2 := Lib.hid (show Below W.heap.size W ((wr.setCell ⟨b, 2, none⟩ (.int .i64 2)).setCell ⟨b, 3, none⟩ (.int .i64 0)) from (HBO.out.2.2.2.1.setCell (by show W.heap.size ≤ b; omega) _).setCell (by show W.heap.size ≤ b; omega) _)
              have HR2 := Lib.hid hR2
              rw [hS] at c2
              have HDB := Lib.hid (fun w' h' => doubt_any g me ticks L G V n w' h')
              rw [HDE.out, if_pos rfl, if_pos rfl, Int.toNat_natCast] at HDB
              clear y1 y8 ym hKn hRn hPn hkn hS hR2 hB
              go_wp2_with fail
              go_region
              go_wp2_with fail
              refine (HDB.out ((wr.setCell ⟨b, 2, none⟩ (.int .i64 2)).setCell ⟨b, 3, none⟩ (.int .i64 0)).drew (GossipAt.same HG2.out rfl)).mono ?_
              rintro e w2 ⟨rfl, ho2, hg2⟩
              have HBN := Lib.hid (show Both W g m me ticks L P (G.say n 2) (upd V n 0) (upd U n 0) w2 from ⟨hg2, (RefAt.same (w := (wr.setCell ⟨b, 2, none⟩ (.int .i64 2)).setCell ⟨b, 3, none⟩ (.int .i64 0)) HR2.out (fun b' hb' hl' => ho2.block b' hl' (by omega))), HOKK.out, ho2.to_below (below_drewN HB2.out 1) (below_drewN HB2.out 1).size (fun i hi => by omega), hWg, hgm⟩)
              clear ho2 hg2 HDB HR2 HG2 HB2
              go_wp2_with fail
              refine (gossipTells_any g m me ticks L L P (G.say n 2) (upd V n 0) (upd U n 0) _ HBN.out.1 HBN.out.2.1 HBN.out.2.2.1.k0).mono ?_
              rintro e w9 ⟨rfl, hb9⟩
              have HB9 := Lib.hid (HBN.out.below hb9)
              clear hb9
              go_wp2_with fail
              go_roundg (xss.length - (k + 1))
              case measure => have := HK.out; omega
              case rel => exact ⟨k + 1, _, _, _, _, _, rfl, by omega, by go_num, HB9.out⟩
            · have bS : (G.S n == 1) = false := by simp [hS]
              have HDB := Lib.hid (doubt_any g me ticks L G V n wr HBO.out.1)
              rw [show doubtE me G n = 8 by unfold doubtE; rw [if_neg (by rw [hkn]; simp; omega), Int.toNat_natCast, if_pos hS], if_neg (by decide), if_neg (by decide)] at HDB
              generalize G.S n = Sn at *
              clear y1 y8 ym hKn hRn hPn hkn hS hB
              go_wp2_with fail
              refine HDB.out.mono ?_
              rintro e w2 ⟨rfl, ho2, hg2⟩
              have HBN := Lib.hid (show Both W g m me ticks L P G V U w2 from ⟨hg2, (HBO.out.x ho2).1, HBO.out.2.2.1, (HBO.out.x ho2).2, HBO.out.2.2.2.2⟩)
              clear ho2 hg2 HDB

              go_wp2_with fail
              refine (gossipTells_any g m me ticks L L P G V U _ HBN.out.1 HBN.out.2.1 HBN.out.2.2.1.k0).mono ?_
              rintro e w9 ⟨rfl, hb9⟩
              have HB9 := Lib.hid (HBN.out.below hb9)
              clear hb9
              go_wp2_with fail
              go_roundg (xss.length - (k + 1))
              case measure => have := HK.out; omega
              case rel => exact ⟨k + 1, _, _, _, _, _, rfl, by omega, by go_num, HB9.out⟩
        have b2 : (z == 2) = false := by simp [z2]
        by_cases z3 : z = 3
        case pos =>
          have b3 : (z == 3) = true := by simp [z3]
          clear z1 z2 z3
          have HTK := Lib.hid (tick_g g me ticks L G V wr HBO.out.1 (fun i hi h2 => (HBO.out.2.2.1.wait i hi h2).2))
          have hWg := HBO.out.2.2.2.2.1
          have hgm := HBO.out.2.2.2.2.2
          go_wp2_with fail
          refine HTK.out.mono ?_
          rintro e w1 ⟨rfl, ho1, hg1⟩
          have HX := Lib.hid (HBO.out.x ho1)
          have HG1 := Lib.hid hg1
          have HRNG := Lib.hid (ptr_range HX.out.1)
          have HIDX := Lib.hid (fun k hk w => idx_ptr P w k hk)
          rw [show ptr9 P = (ptr9 P).toList.toArray by simp] at HIDX
          have HSI := Lib.hid (show (Try.prog.info? 59).map (·.size) = some (ptr9 P).toList.length by kernel_rfl)
          generalize (ptr9 P).toList = AL at *
          clear ho1 hg1 HTK
          go_wp2_with (guard_target =~ wpList _ _ _ ({ dst := some 175, op := _, type := _, pos := _, after := _, guard := _ } :: _) _ _; refine wpList_load_mid rfl 59 (.tmp 174) rfl m 3 rfl AL _ HRNG.out Try.underlying59 rfl HSI.out ?_)
          go_loopg [176] 9 (fun gj i w2 => ∃ j : Nat, gj = 9 - j ∧ j ≤ 9 ∧ i = .int .i64 j ∧ RefAt w2 m me ticks L P (tickG ticks G U j) (tickVs G U j) ∧ Below m w1 w2)
          case atStart => exact ⟨0, by omega, by omega, rfl, HX.out.1, Below.refl _ _⟩
          case round =>
            obtain ⟨j, hgj, hj, rfl, hm2, hb2⟩ := hrel
            have HJ := Lib.hid hgj
            clear hgj
            by_cases hj9 : j < 9
            · obtain ⟨e1, e2, e3, e4⟩ := tickG_succ ticks G U j
              have hidx := HIDX.out j hj9
              have hj1 : (j : Int) < 9 := by omega
              have HE3 := Lib.hid e3
              have HE4 := Lib.hid e4
              cases hPj : P j with
              | none =>
                rw [hPj] at hidx
                simp only [Option.map_none] at hidx
                have hS0 : G.S j ≠ 2 := by
                  have hk := HBO.out.2.1.k j hj9
                  rw [hPj] at hk
                  have := (HBO.out.2.2.1.off j hj9 hk).2
                  omega
                have HH := Lib.hid (HE3.out hS0)
                clear e1 e2 e3 e4 hS0 hPj HE3 HE4
                go_wp2_with fail
                go_roundg (9 - (j + 1))
                case measure => have := HJ.out; omega
                case rel => exact ⟨j + 1, rfl, by omega, by go_num, by rw [HH.out.1, HH.out.2]; exact hm2, hb2⟩
              | some b =>
                rw [hPj] at hidx
                simp only [Option.map_some] at hidx
                have hB := hm2.r j hj9 b hPj
                have hbm := hm2.up j hj9 b hPj
                have b2 := hB.cell 2
                have b3 := hB.cell 3
                have f2 := hB.frozen 2
                have f3 := hB.frozen 3
                simp only [List.getElem?_toArray, List.getElem?_cons_zero, List.getElem?_cons_succ] at b2 b3
                rw [e1] at b2
                rw [e2] at b3
                have HPJ := Lib.hid hPj
                have HM2 := Lib.hid hm2
                have HB2 := Lib.hid hb2
                clear e1 e2 e3 e4 hB hPj hm2 hb2
                by_cases hS : G.S j = 2
                · have hw := HBO.out.2.2.1.wait j hj9 hS
                  have hu0 : 0 ≤ U j := by omega
                  have hu1 : U j < 100 := by omega
                  have HH := Lib.hid (HE4.out hS)
                  have HR3 := Lib.hid (HM2.out.wait hj9 HPJ.out (U j + 1))
                  rw [hS] at b2
                  clear hw hS HE3 HE4
                  by_cases ht3 : ticks ≤ U j + 1
                  · have dt : decide (ticks ≤ U j + 1) = true := by simp; omega
                    have HH3 := Lib.hid (HH.out.2.1 ht3)
                    have HR4 := Lib.hid (HR3.out.say hj9 HPJ.out 3)
                    clear ht3
                    go_wp2_with fail
                    go_roundg (9 - (j + 1))
                    case measure => have := HJ.out; omega
                    case rel => exact ⟨j + 1, rfl, by omega, by go_num, by rw [HH3.out, HH.out.1]; exact HR4.out, (HB2.out.setCell (by show m ≤ b; omega) _).setCell (by show m ≤ b; omega) _⟩
                  · have dt : decide (ticks ≤ U j + 1) = false := by simp; omega
                    have HH3 := Lib.hid (HH.out.2.2 ht3)
                    clear ht3
                    go_wp2_with fail
                    go_roundg (9 - (j + 1))
                    case measure => have := HJ.out; omega
                    case rel => exact ⟨j + 1, rfl, by omega, by go_num, by rw [HH3.out, HH.out.1]; exact HR3.out, HB2.out.setCell (by show m ≤ b; omega) _⟩
                · have bS : (G.S j == 2) = false := by simp [hS]
                  have HH := Lib.hid (HE3.out hS)
                  generalize G.S j = Sj at *
                  clear hS HE3 HE4
                  go_wp2_with fail
                  go_roundg (9 - (j + 1))
                  case measure => have := HJ.out; omega
                  case rel => exact ⟨j + 1, rfl, by omega, by go_num, by rw [HH.out.1, HH.out.2]; exact HM2.out, HB2.out⟩
            · obtain rfl : j = 9 := by omega
              rw [tickG_same HBO.out.2.2.1] at hm2
              have HBN := Lib.hid (show Both W g m me ticks L P (tickG ticks G V 9) (tickVs G V 9) (tickVs G U 9) wr from ⟨HG1.out.under hb2 hgm, hm2, HBO.out.2.2.1.tick.1, HX.out.2.trans (hb2.mono (by omega)), hWg, hgm⟩)
              clear hm2 hb2
              go_wp2_with fail
              refine (gossipTells_any g m me ticks L L P (tickG ticks G V 9) (tickVs G V 9) (tickVs G U 9) _ HBN.out.1 HBN.out.2.1 HBN.out.2.2.1.k0).mono ?_
              rintro e w9 ⟨rfl, hb9⟩
              have HB9 := Lib.hid (HBN.out.below hb9)
              clear hb9
              go_wp2_with fail
              go_roundg (xss.length - (k + 1))
              case measure => have := HK.out; omega
              case rel => exact ⟨k + 1, _, _, _, _, _, rfl, by omega, by go_num, HB9.out⟩
        have b3 : (z == 3) = false := by simp [z3]
        by_cases z4 : z = 4
        case pos =>
          have b4 : (z == 4) = true := by simp [z4]
          clear z1 z2 z3 z4
          have hWg := HBO.out.2.2.2.2.1
          have hgm := HBO.out.2.2.2.2.2
          have hL8 : L ≤ 8 := by have := HBO.out.2.2.1.l8; omega
          have HNX := Lib.hid (next_g g me ticks L G V wr HBO.out.1 hL8 m8)
          have HAK := Lib.hid (fun w2 h2 => ask_any m me ticks L P G U w2 h2 hL8 (fun i hi hk => (HBO.out.2.2.1.on i hi hk).2.1))
          have hA8 := askF_le me L G 8 0
          generalize askF me L G 8 0 = q at *
          by_cases hq : q = 0
          · subst hq
            simp only [if_true] at HNX HAK
            go_wp2_with fail
            refine HNX.out.mono ?_
            rintro e w2 ⟨rfl, ho2, hg2⟩
            have HX := Lib.hid (HBO.out.x ho2)
            have HG2 := Lib.hid hg2
            clear ho2 hg2 HNX
            go_wp2_with fail
            refine (HAK.out w2 HX.out.1).mono ?_
            rintro e w3 ⟨rfl, hb3, hm3⟩
            have HBN := Lib.hid (show Both W g m me ticks L P G V U w3 from ⟨HG2.out.under hb3 hgm, hm3, HBO.out.2.2.1, HX.out.2.trans (hb3.mono (by omega)), hWg, hgm⟩)
            clear hb3 hm3 HAK HX HG2
            go_wp2_with fail
            refine (gossipTells_any g m me ticks L L P G V U _ HBN.out.1 HBN.out.2.1 HBN.out.2.2.1.k0).mono ?_
            rintro e w9 ⟨rfl, hb9⟩
            have HB9 := Lib.hid (HBN.out.below hb9)
            clear hb9
            go_wp2_with fail
            go_roundg (xss.length - (k + 1))
            case measure => have := HK.out; omega
            case rel => exact ⟨k + 1, _, _, _, _, _, rfl, by omega, by go_num, HB9.out⟩
          · rw [if_neg hq, if_neg hq] at HNX
            rw [if_neg hq] at HAK
            have q1 : decide ((0 : Int) < (q : Int)) = true := by simp; omega
            have q1' : decide (0 < q) = true := by simp; omega
            have q2 : ((q : Int) == 0) = false := by simp [hq]
            have q2' : (q == 0) = false := by simp [hq]
            have HOKK := Lib.hid (HBO.out.2.2.1.ask q hA8)
            clear hq
            go_wp2_with fail
            refine HNX.out.mono ?_
            rintro e w2 ⟨rfl, ho2, hg2⟩
            have HX := Lib.hid (HBO.out.x ho2)
            have HG2 := Lib.hid hg2
            clear ho2 hg2 HNX
            go_wp2_with fail
            refine (HAK.out w2 HX.out.1).mono ?_
            rintro e w3 ⟨rfl, hb3, hm3⟩
            have HBN := Lib.hid (show Both W g m me ticks q P G V U w3 from ⟨HG2.out.under hb3 hgm, hm3, HOKK.out, HX.out.2.trans (hb3.mono (by omega)), hWg, hgm⟩)
            clear hb3 hm3 HAK HX HG2
            go_wp2_with fail
            refine (gossipTells_any g m me ticks q q P G V U _ HBN.out.1 HBN.out.2.1 HBN.out.2.2.1.k0).mono ?_
            rintro e w9 ⟨rfl, hb9⟩
            have HB9 := Lib.hid (HBN.out.below hb9)
            clear hb9
            go_wp2_with fail
            go_roundg (xss.length - (k + 1))
            case measure => have := HK.out; omega
            case rel => exact ⟨k + 1, _, _, _, _, _, rfl, by omega, by go_num, HB9.out⟩
        have b4 : (z == 4) = false := by simp [z4]
        clear z1 z2 z3 z4
        have HBN := Lib.hid HBO.out

        go_wp2_with fail
        refine (gossipTells_any g m me ticks L L P G V U _ HBN.out.1 HBN.out.2.1 HBN.out.2.2.1.k0).mono ?_
        rintro e w9 ⟨rfl, hb9⟩
        have HB9 := Lib.hid (HBN.out.below hb9)
        clear hb9
        go_wp2_with fail
        go_roundg (xss.length - (k + 1))
        case measure => have := HK.out; omega
        case rel => exact ⟨k + 1, _, _, _, _, _, rfl, by omega, by go_num, HB9.out⟩
      · obtain rfl : k = xss.length := by omega
        go_wp2_with fail
        go_ret
        exact ⟨rfl, hbo.2.2.2.1⟩
end Go.Proofs.Ytaecgapoaagjfaa
