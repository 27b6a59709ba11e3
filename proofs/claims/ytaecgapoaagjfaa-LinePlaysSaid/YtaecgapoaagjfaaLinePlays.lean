/-
  The law LinePlays: its walk.
-/
import Derived.Test.YtaecgapoaagjfaaLineX13
import Derived.Deep.RegionLaw
import Derived.IntWalk
import Derived.Deep.CutBlock
import Derived.Deep.DeepCutAuto
namespace Go.Proofs.Ytaecgapoaagjfaa
open Go.RowKit

theorem outM_q (s : LS) (Q : List (Body × Bool)) (d : Bool) : ∀ k, outM { s with Q := Q, due := d } k = outM s k
  | 0 => rfl
  | k + 1 => by rw [outM, outM, outM_q s Q d k]
theorem outMX_q (s : LS) (Q : List (Body × Bool)) (d : Bool) : outMX { s with Q := Q, due := d } = outMX s := by
  unfold outMX
  rw [outM_q, show outN { s with Q := Q, due := d } = outN s from rfl]
  rfl
theorem come_keep (s : LS) (p : Pkt) : (bodyR (ackR s p) p).Q = s.Q ∧ (bodyR (ackR s p) p).I = s.I ∧ (bodyR (ackR s p) p).win = s.win ∧ (bodyR (ackR s p) p).ref = s.ref := by
  have h1 : (ackR s p).Q = s.Q ∧ (ackR s p).I = s.I ∧ (ackR s p).win = s.win ∧ (ackR s p).ref = s.ref := by
    unfold ackR
    split
    · exact ⟨rfl, rfl, rfl, rfl⟩
    · split <;> exact ⟨rfl, rfl, rfl, rfl⟩
  generalize ackR s p = t at *
  unfold bodyR
  split
  · split <;> exact h1
  · exact h1
theorem come_keep2 (s : LS) (p : Pkt) : (bodyX (ackX s p) p).win = s.win ∧ (bodyX (ackX s p) p).ref = s.ref := by
  have h1 : (ackX s p).win = s.win ∧ (ackX s p).ref = s.ref := by
    unfold ackX
    split
    · exact ⟨rfl, rfl⟩
    · split <;> exact ⟨rfl, rfl⟩
  generalize ackX s p = t at *
  unfold bodyX
  split
  · split <;> exact h1
  · exact h1
/-- A store into the packet's own block. -/
theorem pkt_store {w : World} {B0 g m gq : Nat} {s : LS} {r : LR} {f : Nat → Nat} {T : TypeId} {cs : Array Value} (h : LineAt w B0 g m s r f) (hq : f gq = 7) (hB : B0 ≤ gq) (hb : Box w gq T cs) (i : Nat) (v : Value) :
    Below B0 w (w.drew.setCell ⟨gq, i, none⟩ v) ∧ Box (w.drew.setCell ⟨gq, i, none⟩ v) gq T (cs.setIfInBounds i v) ∧ LineAt (w.drew.setCell ⟨gq, i, none⟩ v) B0 g m s r f :=
  ⟨(below_drewN (Below.refl B0 w) 1).setCell (p := ⟨gq, i, none⟩) hB v, hb.drew.set i v, h.keep (((Only.refl (fun b => 7 ≤ f b) w).drew).set (p := ⟨gq, i, none⟩) (by show 7 ≤ f gq; omega) v) (fun _ _ => rfl)⟩
/-- Both ends behind k plays. -/
def Play (W : World) (g m : Nat) (win : Int) (k : Nat) (w : World) : Prop := ∃ s r f, LineAt w W.heap.size g m s r f ∧ s.ref = true ∧ s.win = win ∧ LRel s k ∧ Below W.heap.size W w

set_option maxRecDepth 100000 in
set_option maxHeartbeats 8000000 in
theorem linePlays_walk (win : Int) (A B C : Option Addr) (c cB cC : Nat) (xss : List (List Int)) (lb : List BC) (bs : List Body) (lp : List KC) (ps : List Pkt) (W : World) (hr : IntRows W W.heap.size A xss) (hm : xss.length * 24 ≤ 140737488355328) (hbr : bodyRow W (· < W.heap.size) 0 B cB lb bs) (hpr : rpkRow W (· < W.heap.size) 0 C cC lp ps) (hu : ∀ p ∈ ps, (0 ≤ p.seq ∧ p.seq < 4294967296) ∧ 0 ≤ p.ack ∧ p.ack < 4294967296) :
    Calls Try.prog 5 #[.int .i64 win, .slice A xss.length c, .slice B lb.length cB, .slice C lp.length cC] W fun e w' => e = .returned (.bool true) ∧ Below W.heap.size W w' := by
  have HR := Lib.hid hr
  have HBR := Lib.hid hbr
  have HPR := Lib.hid hpr
  have HU := Lib.hid hu
  clear hr hbr hpr hu
  have HN1 := Lib.hid (newLine_any 1 W (by decide) (by decide))
  have h1 := line_alone W 1 W.heap.size (Nat.le_refl _)
  have hb1 : Below W.heap.size W (W.alloc (.cells #[.int .i64 1, .int .i64 1, .int .u32 0, .int .u32 0, .slice none 0 0, .slice none 0 0, .bool false] 276)) := (Below.refl _ _).alloc (Nat.le_refl _) _
  have HL1 := Lib.hid h1
  have HB1 := Lib.hid hb1
  have hsz1 : W.heap.size < (W.alloc (.cells #[.int .i64 1, .int .i64 1, .int .u32 0, .int .u32 0, .slice none 0 0, .slice none 0 0, .bool false] 276)).heap.size := by simp
  clear h1 hb1
  generalize hw1 : W.alloc (.cells #[.int .i64 1, .int .i64 1, .int .u32 0, .int .u32 0, .slice none 0 0, .slice none 0 0, .bool false] 276) = w1 at *
  clear hw1
  go_enter Try.func5, Try.ntmps5
  go_wp2_with fail
  refine HN1.out.mono ?_
  rintro e w1 ⟨rfl, rfl⟩
  clear HN1
  have h2 := HL1.out.below ((Below.refl w1.heap.size w1).alloc (Nat.le_refl _) (.cells #[.int .u8 7] 5))
  have HP1 := Lib.hid (put_x W.heap.size W.heap.size W.heap.size (ls0 1 false) lr0 _ ⟨some ⟨w1.heap.size, 0, none⟩, 1, 1⟩ [7] (fun _ => True) _ h2 (one_byte w1 7) (by simp; omega) (by decide) (by decide) (by decide))
  have HB2 := Lib.hid (HB1.out.alloc (by omega) (.cells #[.int .u8 7] 5))
  have hsz2 : W.heap.size ≤ (w1.alloc (.cells #[.int .u8 7] 5)).heap.size := by simp; omega
  clear h2 HL1 HB1 hsz1
  go_wp2_with fail
  refine HP1.out.mono ?_
  rintro e w2 ⟨rfl, hb2, r2, f2, h2⟩
  have hb2' := HB2.out.trans hb2
  have hsz3 : W.heap.size ≤ w2.heap.size := hb2'.size
  have h3 := h2.below ((Below.refl w2.heap.size w2).alloc (Nat.le_refl _) (.cells #[.int .u8 8] 5))
  have HP2 := Lib.hid (put_full W.heap.size W.heap.size W.heap.size _ _ _ ⟨some ⟨w2.heap.size, 0, none⟩, 1, 1⟩ _ h3 (by show 1 ≤ 1048576; decide) rfl)
  have HB3 := Lib.hid (hb2'.alloc hsz3 (.cells #[.int .u8 8] 5))
  clear h2 h3 HP1 hb2 hb2' HB2 hsz2
  go_wp2_with fail
  refine HP2.out.mono ?_
  rintro e w3 ⟨rfl, hb3, r3, f3, h3⟩
  have hb3' := HB3.out.trans hb3
  have HO1 := Lib.hid (out_x W.heap.size W.heap.size W.heap.size _ _ _ _ h3 hb3'.size (by decide) (by decide) (by decide) (by decide) (by decide) (by decide))
  have HB4 := Lib.hid hb3'
  clear h3 HP2 hb3 hb3' HB3 hsz3
  go_wp2_with fail
  refine HO1.out.mono ?_
  rintro e w4 ⟨A4, c4, l4, rfl, hl4, hb4, h4⟩
  have h4' : OutAt w4 W.heap.size w3.heap.size W.heap.size W.heap.size _ A4 c4 l4 [⟨0, 0, true, 1, [7]⟩] := h4
  obtain ⟨bp, op, rfl, x0, x2, hl⟩ := h4'.first hl4
  have HB5 := Lib.hid (HB4.out.trans hb4)
  rw [hl]
  clear h4 h4' hl4 hl hb4 HO1 HB4
  by_cases hbad : win < 1 ∨ 16 < win
  · have HNB := Lib.hid (newLine_bad win w4 hbad)
    have HBAD := Lib.hid hbad
    clear hbad
    go_wp2_with fail
    refine HNB.out.mono ?_
    rintro e w5 ⟨rfl, rfl⟩
    have hbad := HBAD.out
    by_cases e1 : win < 1
    · have d1 : decide (win < 1) = true := by simp; omega
      clear hbad
      go_wp2_with fail
      go_ret
      exact ⟨rfl, HB5.out⟩
    · have d1 : decide (win < 1) = false := by simp; omega
      have d2 : decide (16 < win) = true := by simp; omega
      clear hbad
      go_wp2_with fail
      go_ret
      exact ⟨rfl, HB5.out⟩
  · have hw1 : 1 ≤ win := by omega
    have hw2 : win ≤ 16 := by omega
    have d1 : decide (win < 1) = false := by simp; omega
    have d2 : decide (16 < win) = false := by simp; omega
    have HNG := Lib.hid (newLine_any win w4 hw1 hw2)
    have hP0 : Play W w4.heap.size (w4.heap.size + 1) win 0 ((w4.alloc (.cells #[.int .i64 win, .int .i64 win, .int .u32 0, .int .u32 0, .slice none 0 0, .slice none 0 0, .bool false] 276)).alloc (.cells #[.int .i64 win, .int .i64 win, .int .i64 0, .int .i64 0, .slice none 0 0, .int .i64 0, .int .i64 0, .slice none 0 0, .bool false] 88)) :=
      ⟨_, _, _, line_both w4 win W.heap.size HB5.out.size, rfl, rfl, rel_start win hw1 hw2, (HB5.out.alloc HB5.out.size _).alloc (by have := HB5.out.size; simp; omega) _⟩
    have HP0 := Lib.hid hP0
    clear hbad hP0
    go_wp2_with fail
    refine HNG.out.mono ?_
    rintro e w5 ⟨rfl, rfl⟩
    clear HNG HB5
    go_upto_region 13 with fail
    generalize w4.heap.size = g at *
    generalize (w4.alloc (.cells #[.int .i64 win, .int .i64 win, .int .u32 0, .int .u32 0, .slice none 0 0, .slice none 0 0, .bool false] 276)).alloc (.cells #[.int .i64 win, .int .i64 win, .int .i64 0, .int .i64 0, .slice none 0 0, .int .i64 0, .int .i64 0, .slice none 0 0, .bool false] 88) = w6 at *
    clear x0 x2
    generalize g + 1 = m at *
    go_wp2_with fail
    go_loopg [93] xss.length (fun gk i wr => ∃ k : Nat, gk = xss.length - k ∧ k ≤ xss.length ∧ i = .int .i64 k ∧ Play W g m win k wr)
    case atStart => exact ⟨0, by omega, by omega, rfl, HP0.out⟩
    case round =>
      obtain ⟨k, hgk, hk, rfl, hpl⟩ := hrel
      have HK := Lib.hid hgk
      have HPL := Lib.hid hpl
      clear hgk HP0
      by_cases hlt : k < xss.length
      · obtain ⟨s, r, f, hat, hrf, hsw, hrel, hbw⟩ := hpl
        obtain ⟨b, o, a', c', rfl, hcell, hrow, hlm, hI⟩ := (HR.out.below hbw).at hlt
        generalize xss.getD k [] = xs at *
        have HA1 := Lib.hid (at_any a' xs.length c' xs 1 _ wr hrow rfl hlm (by decide))
        have HA0 := Lib.hid (at_any a' xs.length c' xs 0 _ wr hrow rfl hlm (by decide))
        have HA2 := Lib.hid (fun (w' : World) (hrow' : Row w' W.heap.size a' (ints xs)) => at_any a' xs.length c' xs 2 _ w' hrow' rfl hlm (by decide))
        have HROW := Lib.hid hrow
        have hI1 := I64.getD hI 1
        rw [show (1 : Int).toNat = 1 from rfl] at HA1
        rw [show (0 : Int).toNat = 0 from rfl] at HA0
        generalize xs.getD 1 0 = y at *
        generalize xs.getD 0 0 = z at *
        have HAT := Lib.hid hat
        have HRF := Lib.hid hrf
        have HSW := Lib.hid hsw
        have HREL := Lib.hid hrel
        have HBW := Lib.hid hbw
        clear hrow hI hat hrf hsw hrel hbw HPL
        go_wp2_with fail
        refine HA1.out.mono ?_
        rintro e w' ⟨rfl, rfl⟩
        go_wp2_with fail
        refine HA0.out.mono ?_
        rintro e w' ⟨rfl, rfl⟩
        clear HA1 HA0
        go_upto_block 2 with fail
        go_cut [101] (fun _ wx => Play W g m win (k + 1) wx)
        case first =>
          obtain ⟨f, hf0, hat⟩ := HAT.out.zero
          have HF0 := Lib.hid hf0
          have HAT := Lib.hid hat
          clear hf0 hat
          have hqw := HREL.out.qw
          have hw2' := HREL.out.w2
          have hlen := Lib.hid HREL.out.len
          have hn3 := Lib.hid HAT.out.o3.1
          have hmB := HAT.out.hm
          have hgB := HAT.out.hg
          have hszr := HBW.out.size
          have hb0 := HREL.out.b0
          have hQ16 : s.Q.length ≤ 16 := by omega
          have haK := HREL.out.aK
          have hl3 : r.l3.length ≤ k := by rw [hn3.out]; exact haK
          by_cases z1 : z = 1
          case pos =>
            have b1 : (z == 1) = true := by simp [z1]
            clear z1
            have HPK := Lib.hid (pickBody B cB lb bs y (· < W.heap.size) wr (HBR.out.below HBW.out fun _ h => h))
            go_wp2_with fail
            refine HPK.out.mono ?_
            rintro e w' ⟨x, b', rfl, hx, rfl⟩
            have HX := Lib.hid hx
            have hxl := Lib.hid hx.1
            clear HPK hx
            by_cases hlg : 1048576 < x.len
            · as_aux_lemma =>
                have d1 : decide ((1048576 : Int) < (x.len : Int)) = true := by simp; omega
                have d1' : decide (1048576 < x.len) = true := by simp; omega
                have HPT := Lib.hid (put_large W.heap.size g m s r f x wr HAT.out hlg)
                go_wp2_with fail
                refine HPT.out.mono ?_
                rintro e w2 ⟨rfl, hb2, r2, f2, h2⟩
                have HPN := Lib.hid (show Play W g m win (k + 1) w2 from ⟨s, r2, f2, h2, HRF.out, HSW.out, HREL.out.more (by omega), HBW.out.trans hb2⟩)
                clear hb2 h2 HPT
                go_wp2_with fail
                go_meet
                exact HPN.out
            · have d1 : decide ((1048576 : Int) < (x.len : Int)) = false := by simp; omega
              have d1' : decide (1048576 < x.len) = false := by simp; omega
              obtain ⟨_, _, c2, _, c4, _, _, _, _⟩ := HAT.out.ms HRF.out
              have hwr : IntKind.i64.wrap ((r.l3.length : Int) - s.mbase) = (r.l3.length : Int) - s.mbase := IntWalk.i64_in _ (by have := hlen.out; have := hn3.out; omega)
              by_cases hf : (s.Q.length : Int) = s.win
              · as_aux_lemma =>
                  have bb : ((r.l3.length : Int) - s.mbase == win) = true := by rw [beq_iff_eq, hn3.out, ← hlen.out, ← HSW.out]; exact hf
                  have HPT := Lib.hid (fun (v : World) (hv : LineAt v W.heap.size g m s r f) => put_full W.heap.size g m s r f x v hv (by omega) hf)
                  clear hf
                  go_upto_region 24 with fail
                  go_quiet (fail)
                  clear hwr
                  have hq : LineAt (wr.drewN nq) W.heap.size g m s r f := HAT.out.below (below_drewN (Below.refl _ _) nq)
                  have hbq : Below W.heap.size W (wr.drewN nq) := below_drewN HBW.out nq
                  have HPQ := Lib.hid (HPT.out _ hq)
                  have HBQ := Lib.hid hbq
                  clear hq hbq HPT
                  go_wp2_with fail
                  refine HPQ.out.mono ?_
                  rintro e w2 ⟨rfl, hb2, r2, f2, h2⟩
                  have HPN := Lib.hid (show Play W g m win (k + 1) w2 from ⟨s, r2, f2, h2, HRF.out, HSW.out, HREL.out.more (by omega), HBQ.out.trans hb2⟩)
                  clear hb2 h2 HPQ
                  go_wp2_with fail
                  go_meet
                  exact HPN.out
              · have bb : ((r.l3.length : Int) - s.mbase == win) = false := by rw [beq_eq_false_iff_ne, hn3.out, ← hlen.out, ← HSW.out]; exact hf
                have HPT := Lib.hid (fun (r' : LR) (f' : Nat → Nat) (v : World) (hv : LineAt v W.heap.size g m { s with All := s.All ++ [b'] } r' f') (hx : BIn v (· < W.heap.size) 0 x b') (hB : W.heap.size ≤ v.heap.size) => put_x W.heap.size g m { s with All := s.All ++ [b'] } r' f' x b' _ v hv hx hB hQ16 (by rw [← hxl.out]; omega) hf)
                have HRN := Lib.hid (HREL.out.put b' (by rw [← hxl.out]; omega) hf)
                clear hf
                go_upto_region 24 with fail
                go_quiet (fail)
                clear hwr
                have hq : LineAt (wr.drewN nq) W.heap.size g m s r f := HAT.out.below (below_drewN (Below.refl _ _) nq)
                have hbq : Below W.heap.size W (wr.drewN nq) := below_drewN HBW.out nq
                have hxq : BIn (wr.drewN nq) (· < W.heap.size) 0 x b' := HX.out.keep (w := wr) (w' := wr.drewN nq) (fun _ _ => rfl) fun _ h => h
                go_upto_region 21 with fail
                clear c2 c4
                have hszq : W.heap.size ≤ (wr.drewN nq).heap.size := hszr
                generalize wr.drewN nq = wq at *
                obtain ⟨_, _, c2, _, c4, _, _, _, _⟩ := hq.ms HRF.out
                have hbk : (r.l3.length + 1) * 24 ≤ 140737488355328 := by omega
                have hmlq : m < wq.heap.size := (hq.y HRF.out).lt
                have HQ := Lib.hid hq
                have HXQ := Lib.hid hxq
                have HBQ := Lib.hid hbq
                clear hq hxq hbq
                go_upto_region 26 with (at_builtin; refine wpList_mk2_body rfl (.tmp 110) (.tmp 112) rfl W.heap.size (fun b => lab0 f wq.heap.size b = 0) 0 r.A3 r.c3 r.l3.length r.l3 s.All rfl rfl (HQ.out.wait3 _) wq.heap.size x b' rfl (body_new wq x) (fresh_low HQ.out.o3.2.1 HF0.out HXQ.out _) hbk (by simp; omega) ?_; intro A' c'' w9 hmk9 hb9 ho9 hA9; have ho9' := HQ.out.turned3 _ ho9; have c49 : w9.cell? ⟨m, 4, none⟩ = some (.slice r.A3 r.l3.length r.c3) := (ho9'.box (HQ.out.y HRF.out) (by rw [HQ.out.fm HRF.out]; omega)).cell 4; have fr49 := (ho9'.box (HQ.out.y HRF.out) (by rw [HQ.out.fm HRF.out]; omega)).frozen 4)
                have hL := HQ.out.put3 HRF.out ho9' hmk9 (fun b hb => by
                  rcases hA9 b hb with h1 | h1
                  · exact .inl (HQ.out.f3 b h1)
                  · simp at h1
                    exact .inr (by omega))
                rw [List.length_append, List.length_singleton] at hL
                have hb10 : Below W.heap.size wq (w9.setCell ⟨m, 4, none⟩ (.slice A' (r.l3.length + 1) c'')) := ((((Below.refl _ _).alloc hszq _).trans hb9)).setCell (p := ⟨m, 4, none⟩) hmB _
                have HPQ := Lib.hid (HPT.out _ _ _ hL (HXQ.out.below hb10 fun _ h => h) (Nat.le_trans hszq hb10.size))
                have HB10 := Lib.hid (HBQ.out.trans hb10)
                clear hL hb10 hmk9 hb9 ho9 hA9 ho9' c49 fr49 HPT
                go_wp2_with fail
                refine HPQ.out.mono ?_
                rintro e w2 ⟨rfl, hb2, r2, f2, h2⟩
                have HPN := Lib.hid (show Play W g m win (k + 1) w2 from ⟨_, r2, f2, h2, HRF.out, HSW.out, HRN.out, HB10.out.trans hb2⟩)
                clear hb2 h2 HPQ
                go_wp2_with fail
                go_meet
                exact HPN.out
          have b1 : (z == 1) = false := by simp [z1]
          clear z1
          by_cases z2 : z = 2
          case pos =>
            as_aux_lemma =>
              have b2 : (z == 2) = true := by simp [z2]
              clear z2
              have HO1 := Lib.hid (out_x W.heap.size g m s r f wr HAT.out hszr hQ16 ⟨by rw [HREL.out.lim]; exact HREL.out.l0, by rw [HREL.out.lim]; exact HREL.out.l16⟩ (by have h1 := HREL.out.rd; have h2 := HREL.out.rdw; omega) ⟨by have := HREL.out.w1; omega, hw2'⟩ (by rw [HREL.out.base]; unfold Go.Proofs.Ytaecgapoaagjfaa.u32; omega) HREL.out.sz)
              go_wp2_with fail
              refine HO1.out.mono ?_
              rintro e w2 ⟨A2, c2, l2, rfl, hl2, hb2, h2⟩
              have hrow2 := h2.row hl2
              obtain ⟨r2, f2, hat2, _, _⟩ := h2.ex
              have HROW2 := Lib.hid hrow2
              have HB2 := Lib.hid (HBW.out.trans hb2)
              have hml : m < wr.heap.size := (HAT.out.y HRF.out).lt
              have HO2 := Lib.hid (out_m W.heap.size g m _ r2 f2 w2 hat2 HRF.out HREL.out.b0 HREL.out.b1 (by show s.All.length ≤ _; omega) ⟨HREL.out.l0, HREL.out.l16⟩ (by have h1 := HREL.out.rd; have h2 := HREL.out.rdw; show 0 ≤ s.rd ∧ s.rd ≤ 16; omega) ⟨by have := HREL.out.w1; show 0 ≤ s.win; omega, hw2'⟩ (by have h1 := HREL.out.t0; have h2 := HREL.out.tq; show 0 ≤ s.told ∧ s.told ≤ 16; omega))
              rw [outMX_q] at HO2
              clear HO1 hrow2 hat2 h2 hb2
              go_wp2_with fail
              refine HO2.out.mono ?_
              rintro e w3 ⟨A3, c3, l3, rfl, hrow3, ho3, f3, hat3⟩
              have HEQ := Lib.hid (equalPkts A2 A3 c2 c3 l2 l3 _ _ w3 (wr.heap.size ≤ ·) (fun _ => True) (HROW2.out.lt.keep (w' := w3) (fun q hq => by simp only [World.cell?, ho3.block q.block hq.2 (fun e => by have h1 : wr.heap.size ≤ q.block := hq.1; have h2 : q.block = m := e; omega)]) (fun _ h => h.1)) hrow3 HREL.out.outs)
              have HB3 := Lib.hid (ho3.to_below HB2.out HB2.out.size (fun i hi => by have : i = m := hi; omega))
              have HAT3 := Lib.hid hat3
              clear hrow3 ho3 hat3 HO2
              go_wp2_with fail
              refine HEQ.out.mono ?_
              rintro e w4 ⟨rfl, hb4⟩
              have HPN := Lib.hid (show Play W g m win (k + 1) w4 from ⟨_, r2, f3, HAT3.out.below hb4, HRF.out, HSW.out, HREL.out.out.more (by omega), HB3.out.trans (hb4.mono HB3.out.size)⟩)
              clear hb4 HEQ
              go_wp2_with fail
              go_meet
              exact HPN.out
          have b2 : (z == 2) = false := by simp [z2]
          clear z2
          by_cases z3 : z = 3
          case pos =>
            have b3 : (z == 3) = true := by simp [z3]
            clear z3
            have HPK := Lib.hid (pickPkt C cC lp ps y (· < W.heap.size) wr (HPR.out.below HBW.out fun _ h => h) HU.out)
            go_wp2_with fail
            refine HPK.out.mono ?_
            rintro e w2 ⟨x, p, rfl, hx, hpu, hb2⟩
            have hbW2 : Below W.heap.size W w2 := HBW.out.trans (hb2.mono hszr)
            have hx2 : KIn w2 (· < W.heap.size) 0 x p := hx.keep (fun q hq => (hb2.mono hszr).cell hq) fun _ h => h
            have hat2 := HAT.out.below hb2
            have hrow2 : Row w2 W.heap.size a' (ints xs) := HROW.out.below (hb2.mono hszr)
            obtain ⟨⟨x1, x2, x3, x4⟩, hxb⟩ := hx2
            unfold rpkV
            rw [x1, x2, x3, x4]
            have hbA : Below w2.heap.size w2 (w2.alloc (.cells #[.int .u32 p.seq, .int .u32 p.ack, .bool p.has, .int .i64 p.window, .slice x.b.A x.b.len x.b.cap] 91)) := (Below.refl _ _).alloc (Nat.le_refl _) _
            have hatA := hat2.keep (Only.of_below hbA) (f' := lab7 f w2.heap.size) (fun b hl => lab7_old hl)
            have hboxA := Box.new w2 91 #[.int .u32 p.seq, .int .u32 p.ack, .bool p.has, .int .i64 p.window, .slice x.b.A x.b.len x.b.cap]
            have hbWA := hbW2.trans (hbA.mono hbW2.size)
            have hfq : lab7 f w2.heap.size w2.heap.size = 7 := lab7_new (Nat.le_refl _)
            have hxA : BIn (w2.alloc (.cells #[.int .u32 p.seq, .int .u32 p.ack, .bool p.has, .int .i64 p.window, .slice x.b.A x.b.len x.b.cap] 91)) (· < W.heap.size) 0 x.b p.body := hxb.below (hbA.mono hbW2.size) fun _ h => h
            have hrowA : Row (w2.alloc (.cells #[.int .u32 p.seq, .int .u32 p.ack, .bool p.has, .int .i64 p.window, .slice x.b.A x.b.len x.b.cap] 91)) W.heap.size a' (ints xs) := hrow2.below (hbA.mono hbW2.size)
            have hgqB : W.heap.size ≤ w2.heap.size := hbW2.size
            clear HPK hx hb2 x1 x2 x3 x4 hxb hat2 hrow2 hbA hbW2
            go_upto_region 33 with fail
            generalize lab7 f w2.heap.size = fq at *
            generalize w2.heap.size = gq at *
            generalize w2.alloc (.cells #[.int .u32 p.seq, .int .u32 p.ack, .bool p.has, .int .i64 p.window, .slice x.b.A x.b.len x.b.cap] 91) = wA at *
            have HATA := Lib.hid hatA
            have HBXA := Lib.hid hboxA
            have HBWA := Lib.hid hbWA
            have HXA := Lib.hid hxA
            have HROWA := Lib.hid hrowA
            have HFQ := Lib.hid hfq
            have hmq : m ≠ gq := fun e => by have h1 := hatA.fm HRF.out; rw [e] at h1; omega
            clear hatA hboxA hbWA hxA hrowA hfq
            go_cut [163] (fun _ wx => ∃ a : Int, (0 ≤ a ∧ a < 4294967296) ∧ Below W.heap.size wA wx ∧ Box wx gq 91 #[.int .u32 p.seq, .int .u32 a, .bool p.has, .int .i64 p.window, .slice x.b.A x.b.len x.b.cap] ∧ LineAt wx W.heap.size g m s r fq)
            case first =>
              obtain ⟨_, _, c2, _, _, _, _, _, _⟩ := HATA.out.ms HRF.out
              have q1 : wA.cell? ⟨gq, 1, none⟩ = some (.int .u32 p.ack) := HBXA.out.cell 1
              have frq := HBXA.out.frozen 1
              have HST := Lib.hid (fun a : Int => pkt_store HATA.out HFQ.out hgqB HBXA.out 1 (.int .u32 a))
              have HAQ := Lib.hid (HA2.out wA.drew (HROWA.out.below (below_drewN (Below.refl _ _) 1)))
              generalize xs.getD (2 : Int).toNat 0 = y2 at *
              go_region_law ((first
                | (go_simp; go_at_call 33; refine HAQ.out.mono ?_; rintro e w' ⟨rfl, rfl⟩)))
              all_goals (
                go_wp2_with fail
                go_meet
                exact ⟨_, ⟨Int.emod_nonneg _ (by decide), Int.emod_lt_of_pos _ (by decide)⟩, (HST.out _).1, (HST.out _).2.1, (HST.out _).2.2⟩)
            case rest =>
            obtain ⟨ak, hak, hb5, hbox5, hat5⟩ := hcut
            have HAT5 := Lib.hid hat5
            have HBX5 := Lib.hid hbox5
            have HBW5 := Lib.hid (HBWA.out.trans hb5)
            have HX5 := Lib.hid (HXA.out.below hb5 fun _ h => h)
            have HROW5 := Lib.hid (HROWA.out.below hb5)
            clear hb5 hbox5 hat5 HATA HBXA HBWA HXA HROWA
            generalize wc = wA at *
            go_upto_region 34 with fail
            go_cut [177] (fun _ wx => ∃ a : Int, Below W.heap.size wA wx ∧ Box wx gq 91 #[.int .u32 a, .int .u32 ak, .bool p.has, .int .i64 p.window, .slice x.b.A x.b.len x.b.cap] ∧ LineAt wx W.heap.size g m s r fq)
            case first =>
              obtain ⟨_, _, _, _, _, c5, _, _, _⟩ := HAT5.out.ms HRF.out
              have q0 : wA.cell? ⟨gq, 0, none⟩ = some (.int .u32 p.seq) := HBX5.out.cell 0
              have frq := HBX5.out.frozen 0
              have HST := Lib.hid (fun a : Int => pkt_store HAT5.out HFQ.out hgqB HBX5.out 0 (.int .u32 a))
              have HAQ := Lib.hid (HA2.out wA.drew (HROW5.out.below (below_drewN (Below.refl _ _) 1)))
              generalize xs.getD (2 : Int).toNat 0 = y2 at *
              go_region_law ((first
                | (go_simp; go_at_call 33; refine HAQ.out.mono ?_; rintro e w' ⟨rfl, rfl⟩)))
              all_goals (
                go_wp2_with fail
                go_meet
                exact ⟨_, (HST.out _).1, (HST.out _).2.1, (HST.out _).2.2⟩)
            case rest =>
            obtain ⟨sq, hb6, hbox6, hat6⟩ := hcut
            have HAT6 := Lib.hid hat6
            have HBX6 := Lib.hid hbox6
            have HBW6 := Lib.hid (HBW5.out.trans hb6)
            have HX6 := Lib.hid (HX5.out.below hb6 fun _ h => h)
            clear hb6 hat6 HAT5 HBX5 HBW5 HX5 HROW5 HA2
            generalize wc = w6 at *
            have q0 : w6.cell? ⟨gq, 0, none⟩ = some (.int .u32 sq) := hbox6.cell 0
            have q1 : w6.cell? ⟨gq, 1, none⟩ = some (.int .u32 ak) := hbox6.cell 1
            have q2 : w6.cell? ⟨gq, 2, none⟩ = some (.bool p.has) := hbox6.cell 2
            have q3 : w6.cell? ⟨gq, 3, none⟩ = some (.int .i64 p.window) := hbox6.cell 3
            have q4 : w6.cell? ⟨gq, 4, none⟩ = some (.slice x.b.A x.b.len x.b.cap) := hbox6.cell 4
            clear hbox6
            have hsz6 := HBW6.out.size
            have hpo := fun w : World => packetOf ⟨sq, ak, p.has, p.window, x.b⟩ w
            unfold rpkV lpkV at hpo
            dsimp only at hpo
            have HPO := Lib.hid hpo
            clear hpo
            have hxl := Lib.hid HX6.out.1
            by_cases hwb : p.window < 0 ∨ 16 < p.window
            · as_aux_lemma =>
                have hco := fun (v : World) (hv : LineAt v W.heap.size g m s r fq) (hB : W.heap.size ≤ v.heap.size) => come_arg W.heap.size g m s r fq ⟨sq, ak, p.has, p.window, x.b⟩ v hv hB hwb
                unfold lpkV at hco
                dsimp only at hco
                have HCO := Lib.hid hco
                have HWB := Lib.hid hwb
                clear hco hwb
                have hwb := HWB.out
                by_cases e1 : p.window < 0
                · have d1 : decide (p.window < 0) = true := by simp; omega
                  clear hwb
                  go_wp2_with fail
                  refine (HPO.out _).mono ?_
                  rintro e w7 ⟨rfl, hb7⟩
                  have HAT7 := Lib.hid (HAT6.out.below hb7)
                  have HBW7 := Lib.hid (HBW6.out.trans (hb7.mono hsz6))
                  clear hb7
                  go_wp2_with fail
                  refine (HCO.out _ HAT7.out HBW7.out.size).mono ?_
                  rintro e w8 ⟨rfl, hb8, r8, f8, h8⟩
                  have HPN := Lib.hid (show Play W g m win (k + 1) w8 from ⟨s, r8, f8, h8, HRF.out, HSW.out, HREL.out.more (by omega), HBW7.out.trans hb8⟩)
                  clear hb8 h8
                  go_wp2_with fail
                  go_meet
                  exact HPN.out
                · have d1 : decide (p.window < 0) = false := by simp; omega
                  have d2 : decide (16 < p.window) = true := by simp; omega
                  clear hwb
                  go_wp2_with fail
                  refine (HPO.out _).mono ?_
                  rintro e w7 ⟨rfl, hb7⟩
                  have HAT7 := Lib.hid (HAT6.out.below hb7)
                  have HBW7 := Lib.hid (HBW6.out.trans (hb7.mono hsz6))
                  clear hb7
                  go_wp2_with fail
                  refine (HCO.out _ HAT7.out HBW7.out.size).mono ?_
                  rintro e w8 ⟨rfl, hb8, r8, f8, h8⟩
                  have HPN := Lib.hid (show Play W g m win (k + 1) w8 from ⟨s, r8, f8, h8, HRF.out, HSW.out, HREL.out.more (by omega), HBW7.out.trans hb8⟩)
                  clear hb8 h8
                  go_wp2_with fail
                  go_meet
                  exact HPN.out
            · have d1 : decide (p.window < 0) = false := by simp; omega
              have d2 : decide (16 < p.window) = false := by simp; omega
              have hp0 : 0 ≤ p.window := by omega
              have hp16 : p.window ≤ 16 := by omega
              clear hwb
              by_cases hlg : 1048576 < x.b.len
              · as_aux_lemma =>
                  have d3 : decide (1048576 < x.b.len) = true := by simp; omega
                  have d4 : decide ((1048576 : Int) < (x.b.len : Int)) = true := by simp; omega
                  have hco := fun (v : World) (hv : LineAt v W.heap.size g m s r fq) (hB : W.heap.size ≤ v.heap.size) => come_large W.heap.size g m s r fq ⟨sq, ak, p.has, p.window, x.b⟩ v hv hB hp0 hp16 hlg
                  unfold lpkV at hco
                  dsimp only at hco
                  have HCO := Lib.hid hco
                  clear hco hlg
                  go_wp2_with fail
                  refine (HPO.out _).mono ?_
                  rintro e w7 ⟨rfl, hb7⟩
                  have HAT7 := Lib.hid (HAT6.out.below hb7)
                  have HBW7 := Lib.hid (HBW6.out.trans (hb7.mono hsz6))
                  clear hb7
                  go_wp2_with fail
                  refine (HCO.out _ HAT7.out HBW7.out.size).mono ?_
                  rintro e w8 ⟨rfl, hb8, r8, f8, h8⟩
                  have HPN := Lib.hid (show Play W g m win (k + 1) w8 from ⟨s, r8, f8, h8, HRF.out, HSW.out, HREL.out.more (by omega), HBW7.out.trans hb8⟩)
                  clear hb8 h8
                  go_wp2_with fail
                  go_meet
                  exact HPN.out
              · as_aux_lemma =>
                  have d3 : decide (1048576 < x.b.len) = false := by simp; omega
                  have d4 : decide ((1048576 : Int) < (x.b.len : Int)) = false := by simp; omega
                  have hbl : p.body.length ≤ 1048576 := by rw [← hxl.out]; omega
                  have hkin : KIn w6 (· < W.heap.size) 0 ⟨sq, ak, p.has, p.window, x.b⟩ ⟨sq, ak, p.has, p.window, p.body⟩ := ⟨⟨rfl, rfl, rfl, rfl⟩, HX6.out⟩
                  have hrdb := HREL.out.rd
                  have hrdw := HREL.out.rdw
                  have hIG := HREL.out.I
                  have hcm := come_m W.heap.size g m s r fq ⟨sq, ak, p.has, p.window, x.b⟩ ⟨sq, ak, p.has, p.window, p.body⟩ w6 HAT6.out HRF.out hkin hsz6 HREL.out.b0 HREL.out.b1 (by omega) hak.1 hak.2 HREL.out.k0 (by have := HREL.out.kK; omega) (by omega) (by omega) HREL.out.t0 (by have := HREL.out.tq; omega) (by rw [← hIG]; omega)
                  unfold rpkV at hcm
                  dsimp only at hcm
                  have hkp := come_keep s ⟨sq, ak, p.has, p.window, p.body⟩
                  have hRN := HREL.out.come ⟨sq, ak, p.has, p.window, p.body⟩ hp0 hp16 hak.1 hak.2
                  have HKP := Lib.hid hkp
                  have HRN := Lib.hid hRN
                  have hI16 : s.I.length ≤ 16 := by omega
                  generalize bodyR (ackR s ⟨sq, ak, p.has, p.window, p.body⟩) ⟨sq, ak, p.has, p.window, p.body⟩ = s5 at *
                  have HCM := Lib.hid hcm
                  have hco := fun (r' : LR) (f' : Nat → Nat) (v : World) (hv : LineAt v W.heap.size g m s5 r' f') (hk : KIn v (· < W.heap.size) 0 ⟨sq, ak, p.has, p.window, x.b⟩ ⟨sq, ak, p.has, p.window, p.body⟩) (hB : W.heap.size ≤ v.heap.size) => come_x W.heap.size g m s5 r' f' ⟨sq, ak, p.has, p.window, x.b⟩ ⟨sq, ak, p.has, p.window, p.body⟩ v hv hk hB (by rw [HKP.out.1]; exact hQ16) (by rw [HKP.out.2.1]; exact hI16) hp0 hp16 hbl
                  unfold lpkV at hco
                  dsimp only at hco
                  have HCO := Lib.hid hco
                  have hk2 := come_keep2 s5 ⟨sq, ak, p.has, p.window, p.body⟩
                  have HK2 := Lib.hid hk2
                  have HKIN := Lib.hid hkin
                  clear hkp hRN hcm hco hk2 hkin hlg hrdb hrdw hIG
                  go_wp2_with fail
                  refine HCM.out.mono ?_
                  rintro e w7 ⟨rfl, ho7, r7, f7, hat7⟩
                  have hbn := HAT6.out.under hsz6 ho7
                  have hbx7 := ho7.box HBX6.out (fun ht => by
                    rcases ht with h1 | h1
                    · exact hmq h1.symm
                    · have h2 := HAT6.out.f4 gq h1
                      have h3 := HFQ.out
                      omega)
                  have HAT7 := Lib.hid hat7
                  have HBW7 := Lib.hid (HBW6.out.trans hbn)
                  have HK7 := Lib.hid (show KIn w7 (· < W.heap.size) 0 ⟨sq, ak, p.has, p.window, x.b⟩ ⟨sq, ak, p.has, p.window, p.body⟩ from HKIN.out.keep (fun q hq => hbn.cell hq) fun _ h => h)
                  clear q0 q1 q2 q3 q4 hbn ho7 hat7 HCM
                  have q0 : w7.cell? ⟨gq, 0, none⟩ = some (.int .u32 sq) := hbx7.cell 0
                  have q1 : w7.cell? ⟨gq, 1, none⟩ = some (.int .u32 ak) := hbx7.cell 1
                  have q2 : w7.cell? ⟨gq, 2, none⟩ = some (.bool p.has) := hbx7.cell 2
                  have q3 : w7.cell? ⟨gq, 3, none⟩ = some (.int .i64 p.window) := hbx7.cell 3
                  have q4 : w7.cell? ⟨gq, 4, none⟩ = some (.slice x.b.A x.b.len x.b.cap) := hbx7.cell 4
                  clear hbx7
                  go_wp2_with fail
                  refine (HPO.out _).mono ?_
                  rintro e w8 ⟨rfl, hb8⟩
                  have HAT8 := Lib.hid (HAT7.out.below hb8)
                  have HBW8 := Lib.hid (HBW7.out.trans (hb8.mono HBW7.out.size))
                  have HK8 := Lib.hid (show KIn w8 (· < W.heap.size) 0 ⟨sq, ak, p.has, p.window, x.b⟩ ⟨sq, ak, p.has, p.window, p.body⟩ from HK7.out.keep (fun q hq => (hb8.mono HBW7.out.size).cell hq) fun _ h => h)
                  clear hb8
                  go_wp2_with fail
                  refine (HCO.out _ _ _ HAT8.out HK8.out HBW8.out.size).mono ?_
                  rintro e w9 ⟨rfl, hb9, r9, f9, h9⟩
                  have HPN := Lib.hid (show Play W g m win (k + 1) w9 from ⟨_, r9, f9, h9, by rw [HK2.out.2, HKP.out.2.2.2]; exact HRF.out, by rw [HK2.out.1, HKP.out.2.2.1]; exact HSW.out, HRN.out, HBW8.out.trans hb9⟩)
                  clear hb9 h9
                  go_wp2_with fail
                  go_meet
                  exact HPN.out
          have b3 : (z == 3) = false := by simp [z3]
          clear z3
          by_cases z4 : z = 4
          case pos =>
            as_aux_lemma =>
              have b4 : (z == 4) = true := by simp [z4]
              clear z4
              obtain ⟨_, _, _, _, _, _, c6, c7, c8⟩ := HAT.out.ms HRF.out
              have fr6 := (HAT.out.y HRF.out).frozen 6
              have fr7 := (HAT.out.y HRF.out).frozen 7
              have fr8 := (HAT.out.y HRF.out).frozen 8
              have hn4 := HAT.out.o4.1
              have h1 := (HAT.out.put4 HRF.out (Only.refl (fun b => f b = 6) wr) (A := none) (c := 0) (l := []) (vs := []) bodyMk.nil (fun b hb => by cases hb)).ycell (s' := { s with Got := [], rd := 0 }) HRF.out 6 (.int .i64 0) rfl rfl rfl rfl rfl rfl
              have HL := Lib.hid (fun (q : Bool) => h1.ycell (s' := { s with Got := [], rd := 0, owe := q }) HRF.out 8 (.bool q) rfl rfl rfl rfl rfl rfl)
              have HO := Lib.hid (fun (q : Bool) => (((Only.refl (fun b => f b = 2) wr).set (p := ⟨m, 7, none⟩) (HAT.out.fm HRF.out) (.slice none 0 0)).set (p := ⟨m, 6, none⟩) (HAT.out.fm HRF.out) (.int .i64 0)).set (p := ⟨m, 8, none⟩) (HAT.out.fm HRF.out) (.bool q))
              have HKK := Lib.hid (fun (q : Bool) => HAT.out.o4.only (S' := fun b => f b = 0) (HO.out q) (fun b hb => by rw [HAT.out.f4 b hb]; omega) (fun b hb _ => ⟨by rw [hb]; omega, hb⟩))
              have HBB := Lib.hid (fun (q : Bool) => ((HBW.out.setCell (p := ⟨m, 7, none⟩) hmB (.slice none 0 0)).setCell (p := ⟨m, 6, none⟩) hmB (.int .i64 0)).setCell (p := ⟨m, 8, none⟩) hmB (.bool q))
              obtain ⟨ob, hob⟩ : ∃ ob, (s.owe || decide (0 < s.Got.length)) = ob := ⟨_, rfl⟩
              have HOB := Lib.hid hob
              have HG4 := Lib.hid hn4
              clear hob hn4 h1
              go_upto_region 46 with fail
              go_cut [223] (fun _ wx => ((wr.setCell ⟨m, 7, none⟩ (.slice none 0 0)).setCell ⟨m, 6, none⟩ (.int .i64 0)).setCell ⟨m, 8, none⟩ (.bool ob) = wx)
              case first =>
                cases howe : s.owe
                · rw [howe] at c8
                  by_cases hn : 0 < r.l4.length
                  · have dn : decide ((0 : Int) < (r.l4.length : Int)) = true := by simp; omega
                    have dn' : decide (0 < r.l4.length) = true := by simp; omega
                    obtain rfl : ob = true := by rw [← HOB.out, howe, ← HG4.out, dn']; rfl
                    clear howe
                    go_wp2_with fail
                    go_meet
                    exact rfl
                  · have dn : decide ((0 : Int) < (r.l4.length : Int)) = false := decide_eq_false (by omega)
                    have dn' : decide (0 < r.l4.length) = false := decide_eq_false (by omega)
                    obtain rfl : ob = false := by rw [← HOB.out, howe, ← HG4.out, dn']; rfl
                    clear howe
                    go_wp2_with fail
                    go_meet
                    exact rfl
                · rw [howe] at c8
                  obtain rfl : ob = true := by rw [← HOB.out, howe]; rfl
                  clear howe
                  go_wp2_with fail
                  go_meet
                  exact rfl
              case rest =>
              have hw5 := hcut
              clear hcut
              have hatL : LineAt (((wr.setCell ⟨m, 7, none⟩ (.slice none 0 0)).setCell ⟨m, 6, none⟩ (.int .i64 0)).setCell ⟨m, 8, none⟩ (.bool ob)) W.heap.size g m { s with Got := [], rd := 0, owe := ob } { r with A4 := none, c4 := 0, l4 := [] } (lab f wr.heap.size 6 none) := HL.out ob
              have hmk4 := HKK.out ob
              have hbL := HBB.out ob
              have hsL : (((wr.setCell ⟨m, 7, none⟩ (.slice none 0 0)).setCell ⟨m, 6, none⟩ (.int .i64 0)).setCell ⟨m, 8, none⟩ (.bool ob)).heap.size = wr.heap.size := by simp
              rw [hw5] at hatL hmk4 hbL hsL
              have hgo := got_any W.heap.size g m _ _ _ wc hatL
              have HGO := Lib.hid hgo
              have HMK4 := Lib.hid (fun (w6 : World) (ho : Only (fun b => lab f wr.heap.size 6 none b = 1) wc w6) => hmk4.only (S' := fun b => f b = 0) ho (fun b hb => by
                rw [lab_old (fun b hb => by cases hb) (blk_lt HAT.out.o4.2.1 hb), HAT.out.f4 b hb]; omega) (fun b hb hl => ⟨by rw [lab_old (fun b hb => by cases hb) (by rw [← hsL]; exact hl), hb]; omega, hb⟩))
              have HBL := Lib.hid hbL
              have HRG := Lib.hid HREL.out.got
              have HOBB := HOB.out
              rw [HOBB] at HRG
              have hG16 : r.l4.length * 24 ≤ reachBytes := by have h1 := HREL.out.rd; have h2 := HREL.out.rdw; have h3 := HG4.out; have h4 := congrArg List.length HREL.out.I; unfold reachBytes; omega
              have hI16 : r.l2.length * 24 ≤ reachBytes := by have h1 := HREL.out.rd; have h2 := HREL.out.rdw; have h3 := HAT.out.o2.1; unfold reachBytes; omega
              clear hw5 hatL hmk4 hbL hsL hgo HOBB c6 c7 c8 fr6 fr7 fr8
              go_wp2_with fail
              refine HGO.out.mono ?_
              rintro e w6 ⟨rfl, hmk6, ho6, f6, hat6⟩
              have HEQ := Lib.hid (equalBodies _ _ _ _ _ _ _ _ w6 _ _ (hmk6.row hI16) ((HMK4.out w6 ho6).row hG16) HREL.out.I)
              have hb6 : Below W.heap.size W w6 := ho6.to_below HBL.out HBL.out.size (fun i hi => by
                have h1 : lab f wr.heap.size 6 none i = 1 := hi
                rcases Nat.lt_or_ge i W.heap.size with hlt' | hge
                · rw [lab_old (fun b hb => by cases hb) (Nat.lt_of_lt_of_le hlt' hszr), HF0.out i hlt'] at h1
                  omega
                · exact hge)
              have HPN := Lib.hid (show Play W g m win (k + 1) w6 from ⟨_, _, f6, hat6, HRF.out, HSW.out, HRG.out.more (by omega), hb6⟩)
              clear hmk6 ho6 hat6 hb6 HGO
              go_wp2_with fail
              refine HEQ.out.mono ?_
              rintro e w7 ⟨rfl, rfl⟩
              clear HEQ
              go_wp2_with fail
              go_meet
              exact HPN.out
          have b4 : (z == 4) = false := by simp [z4]
          clear z4
          by_cases z5 : z = 5
          case pos =>
            as_aux_lemma =>
              have b5 : (z == 5) = true := by simp [z5]
              clear z5
              have HTK := Lib.hid (tick_x W.heap.size g m s r f wr HAT.out hQ16 ⟨by rw [HREL.out.lim]; exact HREL.out.l0, by rw [HREL.out.lim]; exact HREL.out.l16⟩)
              go_wp2_with fail
              refine HTK.out.mono ?_
              rintro e w2 ⟨rfl, hb2, r2, hat2⟩
              obtain ⟨_, _, _, c3, _, _, _, _, _⟩ := hat2.ms HRF.out
              have fr3 := (hat2.y HRF.out).frozen 3
              have HBN := Lib.hid ((HBW.out.trans hb2).setCell (p := ⟨m, 3, none⟩) hmB (.int .i64 0))
              have HL3 := Lib.hid (hat2.ycell (s' := { s with Q := unsent s.Q s.Q.length, lim := if s.Q = [] then s.lim else if s.lim < 1 then 1 else s.lim, told := 0 }) HRF.out 3 (.int .i64 0) rfl rfl rfl rfl rfl rfl)
              clear hat2 hb2 HTK
              go_upto_region 52 with fail
              generalize w2.setCell ⟨m, 3, none⟩ (.int .i64 0) = w3 at *
              obtain ⟨_, d1, d2, _, d4, _, _, _, _⟩ := HL3.out.ms HRF.out
              simp only at d1 d2 d4
              have fr1 := (HL3.out.y HRF.out).frozen 1
              have HRT := Lib.hid HREL.out.tick
              have hn32 := Lib.hid (show r2.l3.length = s.All.length from HL3.out.o3.1)
              by_cases hgt : s.mbase < (s.All.length : Int)
              · have t1 : decide (s.mbase < (r2.l3.length : Int)) = true := by rw [hn32.out]; simpa using hgt
                by_cases hl1 : s.mlim < 1
                · have t2 : decide (s.mlim < 1) = true := by simpa using hl1
                  have HE := Lib.hid (show (if s.mbase < (s.All.length : Int) ∧ s.mlim < 1 then 1 else s.mlim) = 1 from if_pos ⟨hgt, hl1⟩)
                  rw [HE.out] at HRT
                  clear hgt hl1
                  go_quiet (fail)
                  have HL4 := Lib.hid ((HL3.out.below (below_drewN (Below.refl _ _) nq)).ycell (s' := { s with Q := unsent s.Q s.Q.length, lim := if s.Q = [] then s.lim else if s.lim < 1 then 1 else s.lim, told := 0, mlim := 1 }) HRF.out 1 (.int .i64 1) rfl rfl rfl rfl rfl rfl)
                  have HB4 := Lib.hid ((below_drewN HBN.out nq).setCell (p := ⟨m, 1, none⟩) hmB (.int .i64 1))
                  go_wp2_with fail
                  go_meet
                  exact ⟨_, r2, f, HL4.out, HRF.out, HSW.out, HRT.out.more (by omega), HB4.out⟩
                · have t2 : decide (s.mlim < 1) = false := by simpa using hl1
                  have HE := Lib.hid (show (if s.mbase < (s.All.length : Int) ∧ s.mlim < 1 then 1 else s.mlim) = s.mlim from if_neg fun h => hl1 h.2)
                  rw [HE.out] at HRT
                  clear hgt hl1
                  go_quiet (fail)
                  go_wp2_with fail
                  go_meet
                  exact ⟨_, r2, f, HL3.out.below (below_drewN (Below.refl _ _) _), HRF.out, HSW.out, HRT.out.more (by omega), below_drewN HBN.out _⟩
              · have t1 : decide (s.mbase < (r2.l3.length : Int)) = false := by rw [hn32.out]; simpa using hgt
                have HE := Lib.hid (show (if s.mbase < (s.All.length : Int) ∧ s.mlim < 1 then 1 else s.mlim) = s.mlim from if_neg fun h => hgt h.1)
                rw [HE.out] at HRT
                clear hgt
                go_quiet (fail)
                go_wp2_with fail
                go_meet
                exact ⟨_, r2, f, HL3.out.below (below_drewN (Below.refl _ _) _), HRF.out, HSW.out, HRT.out.more (by omega), below_drewN HBN.out _⟩
          have b5 : (z == 5) = false := by simp [z5]
          clear z5
          have HPN := Lib.hid (show Play W g m win (k + 1) wr from ⟨s, r, f, HAT.out, HRF.out, HSW.out, HREL.out.more (by omega), HBW.out⟩)
          go_wp2_with fail
          go_meet
          exact HPN.out
        case rest =>
          as_aux_lemma =>
            obtain ⟨s, r, f, hat, hrf, hsw, hrel, hbw⟩ := hcut
            clear HAT HRF HSW HREL HBW HROW HA2
            have hlen := hrel.len
            have hn3 := hat.o3.1
            obtain ⟨_, _, c2, _, c4, _, _, _, _⟩ := hat.ms hrf
            have HPN := Lib.hid (show Play W g m win (k + 1) wc from ⟨s, r, f, hat, hrf, hsw, hrel, hbw⟩)
            obtain ⟨qb, hqb⟩ : ∃ qb, decide (s.Q = []) = qb := ⟨_, rfl⟩
            have hbe : ((r.l3.length : Int) == s.mbase) = qb := by
              rw [← hqb, Bool.eq_iff_iff]
              rw [beq_iff_eq, decide_eq_true_iff, ← List.length_eq_zero_iff]
              omega
            have HID : Hid (∀ n, Calls Try.prog 56 #[.pointer (some ⟨g, 0, none⟩)] (wc.drewN n) fun e w' => e = .returned (.bool qb) ∧ w' = wc.drewN n) := Lib.hid (fun n => (idle_any W.heap.size g m s r f (wc.drewN n) (hat.below (below_drewN (Below.refl _ _) n))).mono fun _ _ h => ⟨by rw [← hqb]; exact h.1, h.2.symm⟩)
            clear hat hrf hsw hrel hbw hlen hn3 hqb
            generalize r.l3.length = n3 at *
            cases qb
            · go_upto_region 54 with fail
              go_quiet ((go_at_call 56; exact Calls.quiet_of_same (HID.out _)))
              go_wp2_with fail
              go_roundg (xss.length - (k + 1))
              case measure => have := HK.out; omega
              case rel =>
                refine ⟨k + 1, rfl, by omega, by go_num, ?_⟩
                obtain ⟨s, r, f, hat, hrf, hsw, hrel, hbw⟩ := HPN.out
                exact ⟨s, r, f, hat.below (below_drewN (Below.refl _ _) _), hrf, hsw, hrel, below_drewN hbw _⟩
            · go_upto_region 54 with fail
              go_quiet ((go_at_call 56; exact Calls.quiet_of_same (HID.out _)))
              go_wp2_with fail
              go_roundg (xss.length - (k + 1))
              case measure => have := HK.out; omega
              case rel =>
                refine ⟨k + 1, rfl, by omega, by go_num, ?_⟩
                obtain ⟨s, r, f, hat, hrf, hsw, hrel, hbw⟩ := HPN.out
                exact ⟨s, r, f, hat.below (below_drewN (Below.refl _ _) _), hrf, hsw, hrel, below_drewN hbw _⟩
      · go_wp2_with fail
        go_ret
        obtain ⟨s, r, f, hat, hrf, hsw, hrel, hbw⟩ := HPL.out
        exact ⟨rfl, hbw⟩
end Go.Proofs.Ytaecgapoaagjfaa
