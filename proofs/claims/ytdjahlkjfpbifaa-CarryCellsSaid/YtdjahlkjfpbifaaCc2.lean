
/-
  Cells that are reached from a word (carry.Cells).
-/
import Derived.Test.YtdjahlkjfpbifaaCc1
import Derived.Deep.CutBlock
import Derived.Deep.DeepCutAuto
import Derived.Deep.LoopGhost
namespace Go.Proofs.Ytdjahlkjfpbifaa
open Go.RowKit

def cellsF (g : List Nat) (u : Nat) : Except Int (List Int) := if (allR g).2 ≠ 0 then .error (allR g).2 else match bfs0 g u with
  | .error e => .error e
  | .ok l => .ok (srtI l)
theorem allR_lenC {h : List Nat} (e : (allR h).2 = 0) : h.length ≤ 4000 := by
  unfold allR at e
  by_cases h1 : 4000 < h.length
  · rw [if_pos h1] at e; cases e
  · omega
/-- How the cells' places and an error are handed back. -/
def CellsPost (r : Except Int (List Int)) (W : World) (e : Ending) (w' : World) : Prop :=
  Below W.heap.size W w' ∧ match r with
    | .error er => e = .returned (.tuple #[.slice none 0 0, .int .i64 er])
    | .ok l => ∃ A c, e = .returned (.tuple #[.slice A l.length c, .int .i64 0]) ∧ OwnAt w' W.heap.size 3 1 A l.length c (ints l) ∧ l.length ≤ 4000
theorem CellsPost.err {r : Except Int (List Int)} {W w' : World} {er : Int} (hr : r = .error er) (hb : Below W.heap.size W w') : CellsPost r W (.returned (.tuple #[.slice none 0 0, .int .i64 er])) w' := by
  subst hr
  exact ⟨hb, rfl⟩
theorem HOwn.one (w : World) (u : Nat) : HOwn (w.alloc (.cells #[.int .u64 (u : Int)] 90)) w.heap.size (some ⟨w.heap.size, 0, none⟩) 1 [u] :=
  ⟨rfl, .inr ⟨w.heap.size, 0, #[.int .u64 (u : Int)], rfl, Nat.le_refl _, Box.new w 90 #[.int .u64 (u : Int)], Nat.le_refl _, by unfold maxLen; decide, by simp, by simp [flat, huC]⟩⟩
theorem HOwn.lowerY {w : World} {b b' : Nat} {A : Option Addr} {c : Nat} {zs : List Nat} (h : HOwn w b A c zs) (hb : b' ≤ b) : HOwn w b' A c zs := OwnAt.lower h hb
/-- The state as the search begins. -/
theorem BSt.start {W w : World} {u : Nat} (hb : Below W.heap.size W w) : BSt W ((w.alloc (.map #[] 0)).alloc (.cells #[.int .u64 (u : Int)] 90)) w.heap.size (some ⟨(w.alloc (.map #[] 0)).heap.size, 0, none⟩) 1 [u] none 0 [] [] := by
  have hsz : (w.alloc (.map #[] 0)).heap.size = w.heap.size + 1 := by simp
  have hw := hb.size
  refine ⟨(hb.alloc hb.size _).alloc (by rw [hsz]; omega) _, (HOwn.one _ u).lowerY (by rw [hsz]; omega), OwnAt.nil, (SetB.made w).alloc _, fun e => ?_, blkO_none _, fun b _ => blkO_none b, hb.size⟩
  have := blkO_some e
  dsimp only at this
  omega

set_option maxRecDepth 100000 in
set_option maxHeartbeats 8000000 in
theorem cells_any (A : Option Addr) (c : Nat) (g : List Nat) (u : Nat) (W : World) (hh : HpIn W A c g) (hu : u < 18446744073709551616) :
    Calls Try.prog 52 #[.slice A g.length c, .int .u64 (u : Int)] W (CellsPost (cellsF g u) W) := by
  have HH := Lib.hid (fun (w' : World) (hb : Below W.heap.size W w') => hh.below hb)
  have HOB := Lib.hid (objects_any A c g W hh)
  have HR : Hid (cellsF g u = if (allR g).2 ≠ 0 then .error (allR g).2 else match bfs0 g u with
    | .error e => .error e
    | .ok l => .ok (srtI l)) := Lib.hid rfl
  generalize cellsF g u = r at *
  have hmm := @run_makeMap Try.prog
  clear hh
  go_enter Try.func52, Try.ntmps52
  go_wp2_with fail
  refine HOB.out.mono ?_
  rintro e w1 ⟨hb1, A1, n1, c1, ys, er, rfl, _, _, hr1⟩
  have HB1 := Lib.hid hb1
  have HE := Lib.hid hr1
  clear hb1 hr1 HOB
  by_cases her : er = 0
  case neg =>
    have b1 : (er != 0) = true := by simpa using her
    have HRR := Lib.hid (show r = .error er by rw [HR.out, HE.out]; dsimp only; rw [if_pos her])
    clear her HR
    go_wp2_with fail
    go_ret2
    exact CellsPost.err HRR.out HB1.out
  subst her
  have HR2 := Lib.hid (show r = match bfs0 g u with
    | .error e => .error e
    | .ok l => .ok (srtI l) by rw [HR.out, HE.out, if_neg (by simp)])
  have hgl := allR_lenC (h := g) (by rw [HE.out])
  have HIV := Lib.hid (BInv.start hgl hu)
  have HST := Lib.hid (BSt.start (u := u) HB1.out)
  rw [show (w1.alloc (.map #[] 0)).heap.size = w1.heap.size + 1 by simp] at HST
  clear HR HE
  go_upto_region 7 with fail
  generalize (w1.alloc (.map #[] 0)).alloc (.cells #[.int .u64 (u : Int)] 90) = w2 at *
  obtain ⟨gs, hgs⟩ : ∃ gs, w1.heap.size = gs := ⟨_, rfl⟩
  rw [hgs] at HST ⊢
  clear hgs hmm
  obtain ⟨i1, hi1, hy0, hy1, hy2⟩ := int_partsY
  go_loopg [8, 10] (g.length * 401 + 1) (fun gk ov qv wr => ∃ (todo : List Nat) (seen out : List Int) (Q : Option Addr) (cq : Nat) (O : Option Addr) (co : Nat), BInv g gk todo seen out ∧ bfs0 g u = bfsF g gk todo seen out ∧ ov = .slice O out.length co ∧ qv = .slice Q todo.length cq ∧ BSt W wr gs Q cq todo O co out seen)
  case atStart => exact ⟨[u], [], [], _, 1, none, 0, HIV.out, rfl, rfl, rfl, HST.out⟩
  case round =>
    clear HIV HST HB1
    obtain ⟨todo, seen, out, Q, cq, O, co, hiv, hbf, rfl, rfl, hst⟩ := hrel
    have HIV := Lib.hid hiv
    have HBF := Lib.hid hbf
    have HST := Lib.hid hst
    clear hiv hbf hst
    cases todo with
    | nil =>
      have HRR := Lib.hid (show r = .ok (srtI out) by rw [HR2.out, HBF.out, bfsF_nil])
      have hout : out.length ≤ 4000 := by have h1 := HIV.out.cnt; have h2 := HIV.out.gl; omega
      have HSO := Lib.hid (sort_own O out.length co W.heap.size out wr HST.out.o rfl (by omega))
      go_wp2_with fail
      refine HSO.out.mono ?_
      rintro e w3 ⟨rfl, ho3, hon3⟩
      have HO3 := Lib.hid ho3
      have HB3 := Lib.hid (hon3.to_below HST.out.bl HST.out.bl.size (fun b hb => (blkO_own HST.out.o hb).1))
      clear ho3 hon3
      go_wp2_with fail
      go_ret2
      rw [HRR.out]
      refine ⟨HB3.out, O, co, ?_, by rw [srtI_len]; exact HO3.out, by rw [srtI_len]; exact hout⟩
      show Ending.returned (.tuple #[.slice O out.length co, .int .i64 0]) = _
      rw [srtI_len]
    | cons x r9 =>
      obtain ⟨f, rfl⟩ := HIV.out.pos
      have hbf := HBF.out
      rw [bfsF_cons] at hbf
      have hx := HIV.out.fit x List.mem_cons_self
      have hrd := fun w' => read_any (x : Int) w' (nat_u64 hx).1 (nat_u64 hx).2
      have hni := readN_i64 (x : Int)
      have hlk := fun (hn : I64 (readN (x : Int))) => HST.out.look hn
      have hlk := hlk hni
      obtain ⟨gq, oq, hQ, _, hc0⟩ := Row.hu HST.out.q.row (show 0 < (x :: r9).length by simp) 0
      subst hQ
      rw [Nat.zero_mul, Nat.add_zero, List.getD_cons_zero] at hc0
      have hlen9 : r9.length ≤ 1608000 := by have h1 := HIV.out.mu; have h2 := HIV.out.gl; have h3 := HIV.out.f0; simp only [List.length_cons] at h1; omega
      rw [List.length_cons]
      clear HBF
      cases hrb : readB (x : Int) with
      | false =>
        rw [hrb, if_pos rfl] at hbf
        rw [hrb] at hrd
        simp only [Bool.false_eq_true, if_false] at hrd
        have HRD := Lib.hid hrd
        have HRR := Lib.hid (show r = .error 3 by rw [HR2.out, hbf])
        clear hbf hrd hni hlk hrb
        go_wp2_with fail
        refine (HRD.out _).mono ?_
        rintro e w3 ⟨rfl, rfl⟩
        go_wp2_with fail
        go_ret2
        exact CellsPost.err HRR.out HST.out.bl
      | true =>
        rw [hrb, if_neg (by decide)] at hbf
        rw [hrb] at hrd
        simp only [if_true] at hrd
        by_cases h4 : (x : Int) % 8 ≠ 4
        · rw [if_pos (.inl h4)] at hbf
          have b4 : ((x : Int) % 8 != 4) = true := by simpa using h4
          have HRD := Lib.hid hrd
          have HBF2 := Lib.hid hbf
          obtain ⟨Q', hcut, hst'⟩ := HST.out.cut
          have HST2 := Lib.hid hst'
          clear hbf hrd hni hlk hrb h4 hst'
          generalize (x : Int) % 8 = t at *
          go_wp2_with fail
          refine (HRD.out _).mono ?_
          rintro e w3 ⟨rfl, rfl⟩
          go_wp2_with fail
          go_roundg f
          case measure => exact Nat.lt_succ_self f
          case rel => exact ⟨r9, seen, out, Q', cq - 1, O, co, HIV.out.skip, HBF2.out, rfl, rfl, HST2.out⟩
        · have h4' : (x : Int) % 8 = 4 := by simpa using h4
          rw [h4'] at hrd
          generalize readN (x : Int) = n at *
          cases hsn : seen.contains n with
          | true =>
            rw [if_pos (.inr hsn)] at hbf
            rw [hsn] at hlk
            have HRD := Lib.hid hrd
            have HBF2 := Lib.hid hbf
            obtain ⟨Q', hcut, hst'⟩ := HST.out.cut
            have HST2 := Lib.hid hst'
            clear hbf hrd hni hrb h4 h4' hst' hsn
            go_wp2_with fail
            refine (HRD.out _).mono ?_
            rintro e w3 ⟨rfl, rfl⟩
            go_wp2_with fail
            go_roundg f
            case measure => exact Nat.lt_succ_self f
            case rel => exact ⟨r9, seen, out, Q', cq - 1, O, co, HIV.out.skip, HBF2.out, rfl, rfl, HST2.out⟩
          | false =>
            rw [if_neg (by rw [hsn]; simp; exact h4'), ] at hbf
            rw [hsn] at hlk
            obtain ⟨w3, hup, hst3⟩ := HST.out.mark hni (by have h1 := HIV.out.sn; have h2 := HIV.out.gl; omega)
            have HST3 := Lib.hid hst3
            have HAT := Lib.hid (at_any A c g n w3 (HH.out w3 hst3.bl))
            have HRD := Lib.hid hrd
            have HBF2 := Lib.hid hbf
            have HRNG := Lib.hid (fun e => rdF_rng (h := g) (p := n) e)
            have HOKF := Lib.hid (fun e => rdF_okC (h := g) (p := n) e)
            have HPX := Lib.hid (parts_fit (h := g) (p := n) (HH.out W (Below.refl _ _)).fit)
            have HSN := Lib.hid hsn
            have HNI := Lib.hid hni
            clear hbf hrd hni hrb h4 h4' hst3 hsn
            go_upto_region 15 with (first
              | (go_at_call 99; refine (HRD.out _).mono ?_; rintro e wk ⟨rfl, rfl⟩)
              | (go_at_call 100; refine HAT.out.mono ?_; rintro e w4 ⟨hb4, y, er, rfl, hyo, hye, hyp⟩; unfold ocV; have HYE := Lib.hid hye; have HYO := Lib.hid hyo; have HYP := Lib.hid hyp; have HB4 := Lib.hid hb4; clear hye hyo hyp hb4; obtain ⟨⟨y1, y2, y3, y4, y5⟩, PA, pc⟩ := y; dsimp only))
            have hyo := HYO.out
            have hye := HYE.out
            clear HYE HYO HAT HRD hlk hup
            generalize rdF g n = rr at *
            obtain ⟨ro, nw, re⟩ := rr
            dsimp only at hyo hye HBF2 HRNG HOKF HPX
            subst hyo hye
            have hal := (Below.refl w4.heap.size w4).alloc (Nat.le_refl _) (.cells #[.int .i64 y1, .int .i64 y2, .int .i64 y3, .string ⟨y4.toArray⟩, .slice PA y5.length pc] 113)
            have HST5 := Lib.hid ((HST3.out.on HB4.out).on hal)
            have HOB5 : Hid (ObBox (w4.alloc (.cells #[.int .i64 y1, .int .i64 y2, .int .i64 y3, .string ⟨y4.toArray⟩, .slice PA y5.length pc] 113)) w4.heap.size y1 y2 y3 y4 PA y5.length pc) := Box.new w4 113 #[.int .i64 y1, .int .i64 y2, .int .i64 y3, .string ⟨y4.toArray⟩, .slice PA y5.length pc]
            have HPN5 := Lib.hid (HYP.out.below hal)
            have hg34 : w3.heap.size ≤ w4.heap.size := HB4.out.size
            have HFR := Lib.hid (show ∀ b, blkO O b → b < w4.heap.size from fun b hb => Nat.lt_of_lt_of_le (blkO_own HST3.out.o hb).2 hg34)
            generalize w4.alloc (.cells #[.int .i64 y1, .int .i64 y2, .int .i64 y3, .string ⟨y4.toArray⟩, .slice PA y5.length pc] 113) = w5 at *
            generalize w4.heap.size = g4 at *
            clear hal HYP HB4 hc0
            by_cases her : er = 0
            case neg =>
              have b1 : (er != 0) = true := by simpa using her
              have HRR := Lib.hid (show r = .error er by rw [HR2.out, HBF2.out, if_pos her])
              clear her HBF2
              go_wp2_with fail
              go_ret2
              exact CellsPost.err HRR.out HST5.out.bl
            subst her
            rw [if_neg (by simp)] at HBF2
            obtain ⟨hr0, hr1⟩ := HRNG.out rfl
            have hok := HOKF.out rfl
            have hps : y5.length ≤ 400 := hok.2.2.2.1
            obtain ⟨c0, c1', c2, c3, c4⟩ := ObBox.cells HOB5.out
            have hout : out.length ≤ 4000 := by have h1 := HIV.out.cnt; have h2 := HIV.out.gl; omega
            clear c0 c2 c3 hok HOKF HRNG
            by_cases h5 : y2 = 5
            · subst h5
              have HIV2 := Lib.hid (HIV.out.add (ps := y5) (out' := out ++ [n]) hr0 hr1 HSN.out hps HPX.out (by rw [List.length_append]; exact Nat.le_refl _))
              rw [if_pos rfl] at HBF2
              have HOA := Lib.hid (HST5.out.o.alloc (.cells #[.int .i64 n] 3))
              have HNW : Hid (∀ q v, [Value.int .i64 n][q]? = some v → (w5.alloc (.cells #[.int .i64 n] 3)).cell? ((⟨w5.heap.size, 0, none⟩ : Addr).add q) = some v) := Lib.hid (fun q v h => by rw [addr_add, Nat.zero_add, (Box.new w5 3 #[.int .i64 n]).cell q, ← h]; simp)
              have HSZ := Lib.hid (show W.heap.size ≤ (w5.alloc (.cells #[.int .i64 n] 3)).heap.size from Nat.le_trans HST5.out.bl.size (by simp))
              have HM1 := Lib.hid (show out.length + 1 ≤ maxLen by unfold maxLen; omega)
              go_upto_region 19 with (at_builtin; refine wpList_append_q rfl (.tmp 62) (.tmp 64) 55 rfl W.heap.size 3 i1 (.int .i64 0) 1 8 Try.underlying55 hi1 hy0 hy1 hy2 rfl (by decide) O out.length co (ints out) rfl HOA.out ⟨w5.heap.size, 0, none⟩ 1 1 [.int .i64 n] rfl rfl HNW.out (int_oneY n) HM1.out (by omega) HSZ.out (by decide) ?_; intro g9 o9 d9 w6 k1 k2 k3; have HG6 := Lib.hid (Grew.push (o := o9) k2 k3); have K1 := Lib.hid (show OwnAt w6 W.heap.size 3 1 (some ⟨g9, o9, none⟩) (out ++ [n]).length d9 (ints (out ++ [n])) by rw [List.length_append, show ints (out ++ [n]) = ints out ++ [.int .i64 n] by simp [ints]]; exact k1); clear k1 k2 k3)
              have HST6 := Lib.hid (HST5.out.pushO HG6.out K1.out)
              have hon6 : Only (fun b => blkO O b) w5 w6 := HG6.out.from_alloc.only
              have HPN6 := Lib.hid (HPN5.out.row.only (Nat.le_refl _) hon6 (fun a ha e => by
                have h1 := (HPN5.out.far a ha).1
                have h2 := (blkO_own HST3.out.o e).2
                omega))
              have hob6 : ObBox w6 g4 y1 5 y3 y4 PA y5.length pc := hon6.box HOB5.out (fun e => by have := HFR.out _ e; omega)
              obtain ⟨_, _, _, _, c4⟩ := ObBox.cells hob6
              clear c1' hon6 hob6
              have HSZ6 := Lib.hid (show W.heap.size ≤ w6.heap.size from HST6.out.bl.size)
              go_upto_region 8 with (at_builtin; go_loud (refine wpList_append_h0 rfl (.tmp 66) (.tmp 68) rfl W.heap.size (some ⟨gq, oq, none⟩) cq (x :: r9) rfl HST6.out.q PA pc _ y5 rfl HPN6.out (by simp only [List.length_cons]; omega) HSZ6.out ?_; intro Q7 c7 w7 hq7 hg7; have HST7 := Lib.hid (HST6.out.pushQ hg7 hq7); clear hq7 hg7))
              rw [List.cons_append] at HST7
              obtain ⟨Q8, hcut, hst8⟩ := HST7.out.cut
              rw [List.length_append, show r9.length + y5.length + 1 = r9.length + 1 + y5.length by omega] at hcut
              have HST8 := Lib.hid hst8
              clear hst8 c4
              go_wp2_with fail
              go_roundg f
              case measure => exact Nat.lt_succ_self f
              case rel => exact ⟨r9 ++ y5, seen ++ [n], (out ++ [n]), Q8, c7 - 1, (some ⟨g9, o9, none⟩), d9, HIV2.out, HBF2.out, by rw [List.length_append]; rfl, by rw [List.length_append], HST8.out⟩
            · have b5 : (y2 == 5) = false := by simpa using h5
              have HIV2 := Lib.hid (HIV.out.add (ps := y5) (out' := out) hr0 hr1 HSN.out hps HPX.out (Nat.le_succ _))
              rw [if_neg h5] at HBF2
              have HST6 := Lib.hid HST5.out
              have HPN6 := Lib.hid HPN5.out.row
              clear h5
              go_upto_region 19 with fail
              have HSZ6 := Lib.hid (show W.heap.size ≤ w5.heap.size from HST6.out.bl.size)
              go_upto_region 8 with (at_builtin; go_loud (refine wpList_append_h0 rfl (.tmp 66) (.tmp 68) rfl W.heap.size (some ⟨gq, oq, none⟩) cq (x :: r9) rfl HST6.out.q PA pc _ y5 rfl HPN6.out (by simp only [List.length_cons]; omega) HSZ6.out ?_; intro Q7 c7 w7 hq7 hg7; have HST7 := Lib.hid (HST6.out.pushQ hg7 hq7); clear hq7 hg7))
              rw [List.cons_append] at HST7
              obtain ⟨Q8, hcut, hst8⟩ := HST7.out.cut
              rw [List.length_append, show r9.length + y5.length + 1 = r9.length + 1 + y5.length by omega] at hcut
              have HST8 := Lib.hid hst8
              clear hst8 c4
              go_wp2_with fail
              go_roundg f
              case measure => exact Nat.lt_succ_self f
              case rel => exact ⟨r9 ++ y5, seen ++ [n], out, Q8, c7 - 1, O, co, HIV2.out, HBF2.out, rfl, by rw [List.length_append], HST8.out⟩
end Go.Proofs.Ytdjahlkjfpbifaa
