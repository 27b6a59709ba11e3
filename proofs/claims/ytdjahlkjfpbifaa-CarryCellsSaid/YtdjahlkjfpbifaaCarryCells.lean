
/-
  The law CarryCells: its walk.
-/
import Derived.Test.YtdjahlkjfpbifaaCc2
import Derived.Test.YtdjahlkjfpbifaaHp9
import Derived.Test.YtdjahlkjfpbifaaEqual
namespace Go.Proofs.Ytdjahlkjfpbifaa
open Go.RowKit

/-- What Cells has handed back, whichever way the search goes. -/
structure CcRes (R : Except Int (List Int)) (w : World) (base : Nat) (A : Option Addr) (n c : Nat) (e : Int) : Prop where
  err : ∀ er, R = .error er → n = 0 ∧ e = er
  ok : ∀ l, R = .ok l → n = l.length ∧ e = 0 ∧ OwnAt w base 3 1 A (srtI l).length c (ints (srtI l)) ∧ l.length ≤ 4000

set_option maxRecDepth 100000 in
set_option maxHeartbeats 8000000 in
theorem carryCells_walk (A : Option Addr) (c : Nat) (g : List Nat) (u : Nat) (W : World) (hh : HpIn W A c g) (hu : u < 18446744073709551616) :
    Calls Try.prog 7 #[.slice A g.length c, .int .u64 (u : Int)] W fun e w' => e = .returned (.bool true) ∧ Below W.heap.size W w' := by
  have HH := Lib.hid (fun (w' : World) (hb : Below W.heap.size W w') => hh.below hb)
  have HCA := Lib.hid (cells_any A c g u W hh hu)
  have HOB := Lib.hid (fun (w' : World) (hb : Below W.heap.size W w') => heapObjects_any A c g w' (hh.below hb))
  have hgc := hh.le
  have hgm := hh.cap
  unfold maxLen at hgm
  have hmm := @run_makeMap Try.prog
  clear hh
  by_cases hbad : (allR g).2 ≠ 0
  case pos =>
    have hca := HCA.out
    unfold CellsPost cellsF at hca
    rw [if_pos hbad] at hca
    dsimp only at hca
    have HC := Lib.hid hca
    generalize hE : (allR g).2 = E at *
    have b1 : (E != 0) = true := by simpa using hbad
    have HE := Lib.hid hE
    clear hca hbad hE HCA
    go_enter Try.func7, Try.ntmps7
    go_wp2_with fail
    refine HC.out.mono ?_
    rintro e w1 ⟨hb1, rfl⟩
    have HB1 := Lib.hid hb1
    have HO1 := Lib.hid (HOB.out w1 hb1)
    clear hb1
    go_wp2_with fail
    refine HO1.out.mono ?_
    rintro e w2 ⟨hb2, A1, n1, c1, ys, er, rfl, _, _, hr2⟩
    have HB2 := Lib.hid (HB1.out.trans (hb2.mono HB1.out.size))
    obtain rfl : er = E := by rw [← HE.out, hr2]
    clear hb2 hr2
    go_wp2_with fail
    go_ret
    exact ⟨rfl, HB2.out⟩
  have hge : (allR g).2 = 0 := by simpa using hbad
  have hca : Calls Try.prog 52 #[.slice A g.length c, .int .u64 (u : Int)] W fun e w' => Below W.heap.size W w' ∧ ∃ A9 n9 c9 e9, e = .returned (.tuple #[.slice A9 n9 c9, .int .i64 e9]) ∧ CcRes (bfs0 g u) w' W.heap.size A9 n9 c9 e9 := by
    refine HCA.out.mono ?_
    rintro e w' hcp
    unfold CellsPost cellsF at hcp
    rw [if_neg hbad] at hcp
    obtain ⟨hb, hcp⟩ := hcp
    refine ⟨hb, ?_⟩
    rcases hR : bfs0 g u with er | l
    · rw [hR] at hcp
      dsimp only at hcp
      exact ⟨none, 0, 0, er, hcp, ⟨(fun _ h => by injection h with h; exact ⟨rfl, h⟩), (fun _ h => by cases h)⟩⟩
    · rw [hR] at hcp
      dsimp only at hcp
      obtain ⟨A9, c9, he, ho, hl⟩ := hcp
      refine ⟨A9, _, c9, 0, he, ⟨(fun _ h => by cases h), (fun l' h => ?_)⟩⟩
      injection h with h
      subst h
      exact ⟨srtI_len _, rfl, ho, by rw [← srtI_len]; exact hl⟩
  have hgl := allR_lenC (h := g) hge
  have HGE := Lib.hid hge
  have HC := Lib.hid hca
  clear hca hbad hge HCA
  go_enter Try.func7, Try.ntmps7
  go_wp2_with fail
  refine HC.out.mono ?_
  rintro e w1 ⟨hb1, A9, n9, c9, e9, rfl, hcr⟩
  have HB1 := Lib.hid hb1
  have HCR := Lib.hid hcr
  have HO1 := Lib.hid (HOB.out w1 hb1)
  clear hb1 hcr
  go_wp2_with fail
  refine HO1.out.mono ?_
  rintro e w2 ⟨hb2, A1, n1, c1, ys, er, rfl, _, _, hr2⟩
  have HB2 := Lib.hid (HB1.out.trans (hb2.mono HB1.out.size))
  have HB12 := Lib.hid hb2
  obtain rfl : er = 0 := by rw [← HGE.out, hr2]
  have HIV := Lib.hid (BInv.start hgl hu)
  have HST := Lib.hid (BSt.start (W := w2) (w := w2) (u := u) (Below.refl _ _))
  rw [show (w2.alloc (.map #[] 0)).heap.size = w2.heap.size + 1 by simp] at HST
  clear hb2 hr2 HC HOB
  go_upto_region 8 with fail
  generalize (w2.alloc (.map #[] 0)).alloc (.cells #[.int .u64 (u : Int)] 90) = w3 at *
  obtain ⟨gs, hgs⟩ : ∃ gs, w2.heap.size = gs := ⟨_, rfl⟩
  have hst := HST.out
  rw [hgs] at hst ⊢
  have HST3 := Lib.hid hst
  clear hgs hmm hst HST
  obtain ⟨i1, hi1, hy0, hy1, hy2⟩ := int_partsY
  go_loopg [10, 11] (g.length * 401 + 1) (fun gk ov qv wr => ∃ (todo : List Nat) (seen out : List Int) (Q : Option Addr) (cq : Nat) (O : Option Addr) (co : Nat), BInv g gk todo seen out ∧ bfs0 g u = bfsF g gk todo seen out ∧ ov = .slice O out.length co ∧ qv = .slice Q todo.length cq ∧ BSt w2 wr gs Q cq todo O co out seen)
  case atStart => exact ⟨[u], [], [], _, 1, none, 0, HIV.out, rfl, rfl, rfl, HST3.out⟩
  case round =>
    clear HIV HST3
    obtain ⟨todo, seen, out, Q, cq, O, co, hiv, hbf, rfl, rfl, hst⟩ := hrel
    have HIV := Lib.hid hiv
    have HBF := Lib.hid hbf
    have HST := Lib.hid hst
    have HBW := Lib.hid (HB2.out.trans (hst.bl.mono HB2.out.size))
    clear hiv hbf hst
    cases todo with
    | nil =>
      obtain ⟨hn9, he9, ho9, hl4⟩ := HCR.out.ok out (by rw [HBF.out, bfsF_nil])
      subst he9
      have HO9 := Lib.hid (ho9.below HB12.out)
      have HN9 := Lib.hid hn9
      have HSO := Lib.hid (sort_own O out.length co w2.heap.size out wr HST.out.o rfl (by omega))
      clear ho9 hn9
      go_wp2_with fail
      refine HSO.out.mono ?_
      rintro e w4 ⟨rfl, ho4, hon4⟩
      have hb4 : Below w2.heap.size w2 w4 := hon4.to_below HST.out.bl HST.out.bl.size (fun b hb => (blkO_own HST.out.o hb).1)
      have heq := equal_any A9 O c9 co (srtI out) (srtI out) w4.heap.size w4.heap.size w4 ((HO9.out.below hb4).row) ho4.row (by rw [srtI_len]; unfold maxLen; omega) (by rw [srtI_len]; unfold maxLen; omega)
      rw [srtI_len, ← HN9.out, decide_eq_true rfl] at heq
      have heq2 : Calls Try.prog 55 #[.slice A9 n9 c9, .slice O out.length co] w4 fun e w' => e = .returned (.bool true) ∧ ∃ n, w' = w4.drewN n := by rw [HN9.out] at heq ⊢; exact heq
      have HEQ := Lib.hid heq2
      have HB4 := Lib.hid (HB2.out.trans (hb4.mono HB2.out.size))
      clear ho4 hon4 hb4 heq heq2
      go_wp2_with fail
      refine HEQ.out.mono ?_
      rintro e w5 ⟨rfl, nd, rfl⟩
      go_wp2_with fail
      go_ret
      exact ⟨rfl, below_drewN HB4.out nd⟩
    | cons x r9 =>
      obtain ⟨f, rfl⟩ := HIV.out.pos
      have hbf := HBF.out
      rw [bfsF_cons] at hbf
      have hx := HIV.out.fit x List.mem_cons_self
      have hrd := fun w' => tagRead_any (x : Int) w' (nat_u64 hx).1 (nat_u64 hx).2
      have hni := readN_i64 (x : Int)
      obtain ⟨gq, oq, hQ, _, hc0⟩ := Row.hu HST.out.q.row (show 0 < (x :: r9).length by simp) 0
      subst hQ
      rw [Nat.zero_mul, Nat.add_zero, List.getD_cons_zero] at hc0
      have hlen9 : r9.length ≤ 1608000 := by have h1 := HIV.out.mu; have h2 := HIV.out.gl; have h3 := HIV.out.f0; simp only [List.length_cons] at h1; omega
      rw [List.length_cons]
      clear HBF
      cases hrb : readB (x : Int) with
      | false =>
        rw [hrb, if_pos rfl] at hbf
        rw [hrb] at hrd
        simp only [Bool.false_eq_true, if_false] at hrd
        have HRD := Lib.hid hrd
        have HAT := Lib.hid (objectAt_any A c g 0 wr (HH.out wr HBW.out))
        obtain ⟨hn9, he9⟩ := HCR.out.err 3 hbf
        subst hn9 he9
        clear hbf hrd hni hrb
        go_upto_region 12 with (first
          | (go_at_call 53; refine (HRD.out _).mono ?_; rintro e wk ⟨rfl, rfl⟩)
          | (go_at_call 49; refine HAT.out.mono ?_; rintro e w4 ⟨hb4, y, b, rfl, _, _, _⟩; unfold ocV; have HB4 := Lib.hid (HBW.out.trans (hb4.mono HBW.out.size)); clear hb4; obtain ⟨⟨y1, y2, y3, y4, y5⟩, PA, pc⟩ := y; dsimp only))
        have HB5 := Lib.hid (HB4.out.alloc HB4.out.size (.cells #[.int .i64 y1, .int .i64 y2, .int .i64 y3, .string ⟨y4.toArray⟩, .slice PA y5.length pc] 113))
        generalize w4.alloc (.cells #[.int .i64 y1, .int .i64 y2, .int .i64 y3, .string ⟨y4.toArray⟩, .slice PA y5.length pc] 113) = w5 at *
        go_wp2_with fail
        go_ret
        exact ⟨rfl, HB5.out⟩
      | true =>
        rw [hrb, if_neg (by decide)] at hbf
        rw [hrb] at hrd
        simp only [if_true] at hrd
        by_cases hsk : (x : Int) % 8 ≠ 4 ∨ seen.contains (readN (x : Int)) = true
        · rw [if_pos hsk] at hbf
          have HRD := Lib.hid hrd
          have HBF2 := Lib.hid hbf
          have HAT := Lib.hid (objectAt_any A c g (readN (x : Int)) wr (HH.out wr HBW.out))
          have HLK := Lib.hid (fun (w' : World) (hb : Below wr.heap.size wr w') => (HST.out.on hb).look hni)
          obtain ⟨sn, hsn⟩ : ∃ sn, seen.contains (readN (x : Int)) = sn := ⟨_, rfl⟩
          rw [hsn] at HLK hsk
          obtain ⟨Q', hcut, hst'⟩ := HST.out.cut
          have HST2 := Lib.hid hst'
          clear hbf hrd hni hrb hst' hsn
          generalize (x : Int) % 8 = t at *
          generalize readN (x : Int) = n at *
          go_upto_region 12 with (first
            | (go_at_call 53; refine (HRD.out _).mono ?_; rintro e wk ⟨rfl, rfl⟩)
            | (go_at_call 49; refine HAT.out.mono ?_; rintro e w4 ⟨hb4, y, b, rfl, _, _, _⟩; unfold ocV; have HB4 := Lib.hid hb4; clear hb4; obtain ⟨⟨y1, y2, y3, y4, y5⟩, PA, pc⟩ := y; dsimp only))
          have HB5 := Lib.hid (HB4.out.alloc HB4.out.size (.cells #[.int .i64 y1, .int .i64 y2, .int .i64 y3, .string ⟨y4.toArray⟩, .slice PA y5.length pc] 113))
          generalize w4.alloc (.cells #[.int .i64 y1, .int .i64 y2, .int .i64 y3, .string ⟨y4.toArray⟩, .slice PA y5.length pc] 113) = w5 at *
          have hlk := HLK.out w5 HB5.out
          have HST5 := Lib.hid (HST2.out.on HB5.out)
          by_cases h4 : t = 4
          · subst h4
            obtain rfl : sn = true := by rcases hsk with h | h; exact absurd rfl h; exact h
            clear hsk
            go_wp2_with fail
            go_roundg f
            case measure => exact Nat.lt_succ_self f
            case rel => exact ⟨r9, seen, out, Q', cq - 1, O, co, HIV.out.skip, HBF2.out, rfl, rfl, HST5.out⟩
          · have b4 : (t != 4) = true := by simpa using h4
            clear hsk h4
            go_wp2_with fail
            go_roundg f
            case measure => exact Nat.lt_succ_self f
            case rel => exact ⟨r9, seen, out, Q', cq - 1, O, co, HIV.out.skip, HBF2.out, rfl, rfl, HST5.out⟩
        · rw [if_neg hsk] at hbf
          have h4 : (x : Int) % 8 = 4 := by
            by_cases h : (x : Int) % 8 = 4
            · exact h
            · exact absurd (.inl h) hsk
          have hsn : seen.contains (readN (x : Int)) = false := by
            cases h : seen.contains (readN (x : Int)) with
            | false => rfl
            | true => exact absurd (.inr h) hsk
          have hn0 : 0 ≤ readN (x : Int) := by
            have h := hrb
            unfold readB at h
            rw [h4] at h
            unfold validB at h
            simp at h
            exact h.1
          rw [h4] at hrd
          have HRD := Lib.hid hrd
          have HBF2 := Lib.hid hbf
          have HSN := Lib.hid hsn
          have HNI := Lib.hid hni
          have HAT := Lib.hid (objectAt_any A c g (readN (x : Int)) wr (HH.out wr HBW.out))
          have HPX := Lib.hid (parts_fit (h := g) (p := readN (x : Int)) (HH.out W (Below.refl _ _)).fit)
          have HOKF := Lib.hid (fun e => rdF_okC (h := g) (p := readN (x : Int)) e)
          have HOUT := Lib.hid (fun h => rdF_out (h := g) (p := readN (x : Int)) h)
          have HNO := Lib.hid (fun hio e => rdF_none (h := g) (p := readN (x : Int)) hio e)
          have HSO := Lib.hid (fun hio o e => rdF_some (h := g) (o := o) (p := readN (x : Int)) hio e)
          have HLK := Lib.hid (fun (w' : World) (hb : Below wr.heap.size wr w') => (HST.out.on hb).look hni)
          rw [hsn] at HLK
          clear hbf hrd hrb h4 hsk hsn hni
          generalize readN (x : Int) = n at *
          go_upto_region 12 with (first
            | (go_at_call 53; refine (HRD.out _).mono ?_; rintro e wk ⟨rfl, rfl⟩)
            | (go_at_call 49; refine HAT.out.mono ?_; rintro e w4 ⟨hb4, y, b, rfl, hyo, _, hyp⟩; unfold ocV; have HYO := Lib.hid hyo; have HYP := Lib.hid hyp; have HB4 := Lib.hid hb4; clear hb4 hyo hyp; obtain ⟨⟨y1, y2, y3, y4, y5⟩, PA, pc⟩ := y; dsimp only))
          have hyo := HYO.out
          have hal := (Below.refl w4.heap.size w4).alloc (Nat.le_refl _) (.cells #[.int .i64 y1, .int .i64 y2, .int .i64 y3, .string ⟨y4.toArray⟩, .slice PA y5.length pc] 113)
          have HB5 := Lib.hid (HB4.out.alloc HB4.out.size (.cells #[.int .i64 y1, .int .i64 y2, .int .i64 y3, .string ⟨y4.toArray⟩, .slice PA y5.length pc] 113))
          have HOB5 : Hid (ObBox (w4.alloc (.cells #[.int .i64 y1, .int .i64 y2, .int .i64 y3, .string ⟨y4.toArray⟩, .slice PA y5.length pc] 113)) w4.heap.size y1 y2 y3 y4 PA y5.length pc) := Box.new w4 113 #[.int .i64 y1, .int .i64 y2, .int .i64 y3, .string ⟨y4.toArray⟩, .slice PA y5.length pc]
          have HPN5 := Lib.hid (HYP.out.below hal)
          have hg34 : wr.heap.size ≤ w4.heap.size := HB4.out.size
          generalize w4.alloc (.cells #[.int .i64 y1, .int .i64 y2, .int .i64 y3, .string ⟨y4.toArray⟩, .slice PA y5.length pc] 113) = w5 at *
          generalize w4.heap.size = g4 at *
          have hlk := HLK.out w5 HB5.out
          have HBW5 := Lib.hid (HBW.out.trans (HB5.out.mono HBW.out.size))
          clear hal HYP HB4 HYO hc0 HAT HRD
          by_cases hin : (g.length : Int) ≤ n
          · have e1 := (HOUT.out (.inr hin)).1
            have hbf := HBF2.out
            rw [e1, if_pos (by decide)] at hbf
            obtain ⟨hn9, he9⟩ := HCR.out.err _ hbf
            subst hn9 he9
            have d2 : decide ((g.length : Int) ≤ n) = true := decide_eq_true hin
            clear hbf e1 hin hyo HBF2
            go_wp2_with fail
            go_ret
            exact ⟨rfl, HBW5.out⟩
          have hio : ¬ (n < 0 ∨ (g.length : Int) ≤ n) := by omega
          have d2 : decide ((g.length : Int) ≤ n) = false := decide_eq_false hin
          cases b with
          | false =>
            have e1 := HNO.out hio hyo
            have hbf := HBF2.out
            rw [e1, if_pos (by decide)] at hbf
            obtain ⟨hn9, he9⟩ := HCR.out.err _ hbf
            subst hn9 he9
            clear hbf e1 hin hyo hio HBF2
            go_wp2_with fail
            go_ret
            exact ⟨rfl, HBW5.out⟩
          | true =>
            have e1 := HSO.out hio _ hyo
            rw [e1] at HBF2 HPX HOKF
            dsimp only at HBF2 HPX HOKF
            rw [if_neg (by simp)] at HBF2
            have hps : y5.length ≤ 400 := (HOKF.out rfl).2.2.2.1
            have hr1 : n < (g.length : Int) := by omega
            have hst5 := HST.out.on HB5.out
            obtain ⟨w6, hup, hst6, hon6⟩ := hst5.mark2 HNI.out (by have h1 := HIV.out.sn; have h2 := HIV.out.gl; omega)
            have HST6 := Lib.hid hst6
            have hgs := HST.out.slt
            have hs56 : w5.heap.size ≤ w6.heap.size := hon6.size
            have hob6 : ObBox w6 g4 y1 y2 y3 y4 PA y5.length pc := hon6.box HOB5.out (fun e => by omega)
            have HOB6 := Lib.hid hob6
            have HPR6 := Lib.hid (HPN5.out.row.only (Nat.le_refl _) hon6 (fun a ha e => by have h1 := (HPN5.out.far a ha).1; omega))
            have hout : out.length ≤ 4000 := by have h1 := HIV.out.cnt; have h2 := HIV.out.gl; omega
            have HFO := Lib.hid (show ∀ b, blkO O b → b < g4 from fun b hb => by have h1 := (blkO_own HST.out.o hb).2; omega)
            have HFP := Lib.hid (show ∀ a, PA = some a → ¬ blkO O a.block from fun a ha e => by have h1 := (HPN5.out.far a ha).1; have h2 := (blkO_own HST.out.o e).2; omega)
            have HUP := Lib.hid hup
            obtain ⟨c0, c1', c2, c3, c4⟩ := ObBox.cells hob6
            clear c0 c2 c3 hst5 hst6 hon6 hob6 hin hio hyo e1 HOKF HNO HSO HOUT
            by_cases h5 : y2 = 5
            · subst h5
              have HIV2 := Lib.hid (HIV.out.add (ps := y5) (out' := out ++ [n]) hn0 hr1 HSN.out hps HPX.out (by rw [List.length_append]; exact Nat.le_refl _))
              rw [if_pos rfl] at HBF2
              have HOA := Lib.hid (HST6.out.o.alloc (.cells #[.int .i64 n] 3))
              have HNW : Hid (∀ q v, [Value.int .i64 n][q]? = some v → (w6.alloc (.cells #[.int .i64 n] 3)).cell? ((⟨w6.heap.size, 0, none⟩ : Addr).add q) = some v) := Lib.hid (fun q v h => by rw [addr_add, Nat.zero_add, (Box.new w6 3 #[.int .i64 n]).cell q, ← h]; simp)
              have HSZ := Lib.hid (show w2.heap.size ≤ (w6.alloc (.cells #[.int .i64 n] 3)).heap.size from Nat.le_trans HST6.out.bl.size (by simp))
              have HM1 := Lib.hid (show out.length + 1 ≤ maxLen by unfold maxLen; omega)
              go_upto_region 22 with (at_builtin; refine wpList_append_q rfl (.tmp 105) (.tmp 107) 55 rfl w2.heap.size 3 i1 (.int .i64 0) 1 8 Try.underlying55 hi1 hy0 hy1 hy2 rfl (by decide) O out.length co (ints out) rfl HOA.out ⟨w6.heap.size, 0, none⟩ 1 1 [.int .i64 n] rfl rfl HNW.out (int_oneY n) HM1.out (by omega) HSZ.out (by decide) ?_; intro g9 o9 d9 w7 k1 k2 k3; have HG7 := Lib.hid (Grew.push (o := o9) k2 k3); have K1 := Lib.hid (show OwnAt w7 w2.heap.size 3 1 (some ⟨g9, o9, none⟩) (out ++ [n]).length d9 (ints (out ++ [n])) by rw [List.length_append, show ints (out ++ [n]) = ints out ++ [.int .i64 n] by simp [ints]]; exact k1); clear k1 k2 k3)
              have HST7 := Lib.hid (HST6.out.pushO HG7.out K1.out)
              have hon7 : Only (fun b => blkO O b) w6 w7 := HG7.out.from_alloc.only
              have HPR7 := Lib.hid (HPR6.out.only hs56 hon7 (fun a ha e => HFP.out a ha e))
              have hob7 : ObBox w7 g4 y1 5 y3 y4 PA y5.length pc := hon7.box HOB6.out (fun e => by have := HFO.out _ e; omega)
              obtain ⟨_, _, _, _, c4⟩ := ObBox.cells hob7
              clear c1' hon7 hob7 hup
              have HSZ7 := Lib.hid (show w2.heap.size ≤ w7.heap.size from HST7.out.bl.size)
              go_upto_region 9 with (at_builtin; go_loud (refine wpList_append_h0 rfl (.tmp 109) (.tmp 111) rfl w2.heap.size (some ⟨gq, oq, none⟩) cq (x :: r9) rfl HST7.out.q PA pc _ y5 rfl HPR7.out (by simp only [List.length_cons]; omega) HSZ7.out ?_; intro Q7 c7 w8 hq8 hg8; have HST8 := Lib.hid (HST7.out.pushQ hg8 hq8); clear hq8 hg8))
              rw [List.cons_append] at HST8
              obtain ⟨Q8, hcut, hst9⟩ := HST8.out.cut
              rw [List.length_append, show r9.length + y5.length + 1 = r9.length + 1 + y5.length by omega] at hcut
              have HST9 := Lib.hid hst9
              clear hst9 c4
              go_wp2_with fail
              go_roundg f
              case measure => exact Nat.lt_succ_self f
              case rel => exact ⟨r9 ++ y5, seen ++ [n], (out ++ [n]), Q8, c7 - 1, (some ⟨g9, o9, none⟩), d9, HIV2.out, HBF2.out, by rw [List.length_append]; rfl, by rw [List.length_append], HST9.out⟩
            · have b5 : (y2 == 5) = false := by simpa using h5
              have HIV2 := Lib.hid (HIV.out.add (ps := y5) (out' := out) hn0 hr1 HSN.out hps HPX.out (Nat.le_succ _))
              rw [if_neg h5] at HBF2
              have HST7 := Lib.hid HST6.out
              have HPR7 := Lib.hid HPR6.out
              clear h5
              go_upto_region 22 with fail
              have HSZ7 := Lib.hid (show w2.heap.size ≤ w6.heap.size from HST7.out.bl.size)
              go_upto_region 9 with (at_builtin; go_loud (refine wpList_append_h0 rfl (.tmp 109) (.tmp 111) rfl w2.heap.size (some ⟨gq, oq, none⟩) cq (x :: r9) rfl HST7.out.q PA pc _ y5 rfl HPR7.out (by simp only [List.length_cons]; omega) HSZ7.out ?_; intro Q7 c7 w8 hq8 hg8; have HST8 := Lib.hid (HST7.out.pushQ hg8 hq8); clear hq8 hg8))
              rw [List.cons_append] at HST8
              obtain ⟨Q8, hcut, hst9⟩ := HST8.out.cut
              rw [List.length_append, show r9.length + y5.length + 1 = r9.length + 1 + y5.length by omega] at hcut
              have HST9 := Lib.hid hst9
              clear hst9 c4
              go_wp2_with fail
              go_roundg f
              case measure => exact Nat.lt_succ_self f
              case rel => exact ⟨r9 ++ y5, seen ++ [n], out, Q8, c7 - 1, O, co, HIV2.out, HBF2.out, rfl, by rw [List.length_append], HST9.out⟩
end Go.Proofs.Ytdjahlkjfpbifaa
