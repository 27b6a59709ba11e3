/-
  One end: what goes out, walked.
-/
import Derived.Test.YtaecgapoaagjfaaLineX6
namespace Go.Proofs.Ytaecgapoaagjfaa
open Go.RowKit

set_option maxRecDepth 100000 in
set_option maxHeartbeats 4000000 in
theorem out_x (B0 g m : Nat) (s : LS) (r : LR) (f : Nat → Nat) (w : World) (h : LineAt w B0 g m s r f) (hB : B0 ≤ w.heap.size) (hl : s.Q.length ≤ 16) (hlim : 0 ≤ s.lim ∧ s.lim ≤ 16) (hI : s.I.length ≤ 16) (hw : 0 ≤ s.win ∧ s.win ≤ 16) (hbs : 0 ≤ s.base ∧ s.base < 4294967296) (hsz : ∀ x ∈ s.Q, x.1.length ≤ 1048576) :
    Calls Try.prog 43 #[.pointer (some ⟨g, 0, none⟩)] w fun e w' => ∃ A c l, e = .returned (.slice A l.length c) ∧ l.length ≤ 16 ∧ Below B0 w w' ∧ OutAt w' B0 w.heap.size g m { s with Q := sentTo s.Q (min s.lim.toNat s.Q.length), due := false } A c l (outX s) := by
  have HH := Lib.hid h
  have hn := h.o1.1
  obtain ⟨_, c1, _, _, c4, _, _⟩ := h.xs
  have hn16 : r.l1.length ≤ 16 := by omega
  have HNQ := Lib.hid hn
  generalize r.l1.length = N at *
  obtain ⟨lm, hlm⟩ := Int.eq_ofNat_of_zero_le hlim.1
  have HLM := Lib.hid hlm
  rw [hlm] at c1
  obtain ⟨M, hM⟩ : ∃ M, M = min lm N := ⟨_, rfl⟩
  have HM := Lib.hid (show min s.lim.toNat s.Q.length = M by rw [hM, hlm, ← hn]; simp)
  have hMN : M ≤ N := by omega
  have hMN' : M ≤ s.Q.length := by omega
  have hlm16 : lm ≤ 16 := by omega
  have HSZ := Lib.hid hsz
  rw [HM.out]
  have HMM := Lib.hid hM
  clear h hn hlm hsz hM hlim
  go_enter Try.func43, Try.ntmps43
  go_upto_region 2 with fail
  go_cut [16, 17] (fun v i wx => v = .int .i64 M ∧ i = .int .i64 0 ∧ Below w.heap.size w wx)
  case first =>
    by_cases hlt : lm ≤ N
    · have hML : lm = M := by have := HMM.out; omega
      have HMLL := Lib.hid hML
      clear hML
      go_region
      go_wp2_with fail
      go_meet
      exact ⟨by simp; have := HMLL.out; omega, rfl, below_drewN (Below.refl _ _) 1⟩
    · have hML : N = M := by have := HMM.out; omega
      have HMLL := Lib.hid hML
      clear hML
      go_region
      go_wp2_with fail
      go_meet
      exact ⟨by simp; have := HMLL.out; omega, rfl, below_drewN (Below.refl _ _) 1⟩
  case rest =>
    obtain ⟨rfl, rfl, hbc⟩ := hcut
    have HC := Lib.hid (HH.out.below hbc)
    have HBC := Lib.hid hbc
    clear c1 c4 hbc HH HMM
    go_wp2_with fail
    go_loopg [3, 17] M (fun gk v i wr => ∃ (k : Nat) (A : Option Addr) (c : Nat) (lk : List KC), gk = M - k ∧ k ≤ M ∧ i = .int .i64 k ∧ v = .slice A lk.length c ∧ Below B0 w wr ∧ OutAt wr B0 w.heap.size g m { s with Q := sentTo s.Q k } A c lk (outP s k))
    case atStart => exact ⟨0, none, 0, [], by omega, by omega, rfl, rfl, HBC.out.mono hB, HBC.out.size, hB, r, f, by rw [sentTo_zero]; exact HC.out, ⟨rfl, OwnAt.nil, fun i hi => absurd hi (by simp)⟩, fun b hb => by cases hb⟩
    case round =>
      obtain ⟨k, A, c, lk, hgk, hk, rfl, rfl, hb, hout⟩ := hrel
      have HK := Lib.hid hgk
      have HBB := Lib.hid hb
      obtain ⟨r', f', hat, hmk, hA7⟩ := hout.ex
      have hB1 := hout.size
      obtain ⟨_, _, _, _, d4, _, d6⟩ := hat.xs
      have fr6 := hat.x.frozen 6
      have hll : r'.l1.length = N := by rw [hat.o1.1, HNQ.out]; exact sentTo_len s.Q k
      rw [hll] at d4
      have HAT := Lib.hid hat
      have HLL := Lib.hid hll
      have HMK := Lib.hid hmk
      have HA7 := Lib.hid hA7
      have hlk16 : lk.length ≤ k := by rw [hmk.1]; exact outP_len s k
      clear hgk hb hout hat hmk hA7 hll
      by_cases hlt : k < M
      · obtain ⟨g1, o1, hA1, hc⟩ := OwnAt.some_of HAT.out.o1.2.1 (by rw [HLL.out]; omega)
        have hown := HAT.out.o1.2.1
        simp only [hA1] at hown
        obtain ⟨b', o', e', _, p0, p1⟩ := hown.row.pend (i := k) (by rw [HLL.out]; omega) pc0
        injection e' with e'
        injection e' with e1 e2
        subst e1 e2
        have hel := HAT.out.o1.2.2 k (by rw [HLL.out]; omega)
        have hqk : (sentTo s.Q k).getD k ([], false) = s.Q.getD k ([], false) := sentTo_getD s.Q k (by omega)
        rw [show ({ s with Q := sentTo s.Q k } : LS).Q = sentTo s.Q k from rfl, hqk] at hel
        have fr2 := hown.frozen (o1 + k * 2 + 1)
        rw [hA1] at d4
        rw [hel.1] at p1
        by_cases hq : (s.Q.getD k ([], false)).2 = true
        · rw [hq] at p1
          have HQ := Lib.hid hq
          generalize r'.l1.getD k pc0 = x at *
          clear hq hel hqk hown hc
          go_wp2_with fail
          go_roundg (M - (k + 1))
          case measure => have := HK.out; omega
          case rel => exact ⟨k + 1, A, c, lk, rfl, by omega, by go_num, rfl, HBB.out, hB1, hB, r', f', by rw [sentTo_same s.Q k (by omega) HQ.out]; exact HAT.out, by rw [outP, if_pos HQ.out, List.append_nil]; exact HMK.out, HA7.out⟩
        · have hq' : (s.Q.getD k ([], false)).2 = false := by simpa using hq
          rw [hq'] at p1
          have hS := HAT.out.sent (i := k) hA1 (by rw [HLL.out]; omega) true
          have hS' : LineAt (wr.setCell ⟨g1, o1 + k * 2 + 1, none⟩ (.bool true)) B0 g m { s with Q := sentTo s.Q (k + 1) } (r'.mark k true) f' := by
            rw [← sentTo_succ s.Q k (by omega)]
            exact hS
          have f1 : f' g1 = 3 := HAT.out.f1 g1 (by rw [hA1]; rfl)
          have ho : Only (fun b => f' b = 3) wr (wr.setCell ⟨g1, o1 + k * 2 + 1, none⟩ (.bool true)) := (Only.refl (fun b => f' b = 3) wr).set (p := ⟨g1, o1 + k * 2 + 1, none⟩) f1 _
          have hmk2 := HMK.out.only (S' := fun b => w.heap.size ≤ b ∧ f' b = 8) ho (fun b hb => by rw [HA7.out b hb]; omega) (fun b hb _ => ⟨by rw [hb.2]; omega, hb⟩)
          have hb2 := HBB.out.setCell (p := ⟨g1, o1 + k * 2 + 1, none⟩) hown.lt.1 (.bool true)
          have hp0 : (wr.setCell ⟨g1, o1 + k * 2 + 1, none⟩ (.bool true)).cell? ⟨g1, o1 + k * 2, none⟩ = some (.slice (r'.l1.getD k pc0).b.A (r'.l1.getD k pc0).b.len (r'.l1.getD k pc0).b.cap) := by
            rw [World.cell?_setCell_other _ _ _ _ (by intro e; injection e with e1 e2; omega)]; exact p0
          have hbody := hel.2.keep (w' := wr.setCell ⟨g1, o1 + k * 2 + 1, none⟩ (.bool true)) (fun p hp => cell_off (fun e => by
            have h0 : f' p.block = 0 := hp.1
            rw [e] at h0
            have h1 : f' g1 = 0 := h0
            omega)) fun _ h => h
          have hsz1 : wr.heap.size = (wr.setCell ⟨g1, o1 + k * 2 + 1, none⟩ (.bool true)).heap.size := by simp
          have hg1 : g1 < wr.heap.size := hown.lt.2
          rw [hsz1] at hB1 hg1
          have HS := Lib.hid hS'
          have HO := Lib.hid ho
          have HM2 := Lib.hid hmk2
          have HB2 := Lib.hid hb2
          have HBO := Lib.hid hbody
          have HQ := Lib.hid hq
          generalize r'.l1.getD k pc0 = x at *
          clear hS hS' ho hmk2 hb2 hbody hq hel hqk hown hc hsz1
          go_wp2_with fail
          generalize wr.setCell ⟨g1, o1 + k * 2 + 1, none⟩ (.bool true) = w2 at *
          refine (packet_x B0 g m _ _ f' k w2 HS.out (by omega) hI hw hbs).mono ?_
          rintro e w3 ⟨rfl, hb3⟩
          have hp3 := (hb3.cell (p := ⟨g1, o1 + k * 2, none⟩) hg1).trans hp0
          have hp3' := fun o => (World.cell?_alloc_lt w3 o ⟨g1, o1 + k * 2, none⟩ (lt_of_cell hp3)).trans hp3
          have hg3 : g1 ≠ w3.heap.size := by have := lt_of_cell hp3; simp only at this; omega
          unfold lpkV bc0
          simp only
          obtain ⟨sq, hsq⟩ : ∃ sq, sq = Go.Proofs.Ytaecgapoaagjfaa.u32 (s.base + k) := ⟨_, rfl⟩
          rw [← hsq]
          have HSQ := Lib.hid hsq
          have bx := Box.new w3 85 #[.int .u32 sq, .int .u32 s.want, .bool false, .int .i64 (s.win - s.I.length), .slice none 0 0]
          have hb4 : Below w2.heap.size w2 (w3.alloc (.cells #[.int .u32 sq, .int .u32 s.want, .bool false, .int .i64 (s.win - s.I.length), .slice none 0 0] 85)) := hb3.alloc hb3.size _
          have hgx : w2.heap.size ≤ w3.heap.size := hb3.size
          have hbl := HSZ.out _ (getD_mem ([], false) (show k < s.Q.length by omega))
          have HB4 := Lib.hid hb4
          have HBX := Lib.hid bx
          have HBL := Lib.hid hbl
          clear hsq hb4 bx hb3 hbl
          go_wp2_with fail
          generalize w3.heap.size = gx at *
          generalize w3.alloc (.cells #[.int .u32 sq, .int .u32 s.want, .bool false, .int .i64 (s.win - s.I.length), .slice none 0 0] 85) = w4 at *
          refine (clone_body x.b _ 0 _ w4 (HBO.out.lt.keep (fun p hp => HB4.out.cell hp.2) fun _ h => h) (by have := HBL.out; omega)).mono ?_
          rintro e w5 ⟨y, rfl, hy, hb5⟩
          have bx5 := HBX.out.below hb5 HBX.out.lt
          have k0 := bx5.cell 0
          have k1 := bx5.cell 1
          have k2 := bx5.cell 2
          have k3 := bx5.cell 3
          have k4 := bx5.cell 4
          have z2 := bx5.frozen 2
          have z4 := bx5.frozen 4
          simp only [List.getElem?_toArray, List.getElem?_cons_zero, List.getElem?_cons_succ] at k0 k1 k2 k3 k4
          have HB5 := Lib.hid (HB4.out.trans (hb5.mono HB4.out.size))
          have HBW := Lib.hid (fun o => ((HB5.out.setCell (p := ⟨gx, 2, none⟩) hgx (.bool true)).setCell (p := ⟨gx, 4, none⟩) hgx (.slice y.A y.len y.cap)).alloc (by simpa using HB5.out.size) o)
          have HKW := Lib.hid (fun (o : Obj) => show BIn (((w5.setCell ⟨gx, 2, none⟩ (.bool true)).setCell ⟨gx, 4, none⟩ (.slice y.A y.len y.cap)).alloc o) (w2.heap.size ≤ ·) 0 y (s.Q.getD k ([], false)).1 from hy.lt.keep (fun p hp => by
            have h1 : w4.heap.size ≤ p.block := hp.1
            have h2 := HBX.out.lt
            rw [World.cell?_alloc_lt _ _ _ (by simpa using hp.2), cell_off (by show p.block ≠ gx; omega), cell_off (by show p.block ≠ gx; omega)]) fun b hp => by
            have h1 : w4.heap.size ≤ b := hp.1
            have h2 := HB4.out.size
            show w2.heap.size ≤ b
            omega)
          have hlk48 : (lk.length + 1) * 48 ≤ 140737488355328 := by omega
          have hnew := lpk_new ((w5.setCell ⟨gx, 2, none⟩ (.bool true)).setCell ⟨gx, 4, none⟩ (.slice y.A y.len y.cap)) ⟨sq, s.want, true, s.win - s.I.length, y⟩
          rw [show ((w5.setCell ⟨gx, 2, none⟩ (.bool true)).setCell ⟨gx, 4, none⟩ (.slice y.A y.len y.cap)).heap.size = w5.heap.size by simp] at hnew
          have HNEW := Lib.hid hnew
          clear hp3 hp3' hp0 hb5 hy hnew
          go_wp2_with (at_builtin; go_loud (refine wpList_mk2_lpk rfl (.tmp 44) (.tmp 46) rfl w.heap.size (fun b => w.heap.size ≤ b ∧ lab1 f' w2.heap.size b = 8) 0 A c lk.length lk (outP s k) rfl rfl (HS.out.preMk HM2.out (HBW.out _)) _ ⟨sq, s.want, true, s.win - s.I.length, y⟩ ⟨sq, s.want, true, s.win - s.I.length, (s.Q.getD k ([], false)).1⟩ rfl HNEW.out (HS.out.preK HM2.out hB1 ⟨⟨rfl, rfl, rfl, rfl⟩, HKW.out _⟩) hlk48 (Nat.le_trans hB1 (HBW.out _).size) ?_; intro A' c' w7 hmk7 hb7 ho7 hA'; have hfin := (HS.out.pre (HBW.out _)).post (A := A) (fun b hb => (lab1_old (blk_lt HM2.out.2.1 hb)).trans (HA7.out b hb)) hB (Nat.le_trans hB1 (HBW.out _).size) hmk7 ho7 hA'; have hb7' := (HB2.out.trans ((HBW.out _).mono (Nat.le_trans hB hB1))).trans (hb7.mono hB); have HFIN := Lib.hid hfin; have HB7 := Lib.hid hb7'; clear hmk7 hb7 ho7 hA' hfin hb7'))
          go_roundg (M - (k + 1))
          case measure => have := HK.out; omega
          case rel => exact ⟨k + 1, A', c', lk ++ [⟨sq, s.want, true, s.win - s.I.length, y⟩], rfl, by omega, by go_num, by rw [List.length_append]; rfl, HB7.out, by rw [outP, if_neg HQ.out, ← HSQ.out]; exact HFIN.out⟩
      · obtain rfl : k = M := by omega
        have hout : OutAt wr B0 w.heap.size g m { s with Q := sentTo s.Q k } A c lk (outP s k) := ⟨hB1, hB, r', f', HAT.out, HMK.out, HA7.out⟩
        have HOX := Lib.hid (show outX s = if outP s k = [] ∧ s.due = true then [ackP s] else outP s k by unfold outX; rw [HM.out])
        have hgB := HAT.out.hg
        have hlv : lk.length = (outP s k).length := HMK.out.1
        by_cases hz : lk.length = 0
        · have hP0 : outP s k = [] := List.eq_nil_of_length_eq_zero (by omega)
          have e1 : ((lk.length : Int) == 0) = true := by rw [hz]; rfl
          have e2 : (lk.length == 0) = true := by rw [hz]; rfl
          rw [show ({ s with Q := sentTo s.Q k } : LS).due = s.due from rfl] at d6
          have HZ := Lib.hid hz
          have HP0 := Lib.hid hP0
          clear hz hP0
          cases hdue : s.due
          · rw [hdue] at d6
            have HF := Lib.hid hout.due0
            have HE := Lib.hid (show outX s = outP s k by rw [HOX.out, if_neg (by rw [hdue]; simp)])
            clear hdue hlv hout
            go_wp2_with fail
            go_ret
            exact ⟨A, c, lk, rfl, by have := HZ.out; omega, HBB.out.setCell (p := ⟨g, 6, none⟩) hgB _, by rw [HE.out]; exact HF.out⟩
          · rw [hdue] at d6
            have HE := Lib.hid (show outX s = [ackP s] by rw [HOX.out, if_pos ⟨HP0.out, hdue⟩])
            clear hdue hlv hout
            go_wp2_with fail
            refine (packet_x B0 g m _ _ f' N wr HAT.out (by omega) hI hw hbs).mono ?_
            rintro e w3 ⟨rfl, hb3⟩
            unfold lpkV bc0
            simp only
            obtain ⟨sq, hsq⟩ : ∃ sq, sq = Go.Proofs.Ytaecgapoaagjfaa.u32 (s.base + N) := ⟨_, rfl⟩
            rw [← hsq]
            have HSQ := Lib.hid hsq
            have HBW := Lib.hid (fun o => hb3.alloc hb3.size o)
            have HNEW := Lib.hid (lpk_new w3 ⟨sq, s.want, false, s.win - s.I.length, bc0⟩)
            have HKW := Lib.hid (fun (o : Obj) => show BIn (w3.alloc o) (wr.heap.size ≤ ·) 0 bc0 [] from BIn.none)
            have hlk48 : (lk.length + 1) * 48 ≤ 140737488355328 := by have := HZ.out; omega
            clear hsq hb3 d6 fr6
            go_wp2_with (at_builtin; refine wpList_mk2_lpk rfl (.tmp 58) (.tmp 66) rfl w.heap.size (fun b => w.heap.size ≤ b ∧ lab1 f' wr.heap.size b = 8) 0 A c lk.length lk (outP s k) rfl rfl (HAT.out.preMk HMK.out (HBW.out _)) _ ⟨sq, s.want, false, s.win - s.I.length, bc0⟩ ⟨sq, s.want, false, s.win - s.I.length, []⟩ rfl HNEW.out (HAT.out.preK HMK.out hB1 ⟨⟨rfl, rfl, rfl, rfl⟩, HKW.out _⟩) hlk48 (Nat.le_trans hB1 (HBW.out _).size) ?_; intro A' c' w7 hmk7 hb7 ho7 hA'; have hfin := (HAT.out.pre (HBW.out _)).post (A := A) (fun b hb => (lab1_old (blk_lt HMK.out.2.1 hb)).trans (HA7.out b hb)) hB (Nat.le_trans hB1 (HBW.out _).size) hmk7 ho7 hA'; have hb7' := (HBB.out.trans ((HBW.out _).mono (Nat.le_trans hB hB1))).trans (hb7.mono hB); have HFIN := Lib.hid hfin; have HB7 := Lib.hid hb7'; obtain ⟨rz, fz, hatz, _, _⟩ := hfin.ex; have d6z := hatz.xs.2.2.2.2.2.2; have fr6z := hatz.x.frozen 6; clear hmk7 hb7 ho7 hA' hfin hb7' hatz)
            go_ret
            refine ⟨A', c', lk ++ [⟨sq, s.want, false, s.win - s.I.length, bc0⟩], by rw [List.length_append]; rfl, by rw [List.length_append]; have := HZ.out; simp; omega, HB7.out.setCell (p := ⟨g, 6, none⟩) hgB _, ?_⟩
            rw [HE.out]
            have := HFIN.out.due0
            rw [HP0.out, List.nil_append] at this
            rw [show ackP s = ⟨sq, s.want, false, s.win - s.I.length, []⟩ by rw [HSQ.out, HNQ.out]; rfl]
            exact this
        · have e1 : ((lk.length : Int) == 0) = false := by rw [beq_eq_false_iff_ne]; omega
          have e2 : (lk.length == 0) = false := by rw [beq_eq_false_iff_ne]; omega
          have HF := Lib.hid hout.due0
          have HE := Lib.hid (show outX s = outP s k by rw [HOX.out, if_neg (fun h => by rw [h.1] at hlv; exact hz hlv)])
          clear hz hlv hout
          go_wp2_with fail
          go_ret
          exact ⟨A, c, lk, rfl, by omega, HBB.out.setCell (p := ⟨g, 6, none⟩) hgB _, by rw [HE.out]; exact HF.out⟩
end Go.Proofs.Ytaecgapoaagjfaa
