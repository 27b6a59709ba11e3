
/-
  Links: the law's comparison of Watch, Link and Linked.
-/
import Derived.Test.YtgjimjpbogadjaaLk7
namespace Go.Proofs.Ytgjimjpbogadjaa
open Go.RowKit

set_option maxRecDepth 100000 in
set_option maxHeartbeats 4000000 in
theorem lawlinked_any (A : Option Addr) (c : Nat) (l : List LkC) (vs : List Lk) (i : Nat) (b : Int) (w : World) (hin : lkRow w (· < w.heap.size) 0 A c l vs) (hil : i < vs.length) (hok : LkOk vs) (hv : I64 b)
    (B : Option Addr) (cb : Nat) (lb : List LkC) (VB : List Lk) (E2 : Int) (hB : lkRow w (· < w.heap.size) 0 B cb lb VB)
    (hB1 : (vs.getD i lk0).ws.length = 100 → VB = [] ∧ E2 = 6) (hB2 : (vs.getD i lk0).ws.length ≠ 100 → VB = vs.set i ⟨(vs.getD i lk0).ref, (vs.getD i lk0).ws ++ [b], (vs.getD i lk0).ls⟩ ∧ E2 = 0)
    (C : Option Addr) (cc : Nat) (lq : List LkC) (VC : List Lk) (E3 : Int) (hC : lkRow w (· < w.heap.size) 0 C cc lq VC)
    (hC1 : (vs.getD i lk0).ls.contains b = true → VC = vs ∧ E3 = 0) (hC2 : (vs.getD i lk0).ls.contains b = false → (vs.getD i lk0).ls.length = 100 → VC = [] ∧ E3 = 6)
    (hC3 : (vs.getD i lk0).ls.contains b = false → (vs.getD i lk0).ls.length ≠ 100 → VC = vs.set i ⟨(vs.getD i lk0).ref, (vs.getD i lk0).ws, (vs.getD i lk0).ls ++ [b]⟩ ∧ E3 = 0) :
    Calls Try.prog 57 #[.slice A l.length c, .int .i64 i, .int .i64 b, .slice B VB.length cb, .int .i64 E2, .slice C VC.length cc, .int .i64 E3, .bool ((vs.getD i lk0).ls.contains b), .int .i64 0] w fun e w' => e = .returned (.bool true) ∧ Below w.heap.size w w' := by
  have hl100 := hok.len
  have hln := (hok.rows _ (getD_mem lk0 hil)).2
  have HIN := Lib.hid (fun (w' : World) (hb : Below w.heap.size w w') => (hin.below hb (fun _ h => h)).keep (w' := w') (S' := (· < w'.heap.size)) (fun _ _ => rfl) (fun b h => Nat.lt_of_lt_of_le h hb.size))
  have HBR := Lib.hid (fun (w' : World) (hb : Below w.heap.size w w') => (hB.below hb (fun _ h => h)).keep (w' := w') (S' := (· < w'.heap.size)) (fun _ _ => rfl) (fun b h => Nat.lt_of_lt_of_le h hb.size))
  have HCR := Lib.hid (fun (w' : World) (hb : Below w.heap.size w w') => (hC.below hb (fun _ h => h)).keep (w' := w') (S' := (· < w'.heap.size)) (fun _ _ => rfl) (fun b h => Nat.lt_of_lt_of_le h hb.size))
  have HLV := Lib.hid hin.1
  have HLB := Lib.hid hB.1
  have HLC := Lib.hid hC.1
  have hill : i < l.length := by rw [hin.1]; exact hil
  have hi1 : (i : Int) < (l.length : Int) := by omega
  obtain ⟨g0, o0, rfl, hg0, c0, c1, c2, i1, i2⟩ := hin.at hill
  have hL100 : l.length ≤ 100 := by rw [hin.1]; exact hl100
  have HV := Lib.hid hv
  have HIL := Lib.hid hil
  obtain ⟨v, hvv⟩ : ∃ v, vs.getD i lk0 = v := ⟨_, rfl⟩
  rw [hvv] at hB1 hB2 hC1 hC2 hC3 hln c0 c1 c2 i1 i2 ⊢
  generalize l.getD i lkc0 = x at *
  obtain ⟨v0, ws, ls⟩ := v
  obtain ⟨x0, ⟨WA, wl, wc⟩, ⟨LA, ll, lc⟩⟩ := x
  dsimp only at hB1 hB2 hC1 hC2 hC3 hln c0 c1 c2 i1 i2 ⊢
  have HVV := Lib.hid hvv
  have hws := hln.1
  have hls := hln.2
  have H1 := Lib.hid hB1
  have H2 := Lib.hid hB2
  have H3 := Lib.hid hC1
  have H4 := Lib.hid hC2
  have H5 := Lib.hid hC3
  have hal : Below w.heap.size w (w.alloc (.cells #[.int .i64 v0, .slice WA ws.length wc, .slice LA ls.length lc] 114)) := (Below.refl _ _).alloc (Nat.le_refl _) _
  have HB1 := Lib.hid hal
  have hbx := Box.new w 114 #[.int .i64 v0, .slice WA ws.length wc, .slice LA ls.length lc]
  have HI2 := Lib.hid (i2.row.below hal)
  clear hvv hln hB1 hB2 hC1 hC2 hC3 i1 i2 hin hB hC hok hv hil hal
  rw [← HLB.out, ← HLC.out]
  obtain ⟨nB, hnB⟩ : ∃ n, lb.length = n := ⟨_, rfl⟩
  obtain ⟨nC, hnC⟩ : ∃ n, lq.length = n := ⟨_, rfl⟩
  rw [hnB, hnC]
  have HNB := Lib.hid hnB
  have HNC := Lib.hid hnC
  clear hnB hnC
  have hgs := hbx.lt
  have HCN := Lib.hid (contains_any LA lc _ ls b _ HI2.out (by omega))
  generalize ls.contains b = q at *
  go_enter Try.func57, Try.ntmps57
  go_upto_region 2 with fail
  obtain ⟨g1, hg1⟩ : ∃ g1, w.heap.size = g1 := ⟨_, rfl⟩
  rw [hg1] at hbx hgs ⊢
  clear c0 c1 c2 hg1
  generalize w.alloc (.cells #[.int .i64 v0, .slice WA ws.length wc, .slice LA ls.length lc] 114) = w1 at *
  have r1 := hbx.cell 1
  have r2 := hbx.cell 2
  simp only [List.getElem?_toArray, List.getElem?_cons_zero, List.getElem?_cons_succ] at r1 r2
  clear hbx
  have HRR1 := Lib.hid r1
  have HRR2 := Lib.hid r2
  go_wp2_with fail
  refine HCN.out.mono ?_
  rintro e w' ⟨rfl, rfl⟩
  have hqq : (q != q) = false := by cases q <;> rfl
  have HOW := Lib.hid (linkOwn_any _ c l vs w1 (HIN.out w1 HB1.out) hL100)
  clear HCN
  go_wp2_with fail
  refine HOW.out.mono ?_
  rintro e w2 ⟨A', c', l', rfl, hl', ho, hb2⟩
  clear HOW r1 r2
  have hil' : i < l'.length := by rw [hl']; exact hill
  have hL'1 : l'.length * 56 ≤ reachBytes := by rw [hl']; unfold reachBytes; omega
  obtain ⟨g, o, rfl, hg, d0, d1, d2, j1, j2⟩ := (ho.lkRow hL'1).at hil'
  rw [HVV.out] at d0 d1 d2 j1 j2
  have hbase : w1.heap.size ≤ g := ho.row.lt.1
  have HBO := Lib.hid hb2
  have HO := Lib.hid ho
  have HEW := Lib.hid (by have h := (ho.each i hil').W; rw [HVV.out] at h; exact h)
  have HLL := Lib.hid hl'
  obtain ⟨x, hxx⟩ : ∃ x, l'.getD i lkc0 = x := ⟨_, rfl⟩
  rw [hxx] at d1 d2 HEW
  have HXX := Lib.hid hxx
  clear hb2 ho hl' j1 j2 hxx
  obtain ⟨y0, ⟨YA, yl, yc⟩, ⟨ZA, zl, zc⟩⟩ := x
  dsimp only at d0 d1 d2 HEW
  have hql := HEW.out.len
  dsimp only at hql
  subst hql
  have hal : Below w2.heap.size w2 (w2.alloc (.cells #[.int .i64 b] 3)) := (Below.refl _ _).alloc (Nat.le_refl _) _
  have HOA := Lib.hid (HO.out.below hal)
  have HEA := Lib.hid (HEW.out.below hal)
  have HAS := Lib.hid hal.size
  have hm1 : ws.length + 1 ≤ 101 := by omega
  have hgl1 : g < (w2.alloc (.cells #[.int .i64 b] 3)).heap.size := Nat.lt_of_lt_of_le hg hal.size
  have HGI := Lib.hid (show blkS YA g → lkB ⟨y0, ⟨YA, ws.length, yc⟩, ⟨ZA, zl, zc⟩⟩ g from fun h => .inl h)
  clear hal
  go_upto_region 7 with (at_builtin; refine wpList_append_line rfl (.tmp 46) (.tmp 48) rfl w1.heap.size YA ws.length yc ws rfl rfl HEA.out w2.heap.size b HV.out rfl ((Box.new _ _ _).cell 0) (Nat.le_trans HBO.out.size HAS.out) hm1 ?_; intro A2 c3 w3 hy2 ho2 hyb2; have hput := HOA.out.putW hil' (by rw [HXX.out]; exact ho2) hy2 (by rw [HXX.out]; exact hyb2); obtain ⟨⟨uu, huu⟩, hfz⟩ := HOA.out.still hil' ho2 (fun hg0 => HOA.out.off i hil' g (by rw [HXX.out]; exact HGI.out hg0) rfl) (j := 1) (by decide); have HPUT := Lib.hid hput; have HO2 := Lib.hid ho2; clear hput hy2 ho2 hyb2)
  have HBw4 := Lib.hid (((HBO.out.alloc HBO.out.size _).trans (HO2.out.to_below (Below.refl _ _) (Nat.le_trans HBO.out.size HAS.out) (fun b hb => (blkS_lt HEA.out.own hb).1))).setCell (p := ⟨g, o + i * 3 + 1, none⟩) hbase (.slice A2 (ws.length + 1) c3))
  have HPw4 := Lib.hid (show OwnLks (w3.setCell ⟨g, o + i * 3 + 1, none⟩ (.slice A2 (ws.length + 1) c3)) w1.heap.size (some ⟨g, o, none⟩) c' (l'.set i ⟨(l'.getD i lkc0).r, ⟨A2, ws.length + 1, c3⟩, (l'.getD i lkc0).L⟩) (vs.set i ⟨v0, ws ++ [b], ls⟩) by have h := HPUT.out; rw [HVV.out] at h; exact h)
  have HLw4 := Lib.hid (show (l'.set i ⟨(l'.getD i lkc0).r, ⟨A2, ws.length + 1, c3⟩, (l'.getD i lkc0).L⟩).length = l.length by rw [List.length_set]; exact HLL.out)
  clear HPUT HO2 HXX HEW HOA HEA HAS HGI HO HBO huu hfz d0 d1 d2
  generalize l'.set i ⟨(l'.getD i lkc0).r, ⟨A2, ws.length + 1, c3⟩, (l'.getD i lkc0).L⟩ = l2 at *
  generalize w3.setCell ⟨g, o + i * 3 + 1, none⟩ (.slice A2 (ws.length + 1) c3) = w4 at *
  have rr1 := (HBw4.out.cell (p := ⟨g1, 1, none⟩) hgs).trans HRR1.out
  have HSM := Lib.hid (fun (h : VB = vs.set i ⟨v0, ws ++ [b], ls⟩) => by
    have h1 := sameLinks_true B (some ⟨g, o, none⟩) cb c' lb l2 VB _ _ w4 (HBR.out w4 (HB1.out.trans (HBw4.out.mono HB1.out.size))) (by rw [h]; exact HPw4.out.lkRow (by rw [HLw4.out]; unfold reachBytes; omega))
    rw [HNB.out, HLw4.out] at h1
    exact h1)
  go_upto_if 55 with fail
  go_cut [55] from 52 to 70 (fun _ wx => Below w1.heap.size w1 wx)
  case first =>
    by_cases hfull : ws.length = 100
    · obtain ⟨e1, e2⟩ := H1.out hfull
      have hnb := HNB.out
      have hlb := HLB.out
      rw [e1] at hlb
      obtain rfl : nB = 0 := by rw [← hnb, hlb]; rfl
      subst e2
      have b2 : ((ws.length : Int) == 100) = true := by simp; omega
      have b2' : (ws.length == 100) = true := by simp; omega
      clear hfull e1 hnb hlb
      go_wp2_with fail
      go_meet
      exact HBw4.out
    · obtain ⟨e1, e2⟩ := H2.out hfull
      subst e2
      have HS := Lib.hid (HSM.out e1)
      have b2 : ((ws.length : Int) == 100) = false := by simp; omega
      have b2' : (ws.length == 100) = false := by simp; omega
      clear hfull e1 HSM
      go_wp2_with fail
      refine HS.out.mono ?_
      rintro e w5 ⟨rfl, m, rfl⟩
      go_wp2_with fail
      go_meet
      exact below_drewN HBw4.out m
  case rest =>
  obtain ⟨w5, hw5⟩ : ∃ w5, w5 = wc := ⟨_, rfl⟩
  subst hw5
  have HB5 := Lib.hid (HB1.out.trans (hcut.mono HB1.out.size))
  have rr2 := (hcut.cell (p := ⟨g1, 2, none⟩) hgs).trans HRR2.out
  clear hcut HSM HPw4 HBw4 HLw4 rr1
  cases q
  case false =>
    by_cases hfull : ls.length = 100
    · obtain ⟨e1, e2⟩ := H4.out rfl hfull
      have hnc := HNC.out
      have hlc := HLC.out
      rw [e1] at hlc
      obtain rfl : nC = 0 := by rw [← hnc, hlc]; rfl
      subst e2
      have b2 : ((ls.length : Int) == 100) = true := by simp; omega
      have b2' : (ls.length == 100) = true := by simp; omega
      clear hfull e1 hnc hlc
      go_wp2_with fail
      go_ret
      exact ⟨rfl, HB5.out⟩
    obtain ⟨e1, e2⟩ := H5.out rfl hfull
    subst e2
    have HE := Lib.hid e1
    have b2 : ((ls.length : Int) == 100) = false := by simp; omega
    have b2' : (ls.length == 100) = false := by simp; omega
    have HOW := Lib.hid (linkOwn_any _ c l vs w5 (HIN.out w5 HB5.out) hL100)
    clear hfull e1
    go_wp2_with fail
    refine HOW.out.mono ?_
    rintro e w2 ⟨A', c', l', rfl, hl', ho, hb2⟩
    clear HOW rr2
    have hil' : i < l'.length := by rw [hl']; exact hill
    have hL'1 : l'.length * 56 ≤ reachBytes := by rw [hl']; unfold reachBytes; omega
    obtain ⟨g, o, rfl, hg, d0, d1, d2, j1, j2⟩ := (ho.lkRow hL'1).at hil'
    rw [HVV.out] at d0 d1 d2 j1 j2
    have hbase : w5.heap.size ≤ g := ho.row.lt.1
    have HBO := Lib.hid hb2
    have HO := Lib.hid ho
    have HEW := Lib.hid (by have h := (ho.each i hil').L; rw [HVV.out] at h; exact h)
    have HLL := Lib.hid hl'
    obtain ⟨x, hxx⟩ : ∃ x, l'.getD i lkc0 = x := ⟨_, rfl⟩
    rw [hxx] at d1 d2 HEW
    have HXX := Lib.hid hxx
    clear hb2 ho hl' j1 j2 hxx
    obtain ⟨y0, ⟨YA, yl, yc⟩, ⟨ZA, zl, zc⟩⟩ := x
    dsimp only at d0 d1 d2 HEW
    have hql := HEW.out.len
    dsimp only at hql
    subst hql
    have hal : Below w2.heap.size w2 (w2.alloc (.cells #[.int .i64 b] 3)) := (Below.refl _ _).alloc (Nat.le_refl _) _
    have HOA := Lib.hid (HO.out.below hal)
    have HEA := Lib.hid (HEW.out.below hal)
    have HAS := Lib.hid hal.size
    have hm1 : ls.length + 1 ≤ 101 := by omega
    have hgl1 : g < (w2.alloc (.cells #[.int .i64 b] 3)).heap.size := Nat.lt_of_lt_of_le hg hal.size
    have HGI := Lib.hid (show blkS ZA g → lkB ⟨y0, ⟨YA, yl, yc⟩, ⟨ZA, ls.length, zc⟩⟩ g from fun h => .inr h)
    clear hal
    go_upto_region 17 with (at_builtin; refine wpList_append_line rfl (.tmp 96) (.tmp 98) rfl w5.heap.size ZA ls.length zc ls rfl rfl HEA.out w2.heap.size b HV.out rfl ((Box.new _ _ _).cell 0) (Nat.le_trans HBO.out.size HAS.out) hm1 ?_; intro A2 c3 w3 hy2 ho2 hyb2; have hput := HOA.out.putL hil' (by rw [HXX.out]; exact ho2) hy2 (by rw [HXX.out]; exact hyb2); obtain ⟨⟨uu, huu⟩, hfz⟩ := HOA.out.still hil' ho2 (fun hg0 => HOA.out.off i hil' g (by rw [HXX.out]; exact HGI.out hg0) rfl) (j := 2) (by decide); have HPUT := Lib.hid hput; have HO2 := Lib.hid ho2; clear hput hy2 ho2 hyb2)
    have HBw6 := Lib.hid (((HBO.out.alloc HBO.out.size _).trans (HO2.out.to_below (Below.refl _ _) (Nat.le_trans HBO.out.size HAS.out) (fun b hb => (blkS_lt HEA.out.own hb).1))).setCell (p := ⟨g, o + i * 3 + 2, none⟩) hbase (.slice A2 (ls.length + 1) c3))
    have HPw6 := Lib.hid (show OwnLks (w3.setCell ⟨g, o + i * 3 + 2, none⟩ (.slice A2 (ls.length + 1) c3)) w5.heap.size (some ⟨g, o, none⟩) c' (l'.set i ⟨(l'.getD i lkc0).r, (l'.getD i lkc0).W, ⟨A2, ls.length + 1, c3⟩⟩) (vs.set i ⟨v0, ws, ls ++ [b]⟩) by have h := HPUT.out; rw [HVV.out] at h; exact h)
    have HLw6 := Lib.hid (show (l'.set i ⟨(l'.getD i lkc0).r, (l'.getD i lkc0).W, ⟨A2, ls.length + 1, c3⟩⟩).length = l.length by rw [List.length_set]; exact HLL.out)
    clear HPUT HO2 HXX HEW HOA HEA HAS HGI HO HBO huu hfz d0 d1 d2
    generalize l'.set i ⟨(l'.getD i lkc0).r, (l'.getD i lkc0).W, ⟨A2, ls.length + 1, c3⟩⟩ = l2 at *
    generalize w3.setCell ⟨g, o + i * 3 + 2, none⟩ (.slice A2 (ls.length + 1) c3) = w6 at *
    have hsm := sameLinks_true C (some ⟨g, o, none⟩) cc c' lq l2 VC _ _ w6 (HCR.out w6 (HB5.out.trans (HBw6.out.mono HB5.out.size))) (by rw [HE.out]; exact HPw6.out.lkRow (by rw [HLw6.out]; unfold reachBytes; omega))
    rw [HNC.out, HLw6.out] at hsm
    have HSM := Lib.hid hsm
    clear hsm
    go_wp2_with fail
    refine HSM.out.mono ?_
    rintro e w7 ⟨rfl, m, rfl⟩
    go_wp2_with fail
    go_ret
    exact ⟨rfl, below_drewN (HB5.out.trans (HBw6.out.mono HB5.out.size)) m⟩
  case true =>
    obtain ⟨e1, e2⟩ := H3.out rfl
    subst e2
    have HE := Lib.hid e1
    have HOW := Lib.hid (linkOwn_any _ c l vs w5 (HIN.out w5 HB5.out) hL100)
    clear e1 rr2
    go_wp2_with fail
    refine HOW.out.mono ?_
    rintro e w6 ⟨A', c', l', rfl, hl', ho, hb2⟩
    have HB6 := Lib.hid (HB5.out.trans (hb2.mono HB5.out.size))
    have hsm := sameLinks_true C A' cc c' lq l' VC _ _ w6 (HCR.out w6 HB6.out) (by rw [HE.out]; exact ho.lkRow (by rw [hl']; unfold reachBytes; omega))
    rw [HNC.out, hl'] at hsm
    have HSM := Lib.hid hsm
    clear hsm ho hb2 HOW hl'
    go_wp2_with fail
    refine HSM.out.mono ?_
    rintro e w7 ⟨rfl, m, rfl⟩
    go_wp2_with fail
    go_ret
    exact ⟨rfl, below_drewN HB6.out m⟩
end Go.Proofs.Ytgjimjpbogadjaa
