
/-
  Histories: the walk of roadref4.Past.
-/
import Derived.Test.YtgkckldflfalgaaEv3
namespace Go.Proofs.Ytgkckldflfalgaa
open Go.RowKit

set_option maxRecDepth 100000 in
set_option maxHeartbeats 4000000 in
theorem past_any (A : Option Addr) (c : Nat) (l : List Ev) (W : World) (hr : Row W W.heap.size A (flat evC l)) (hl200 : l.length ≤ 200) :
    Calls Try.prog 7 #[.slice A l.length c] W fun e w' => ∃ g, e = .returned (.slice (some ⟨g, 0, none⟩) l.length l.length) ∧ BMat w' w'.heap.size (some ⟨g, 0, none⟩) l.length (befB l) ∧ Below W.heap.size W w' := by
  have hm1 := make_brows l.length (by omega)
  have hm2 := make_bools l.length (by omega)
  have HR := Lib.hid hr
  have HAL := Lib.hid (show PastDone l l.length W (W.alloc (.cells (hdrs l.length 0 fun _ => 0) 30)) W.heap.size 0 (fun _ => 0) from
    ⟨Box.new _ _ _, (fun j hj => by omega), (fun j hj => by omega), Nat.le_refl _, (Below.refl _ _).alloc (Nat.le_refl _) _⟩)
  clear hr
  go_enter Try.func7, Try.ntmps7
  go_wp2_with fail
  generalize W.alloc (.cells (hdrs l.length 0 fun _ => 0) 30) = W1 at *
  go_loopg [15] l.length (fun gk v wr => ∃ (i : Nat) (h : Nat → Nat), gk = l.length - i ∧ i ≤ l.length ∧ v = .int .i64 i ∧ PastDone l l.length W wr W.heap.size i h)
  case atStart => exact ⟨0, _, by omega, by omega, rfl, HAL.out⟩
  case round =>
    clear hm1
    obtain ⟨i, h, hgk, hi, rfl, hst⟩ := hrel
    have HK := Lib.hid hgk
    clear hgk HAL
    by_cases hlt : i < l.length
    · obtain ⟨b, o, hA, hbl, hc0, hc1, hc2⟩ := (HR.out.below hst.bel).ev hlt (0, 0, 0)
      have HE := Lib.hid (show evAt l i = l.getD i (0, 0, 0) from rfl)
      generalize l.getD i (0, 0, 0) = x at *
      obtain ⟨ep, ek, em⟩ := x
      dsimp only at hc0 hc1 hc2
      subst hA
      go_upto_region 5 with fail
      have hge0 : W.heap.size < wr.heap.size := hst.box.lt
      have hst1 := hst.alloc (.cells #[.int .i64 ep, .int .i64 ek, .int .i64 em] 41)
      have hbe := Box.new wr 41 #[.int .i64 ep, .int .i64 ek, .int .i64 em]
      clear hc0 hc1 hc2 hst
      generalize wr.heap.size = ge at *
      generalize wr.alloc (.cells #[.int .i64 ep, .int .i64 ek, .int .i64 em] 41) = w1 at *
      clear wr
      have hh : w1.cell? ⟨W.heap.size, i, none⟩ = some (.slice none 0 0) := (hst1.box.cell i).trans (by simp [hdrs, hlt])
      have hf := hst1.box.frozen i
      have hg0 : W.heap.size < w1.heap.size := hst1.box.lt
      have HST := Lib.hid (hst1.begin (bools l.length fun _ => false) rfl)
      have HBE := Lib.hid (((hbe.far (p := ⟨W.heap.size, i, none⟩) (by simp; omega) (.slice (some ⟨w1.heap.size, 0, none⟩) l.length l.length)).alloc (.cells (bools l.length fun _ => false) 4)))
      have hgi : ge < w1.heap.size := hbe.lt
      clear hst1 hbe
      go_wp2_with fail
      clear hm2 hh hf hg0
      generalize w1.heap.size = gi at *
      generalize (w1.setCell ⟨W.heap.size, i, none⟩ (.slice (some ⟨gi, 0, none⟩) l.length l.length)).alloc (.cells (bools l.length fun _ => false) 4) = w2 at *
      clear w1
      have HHI := Lib.hid (show (fun j => if j = i then gi else h j) i = gi from if_pos rfl)
      generalize (fun j => if j = i then gi else h j) = h2 at *
      go_loopg [6] i (fun gk v wr => ∃ (m : Nat) (q : Int) (cc : Nat → Bool), gk = m ∧ m ≤ i ∧ q = m - 1 ∧ v = .int .i64 q ∧ PastSt l l.length W wr W.heap.size i h2 cc ∧ (∀ j, j < l.length → cc j = curB l i m j) ∧ Box wr ge 41 #[.int .i64 ep, .int .i64 ek, .int .i64 em])
      case atStart => exact ⟨i, _, _, rfl, Nat.le_refl _, rfl, rfl, HST.out, (fun j _ => (curB_top l i j).symm), HBE.out⟩
      case round =>
        clear HST HBE
        obtain ⟨m, q, cc, hgk, hm, hq, rfl, hst, hcc, hbe⟩ := hrel
        have HCC := Lib.hid hcc
        have HGK := Lib.hid hgk
        clear hcc hgk
        cases m with
        | zero =>
          obtain rfl : q = -1 := by omega
          have HST := Lib.hid (hst.done (fun j hj => (HCC.out j hj).trans (curB_zero l i j)))
          clear hst hbe hq
          go_wp2_with fail
          go_roundg (l.length - (i + 1))
          case measure => have := HK.out; omega
          case rel => exact ⟨i + 1, h2, rfl, by omega, by go_num, HST.out⟩
        | succ m =>
          obtain rfl : q = (m : Int) := by omega
          clear hq
          obtain ⟨b1, o1, hA, _, hc0, hc1, hc2⟩ := (HR.out.below hst.bel).ev (show m < l.length by omega) (0, 0, 0)
          obtain ⟨rfl, rfl⟩ : b1 = b ∧ o1 = o := by simp at hA; exact ⟨hA.1.symm, hA.2.symm⟩
          have HX := Lib.hid (show evAt l m = l.getD m (0, 0, 0) from rfl)
          generalize l.getD m (0, 0, 0) = x at *
          obtain ⟨xp, xk, xm⟩ := x
          dsimp only at hc0 hc1 hc2
          have hml : m < l.length := by omega
          go_upto_region 10 with fail
          have hst1 := hst.alloc (.cells #[.int .i64 xp, .int .i64 xk, .int .i64 xm] 41)
          have hbe1 := hbe.alloc (.cells #[.int .i64 xp, .int .i64 xk, .int .i64 xm] 41)
          have hbx := Box.new wr 41 #[.int .i64 xp, .int .i64 xk, .int .i64 xm]
          clear hc0 hc1 hc2 hst hbe
          generalize wr.heap.size = gx at *
          generalize wr.alloc (.cells #[.int .i64 xp, .int .i64 xk, .int .i64 xm] 41) = w3 at *
          clear wr
          have HST := Lib.hid hst1
          have HBE := Lib.hid hbe1
          have e0 := hbe1.cell 0
          have e1 := hbe1.cell 1
          have e2 := hbe1.cell 2
          have x0 := hbx.cell 0
          have x1 := hbx.cell 1
          have x2 := hbx.cell 2
          clear hst1 hbe1 hbx
          go_cut [57] (fun s wx => s = .bool (dirB (xp, xk, xm) (ep, ek, em)) ∧ w3 = wx)
          case first =>
            have HD := Lib.hid (show dirB (xp, xk, xm) (ep, ek, em) = (xp == ep || (ek == 3 && xk == 2 && xm == em)) from rfl)
            generalize dirB (xp, xk, xm) (ep, ek, em) = d at *
            cases q1 : (xp == ep) with
            | true =>
              have HE := Lib.hid (show d = true by rw [HD.out, q1]; rfl)
              go_wp2_with fail
              go_meet
              exact ⟨by rw [HE.out], rfl⟩
            | false =>
              cases q2 : (ek == 3) with
              | false =>
                have HE := Lib.hid (show d = false by rw [HD.out, q1, q2]; rfl)
                go_wp2_with fail
                go_meet
                exact ⟨by rw [HE.out], rfl⟩
              | true =>
                cases q3 : (xk == 2) with
                | false =>
                  have HE := Lib.hid (show d = false by rw [HD.out, q1, q2, q3]; rfl)
                  go_wp2_with fail
                  go_meet
                  exact ⟨by rw [HE.out], rfl⟩
                | true =>
                  have HE := Lib.hid (show d = (xm == em) by rw [HD.out, q1, q2, q3]; rfl)
                  go_wp2_with fail
                  go_meet
                  exact ⟨by rw [HE.out], rfl⟩
          case rest =>
            obtain ⟨rfl, rfl⟩ := hcut
            clear e0 e1 e2 x0 x1 x2
            have HD := Lib.hid (show dirB (evAt l m) (evAt l i) = dirB (xp, xk, xm) (ep, ek, em) by rw [HX.out, HE.out])
            generalize dirB (xp, xk, xm) (ep, ek, em) = d at *
            cases d with
            | false =>
              go_wp2_with fail
              go_roundg m
              case measure => have := HGK.out; omega
              case rel => exact ⟨m, m - 1, cc, rfl, by omega, rfl, rfl, HST.out, (fun j hj => (HCC.out j hj).trans (curB_no j HD.out).symm), HBE.out⟩
            | true =>
              have HH := HHI.out
              have hn1 : m < i + 1 := by omega
              have hst := HST.out
              have c0 := (hst.box.cell i).trans (hdrs_get hlt (Nat.lt_succ_self i))
              have c1 := (hst.box.cell m).trans (hdrs_get hml hn1)
              have c2 := (hst.row.cell m).trans (bools_get hml)
              have f2 := hst.row.frozen m
              have HST1 := Lib.hid (hst.put (j := m) true)
              have HBE1 := Lib.hid (HBE.out.far (p := ⟨h2 i, m, none⟩) (by rw [HH]; exact fun e => by simp at e; omega) (.bool true))
              rw [HH] at c0 c2 f2 HST1 HBE1
              clear hst HST HBE hn1 HH
              go_upto_region 12 with fail
              generalize w3.setCell ⟨gi, m, none⟩ (.bool true) = w4 at *
              clear c0 c1 c2 f2 w3
              have hn1 : m < i + 1 := by omega
              have c1 := (HST1.out.box.cell m).trans (hdrs_get hml hn1)
              have HHM := Lib.hid (Eq.refl (h2 m))
              generalize hgm : h2 m = gm at *
              have HGM := Lib.hid hgm
              clear hgm HHM hn1
              go_wp2_with fail
              clear c1
              go_loopg [69] l.length (fun gk v wr => ∃ (t : Nat) (cd : Nat → Bool), gk = l.length - t ∧ t ≤ l.length ∧ v = .int .i64 t ∧ PastSt l l.length W wr W.heap.size i h2 cd ∧ (∀ j, j < l.length → cd j = if j < t then curB l i m j else if j = m then true else cc j) ∧ Box wr ge 41 #[.int .i64 ep, .int .i64 ek, .int .i64 em])
              case atStart => exact ⟨0, _, by omega, by omega, rfl, HST1.out, (fun j _ => by rw [if_neg (Nat.not_lt_zero j)]), HBE1.out⟩
              case round =>
                clear HST1 HBE1
                obtain ⟨t, cd, hgk, ht, rfl, hst, hcd, hbe⟩ := hrel
                have HGT := Lib.hid hgk
                clear hgk
                by_cases htl : t < l.length
                · have HH := HHI.out
                  have hm1 : m < i := by omega
                  have c0 := (hst.box.cell i).trans (hdrs_get hlt (Nat.lt_succ_self i))
                  have c2 := (hst.row.cell t).trans (bools_get htl)
                  have f2 := hst.row.frozen t
                  have c3 := ((hst.rows m hm1).cell t).trans (bools_get htl)
                  rw [HGM.out] at c3
                  rw [HH] at c0 c2 f2
                  have hnew : curB l i m t = (cd t || befB l m t) := by rw [hcd t htl, if_neg (Nat.lt_irrefl t), HCC.out t htl]; exact curB_yes t hm1 HD.out
                  have HPUT := Lib.hid (fun v (hv : curB l i m t = v) => show PastSt l l.length W (wr.setCell ⟨gi, t, none⟩ (.bool v)).drew W.heap.size i h2 (fun j => if j = t then v else cd j) ∧ (∀ j, j < l.length → (fun j => if j = t then v else cd j) j = if j < t + 1 then curB l i m j else if j = m then true else cc j) ∧ Box (wr.setCell ⟨gi, t, none⟩ (.bool v)).drew ge 41 #[.int .i64 ep, .int .i64 ek, .int .i64 em] from by
                    rw [← HH]
                    refine ⟨(hst.put (j := t) v).drewN 1, fun j hj => ?_, (hbe.far (p := ⟨h2 i, t, none⟩) (by rw [HH]; exact fun e => by simp at e; omega) (.bool v)).drewN 1⟩
                    show (if j = t then v else cd j) = _
                    by_cases e : j = t
                    · subst e; rw [if_pos rfl, if_pos (Nat.lt_succ_self j), hv]
                    · rw [if_neg e, hcd j hj]
                      by_cases e2 : j < t
                      · rw [if_pos e2, if_pos (show j < t + 1 by omega)]
                      · rw [if_neg e2, if_neg (show ¬ j < t + 1 by omega)])
                  have HNEW := Lib.hid hnew
                  have HCT := Lib.hid (Eq.refl (cd t))
                  clear hst hbe hcd hnew
                  generalize hb1 : cd t = bb at *
                  generalize hb2 : befB l m t = b2 at *
                  clear hb1 hb2 HCT HH
                  cases bb
                  all_goals
                    go_wp2_with fail
                    go_region
                    go_wp2_with fail
                    go_roundg (l.length - (t + 1))
                    case measure => have := HGT.out; omega
                    case rel =>
                      obtain ⟨y1, y2, y3⟩ := HPUT.out _ (HNEW.out.trans (by rfl))
                      exact ⟨t + 1, _, rfl, by omega, by go_num, y1, y2, y3⟩
                · obtain rfl : t = l.length := by omega
                  have HST := Lib.hid hst
                  have HBE := Lib.hid hbe
                  have HCD := Lib.hid (fun j hj => (hcd j hj).trans (if_pos hj))
                  clear hst hbe hcd
                  go_wp2_with fail
                  go_roundg m
                  case measure => have := HGK.out; omega
                  case rel => exact ⟨m, m - 1, cd, rfl, by omega, rfl, rfl, HST.out, HCD.out, HBE.out⟩
    · obtain rfl : i = l.length := by omega
      have HST := Lib.hid hst
      clear hst
      go_wp2_with fail
      go_ret
      exact ⟨_, rfl, HST.out.mat, HST.out.bel⟩
end Go.Proofs.Ytgkckldflfalgaa
