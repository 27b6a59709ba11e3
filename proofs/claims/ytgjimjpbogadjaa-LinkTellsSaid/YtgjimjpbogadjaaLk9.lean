
/-
  Links: the law's comparison of Gone.
-/
import Derived.Test.YtgjimjpbogadjaaLk8
namespace Go.Proofs.Ytgjimjpbogadjaa
open Go.RowKit

set_option maxRecDepth 100000 in
set_option maxHeartbeats 4000000 in
theorem lawgone_any (A : Option Addr) (c : Nat) (l : List LkC) (vs : List Lk) (i : Nat) (fl : Bool) (txt : ByteArray) (w : World) (hin : lkRow w (· < w.heap.size) 0 A c l vs) (hil : i < vs.length) (hok : LkOk vs) (hn : I64 (vs.getD i lk0).ref) (ht : txt.size ≤ maxLen)
    (D : Option Addr) (cd : Nat) (ld : List LkC) (hD : lkRow w (· < w.heap.size) 0 D cd ld (vs.take i ++ vs.drop (i + 1)))
    (B : Option Addr) (cb : Nat) (hB : letRow w B cb (goneL (vs.getD i lk0) (vs.getD i lk0).ref fl txt)) :
    Calls Try.prog 58 #[.slice A l.length c, .int .i64 i, .bool fl, .string txt, .slice D ld.length cd, .slice B (goneL (vs.getD i lk0) (vs.getD i lk0).ref fl txt).length cb, .int .i64 0] w fun e w' => e = .returned (.bool true) ∧ Below w.heap.size w w' := by
  have hl100 := hok.len
  have hln := (hok.rows _ (getD_mem lk0 hil)).2
  have HIN := Lib.hid (fun (w' : World) (hb : Below w.heap.size w w') => (hin.below hb (fun _ h => h)).keep (w' := w') (S' := (· < w'.heap.size)) (fun _ _ => rfl) (fun b h => Nat.lt_of_lt_of_le h hb.size))
  have HDR := Lib.hid (fun (w' : World) (hb : Below w.heap.size w w') => (hD.below hb (fun _ h => h)).keep (w' := w') (S' := (· < w'.heap.size)) (fun _ _ => rfl) (fun b h => Nat.lt_of_lt_of_le h hb.size))
  have HLV := Lib.hid hin.1
  have HLD := Lib.hid hD.1
  have hill : i < l.length := by rw [hin.1]; exact hil
  have hi1 : (i : Int) < (l.length : Int) := by omega
  obtain ⟨g0, o0, rfl, hg0, c0, c1, c2, i1, i2⟩ := hin.at hill
  have hL100 : l.length ≤ 100 := by rw [hin.1]; exact hl100
  have HIL := Lib.hid hil
  obtain ⟨v, hvv⟩ : ∃ v, vs.getD i lk0 = v := ⟨_, rfl⟩
  rw [hvv] at hn hB hln c0 c1 c2 i1 i2 ⊢
  generalize l.getD i lkc0 = x at *
  obtain ⟨v0, ws, ls⟩ := v
  obtain ⟨x0, ⟨WA, wl, wc⟩, ⟨LA, ll, lc⟩⟩ := x
  dsimp only at hn hB hln c0 c1 c2 i1 i2 ⊢
  have HLT := Lib.hid (fun (w' : World) (hb : Below w.heap.size w w') => (letterRow.below hb (fun _ h => h) hB).keep (w' := w') (S' := (· < w'.heap.size)) (fun _ _ => rfl) (fun b h => Nat.lt_of_lt_of_le h hb.size))
  have HN := Lib.hid hn
  have HT := Lib.hid ht
  have hws := hln.1
  have hls := hln.2
  have hal : Below w.heap.size w (w.alloc (.cells #[.int .i64 v0, .slice WA ws.length wc, .slice LA ls.length lc] 114)) := (Below.refl _ _).alloc (Nat.le_refl _) _
  have HB1 := Lib.hid hal
  have hbx := Box.new w 114 #[.int .i64 v0, .slice WA ws.length wc, .slice LA ls.length lc]
  have HR1 := Lib.hid (i1.row.below hal)
  have HR2 := Lib.hid (i2.row.below hal)
  have HRW := Lib.hid i1.2.2.2.2.2.1
  have HRL := Lib.hid i2.2.2.2.2.2.1
  obtain ⟨nD, hnD⟩ : ∃ n, ld.length = n := ⟨_, rfl⟩
  obtain ⟨nL, hnL⟩ : ∃ n, (goneL ⟨v0, ws, ls⟩ v0 fl txt).length = n := ⟨_, rfl⟩
  rw [hnD, hnL]
  have HND := Lib.hid hnD
  have HNL := Lib.hid hnL
  have HW1 := Lib.hid (show w.heap.size ≤ (w.alloc (.cells #[.int .i64 v0, .slice WA ws.length wc, .slice LA ls.length lc] 114)).heap.size from hal.size)
  clear hvv hln i1 i2 hin hB hD hok hn ht hil hal hnD hnL
  have hgs := hbx.lt
  go_enter Try.func58, Try.ntmps58
  go_upto_region 2 with fail
  obtain ⟨g1, hg1⟩ : ∃ g1, w.heap.size = g1 := ⟨_, rfl⟩
  rw [hg1] at hbx hgs ⊢
  clear c0 c1 c2 hg1
  generalize w.alloc (.cells #[.int .i64 v0, .slice WA ws.length wc, .slice LA ls.length lc] 114) = w1 at *
  have r0 := hbx.cell 0
  have r1 := hbx.cell 1
  have r2 := hbx.cell 2
  simp only [List.getElem?_toArray, List.getElem?_cons_zero, List.getElem?_cons_succ] at r0 r1 r2
  clear hbx
  have HQ0 := Lib.hid r0
  have HQ2 := Lib.hid r2
  cases fl
  case false =>
    go_wp2_with fail
    go_loopg [16, 29] ws.length (fun gk v16 v29 wr => ∃ (k : Nat) (A1 : Option Addr) (d1 : Nat), gk = ws.length - k ∧ k ≤ ws.length ∧ v16 = .slice A1 k d1 ∧ v29 = .int .i64 k ∧ OwnAt wr w1.heap.size 98 9 A1 ((ws.take k).map (downL v0 false txt)).length d1 (flat letterC ((ws.take k).map (downL v0 false txt))) ∧ Below w1.heap.size w1 wr)
    case atStart => exact ⟨0, none, 0, by omega, by omega, rfl, rfl, OwnAt.nil, Below.refl _ _⟩
    case round =>
      obtain ⟨k, A1, d1, hgk, hk, rfl, rfl, hown, hbe⟩ := hrel
      have HK := Lib.hid hgk
      have HLO := Lib.hid hown
      have HBE := Lib.hid hbe
      clear hgk hown hbe r0 r1 r2
      by_cases hlt : k < ws.length
      · obtain ⟨wb, wq, rfl, _, hcw⟩ := (HR1.out.below (HBE.out.mono HW1.out)).int hlt
        have q0 := (HBE.out.cell (p := ⟨g1, 0, none⟩) hgs).trans HQ0.out
        have HMT := Lib.hid (map_take_snoc (downL v0 false txt) 0 ws hlt)
        have HLEN := Lib.hid (show ((ws.take k).map (downL v0 false txt)).length = k by rw [List.length_map, List.length_take]; omega)
        generalize ws.getD k 0 = u at *
        have hwz := HBE.out.size
        have HON := Lib.hid ((HLO.out.below ((Below.refl _ _).alloc (Nat.le_refl _) (.cells #[.int .i64 2, .int .i64 v0, .int .i64 u, .int .i64 0, .string ⟨#[]⟩, .int .i64 0, .int .i64 0, .string ⟨#[]⟩, .slice none 0 0] 98))).below ((Below.refl _ _).alloc (Nat.le_refl _) (.cells #[.int .i64 2, .int .i64 v0, .int .i64 u, .int .i64 0, .string ⟨#[]⟩, .int .i64 0, .int .i64 0, .string ⟨#[]⟩, .slice none 0 0] 98)))
        have HCE := Lib.hid (show ∀ j u', (letterC ((downL v0 false txt) u))[j]? = some u' → ((wr.alloc (.cells #[.int .i64 2, .int .i64 v0, .int .i64 u, .int .i64 0, .string ⟨#[]⟩, .int .i64 0, .int .i64 0, .string ⟨#[]⟩, .slice none 0 0] 98)).alloc (.cells #[.int .i64 2, .int .i64 v0, .int .i64 u, .int .i64 0, .string ⟨#[]⟩, .int .i64 0, .int .i64 0, .string ⟨#[]⟩, .slice none 0 0] 98)).cell? ⟨wr.heap.size + 1, j, none⟩ = some u' from fun j u' h => by
          have h2 := letter_new (wr.alloc (.cells #[.int .i64 2, .int .i64 v0, .int .i64 u, .int .i64 0, .string ⟨#[]⟩, .int .i64 0, .int .i64 0, .string ⟨#[]⟩, .slice none 0 0] 98)) ((downL v0 false txt) u) j u' h
          have e : (wr.alloc (.cells #[.int .i64 2, .int .i64 v0, .int .i64 u, .int .i64 0, .string ⟨#[]⟩, .int .i64 0, .int .i64 0, .string ⟨#[]⟩, .slice none 0 0] 98)).heap.size = wr.heap.size + 1 := by simp
          rw [e] at h2
          exact h2)
        have H104 := Lib.hid (show (k + 1) * 104 ≤ 140737488355328 by omega)
        have HBZ := Lib.hid (show w1.heap.size ≤ ((wr.alloc (.cells #[.int .i64 2, .int .i64 v0, .int .i64 u, .int .i64 0, .string ⟨#[]⟩, .int .i64 0, .int .i64 0, .string ⟨#[]⟩, .slice none 0 0] 98)).alloc (.cells #[.int .i64 2, .int .i64 v0, .int .i64 u, .int .i64 0, .string ⟨#[]⟩, .int .i64 0, .int .i64 0, .string ⟨#[]⟩, .slice none 0 0] 98)).heap.size by simp; omega)
        have HBL2 := Lib.hid ((HBE.out.alloc HBE.out.size (.cells #[.int .i64 2, .int .i64 v0, .int .i64 u, .int .i64 0, .string ⟨#[]⟩, .int .i64 0, .int .i64 0, .string ⟨#[]⟩, .slice none 0 0] 98)).alloc (by simp; omega) (.cells #[.int .i64 2, .int .i64 v0, .int .i64 u, .int .i64 0, .string ⟨#[]⟩, .int .i64 0, .int .i64 0, .string ⟨#[]⟩, .slice none 0 0] 98))
        go_wp2_with (at_builtin; refine wpList_app_letter rfl (.tmp 41) (.tmp 43) rfl w1.heap.size A1 d1 k ((ws.take k).map (downL v0 false txt)) HLEN.out rfl HON.out (wr.heap.size + 1) ((downL v0 false txt) u) rfl HCE.out H104.out HBZ.out ?_; intro A2 d2 w6 hown6 hb6)
        have HO6 := Lib.hid hown6
        have HB6 := Lib.hid hb6
        clear hown6 hb6
        go_roundg (ws.length - (k + 1))
        case measure => have := HK.out; omega
        case rel => exact ⟨k + 1, A2, d2, rfl, by omega, rfl, by go_num, by rw [HMT.out]; exact HO6.out, HBL2.out.trans HB6.out⟩
      · obtain rfl : k = ws.length := by omega
        have hlo := HLO.out
        rw [List.take_of_length_le (Nat.le_refl _)] at hlo
        have q2 := (HBE.out.cell (p := ⟨g1, 2, none⟩) hgs).trans HQ2.out
        obtain ⟨wo, hwo⟩ : ∃ wo, wo = wr := ⟨_, rfl⟩
        subst hwo
        go_wp2_with fail
        have HLOW := Lib.hid hlo
        have HBE0 := Lib.hid HBE.out
        clear hlo HLO HBE HK
        go_loopg [16, 49] ls.length (fun gk v16 v49 wr => ∃ (k : Nat), gk = ls.length - k ∧ k ≤ ls.length ∧ v16 = .slice A1 ws.length d1 ∧ v49 = .int .i64 k ∧ wo = wr)
        case atStart => exact ⟨0, by omega, by omega, rfl, rfl, rfl⟩
        case round =>
          obtain ⟨k, hgk, hk, rfl, rfl, rfl⟩ := hrel
          have HK := Lib.hid hgk
          clear hgk
          by_cases hlt : k < ls.length
          · obtain ⟨wb, wq, rfl, _, hcw⟩ := (HR2.out.below (HBE0.out.mono HW1.out)).int hlt
            generalize ls.getD k 0 = u at *
            go_wp2_with fail
            go_roundg (ls.length - (k + 1))
            case measure => have := HK.out; omega
            case rel => exact ⟨k + 1, rfl, by omega, rfl, by go_num, rfl⟩
          · obtain rfl : k = ls.length := by omega
            have HLE := Lib.hid (show (ws.map (downL v0 false txt)).length = ws.length by rw [List.length_map])
            have HLO := Lib.hid HLOW.out
            have HBE := Lib.hid HBE0.out
            clear HLOW HBE0 q2
            have HB2 := Lib.hid (HB1.out.trans (HBE.out.mono HB1.out.size))
            have HPL := Lib.hid (show ∀ x ∈ (ws.map (downL v0 false txt)), plainL x by
              intro y hy
              rw [List.mem_map] at hy
              obtain ⟨u, hu, rfl⟩ := hy
              exact ⟨rfl, Nat.zero_le _, i64_small (m := 2) (by decide), HN.out, HRW.out u hu, i64_small (m := 0) (by decide)⟩)
            have HOW := Lib.hid (linkOwn_any _ c l vs wo (HIN.out wo HB2.out) hL100)
            go_wp2_with fail
            refine HOW.out.mono ?_
            rintro e w2 ⟨A', c', l', rfl, hl', ho, hb2⟩
            have hil' : i < l'.length := by rw [hl']; exact hill
            obtain ⟨g, o, rfl⟩ : ∃ g o, A' = some ⟨g, o, none⟩ := by
              rcases ho.row.form with ⟨_, h0, _⟩ | h0
              · omega
              · exact h0
            have hde := delete_lk wo.heap.size g o c' i l' w2 ho.row hil'
            rw [hl', show ((i + 1 : Nat) : Int) = (i : Int) + 1 by omega] at hde
            have HDE := Lib.hid hde
            have HO := Lib.hid ho
            have HBC := Lib.hid hb2
            have hzl : (l'.take i ++ l'.drop (i + 1)).length = l.length - 1 := by
              simp only [List.length_append, List.length_take, List.length_drop]
              omega
            have HZL := Lib.hid hzl
            clear hde ho hb2 hzl HOW
            go_wp2_with fail
            refine HDE.out.mono ?_
            rintro e w3 ⟨he, hown, hon⟩
            rw [HZL.out] at he
            subst he
            have hon2 : Only (fun b => blkS (some ⟨g, o, none⟩) b) w2 w3 := ⟨hon.os, hon.tape, hon.output, hon.size, fun b hb hn => hon.block b hb (fun e => hn (by rw [e]; rfl))⟩
            have hz : (l'.take i ++ l'.drop (i + 1)).length = (vs.take i ++ vs.drop (i + 1)).length := by
              have := HO.out.len
              simp only [List.length_append, List.length_take, List.length_drop]
              omega
            have hrow : lkRow w3 (· < w3.heap.size) 0 (some ⟨g, o, none⟩) c' (l'.take i ++ l'.drop (i + 1)) (vs.take i ++ vs.drop (i + 1)) := lkRow.of_own hz hown (fun j hj => by
                rw [getD_del lkc0 l' i j hil', getD_del lk0 vs i j HIL.out]
                rw [List.length_append, List.length_take, List.length_drop] at hj
                by_cases h1 : j < i
                · rw [if_pos h1, if_pos h1]
                  exact HO.out.keepE hon2 j (by omega)
                · rw [if_neg h1, if_neg h1]
                  exact HO.out.keepE hon2 (j + 1) (by omega)) (by rw [HZL.out]; unfold reachBytes; omega)
            have hb3 : Below wo.heap.size wo w3 := HBC.out.trans (hon2.to_below (Below.refl _ _) HBC.out.size (fun b hb => (blkS_lt HO.out.row hb).1))
            have HB3 := Lib.hid (HB2.out.trans (hb3.mono HB2.out.size))
            have HLO3 := Lib.hid (HLO.out.below hb3)
            have hsm := sameLinks_true D (some ⟨g, o, none⟩) cd c' ld _ (vs.take i ++ vs.drop (i + 1)) _ _ w3 (HDR.out w3 HB3.out) hrow
            rw [HND.out, HZL.out] at hsm
            have HSM := Lib.hid hsm
            clear hsm hrow hb3 hon2 hon hown hz HDE
            go_wp2_with fail
            refine HSM.out.mono ?_
            rintro e w4 ⟨rfl, m, rfl⟩
            have HB4 := Lib.hid (below_drewN HB3.out m)
            have hlr := letRow.of_own (w := w3.drewN m) (L := (ws.map (downL v0 false txt))) (show OwnAt (w3.drewN m) w1.heap.size 98 9 A1 _ d1 (flat letterC ((ws.map (downL v0 false txt)))) from HLO3.out) HPL.out (by rw [HLE.out]; unfold reachBytes; omega)
            have hsl := same_letters 1 B A1 cb d1 nL _ ((goneL ⟨v0, ws, ls⟩ v0 false txt).map fun x => x) ((ws.map (downL v0 false txt))) _ _ (w3.drewN m) _ _ (by rw [List.map_id']; exact HNL.out) HLE.out (by rw [List.map_id']; exact HLT.out _ HB4.out) hlr
            have HSL := Lib.hid hsl
            have HEQ := Lib.hid (show goneL ⟨v0, ws, ls⟩ v0 false txt = (ws.map (downL v0 false txt)) by unfold goneL; rw [if_neg (by decide), List.append_nil])
            clear hsl hlr HSM
            go_wp2_with fail
            refine HSL.out.mono ?_
            rintro e w5 ⟨q, rfl, hq, hb5⟩
            obtain rfl : q = true := hq.2 (by rw [HEQ.out])
            have HB5 := Lib.hid (HB4.out.trans (hb5.mono HB4.out.size))
            clear hq hb5
            go_wp2_with fail
            go_ret
            exact ⟨rfl, HB5.out⟩
  case true =>
    go_wp2_with fail
    go_loopg [16, 29] ws.length (fun gk v16 v29 wr => ∃ (k : Nat) (A1 : Option Addr) (d1 : Nat), gk = ws.length - k ∧ k ≤ ws.length ∧ v16 = .slice A1 k d1 ∧ v29 = .int .i64 k ∧ OwnAt wr w1.heap.size 98 9 A1 ((ws.take k).map (downL v0 true txt)).length d1 (flat letterC ((ws.take k).map (downL v0 true txt))) ∧ Below w1.heap.size w1 wr)
    case atStart => exact ⟨0, none, 0, by omega, by omega, rfl, rfl, OwnAt.nil, Below.refl _ _⟩
    case round =>
      obtain ⟨k, A1, d1, hgk, hk, rfl, rfl, hown, hbe⟩ := hrel
      have HK := Lib.hid hgk
      have HLO := Lib.hid hown
      have HBE := Lib.hid hbe
      clear hgk hown hbe r0 r1 r2
      by_cases hlt : k < ws.length
      · obtain ⟨wb, wq, rfl, _, hcw⟩ := (HR1.out.below (HBE.out.mono HW1.out)).int hlt
        have q0 := (HBE.out.cell (p := ⟨g1, 0, none⟩) hgs).trans HQ0.out
        have HMT := Lib.hid (map_take_snoc (downL v0 true txt) 0 ws hlt)
        have HLEN := Lib.hid (show ((ws.take k).map (downL v0 true txt)).length = k by rw [List.length_map, List.length_take]; omega)
        generalize ws.getD k 0 = u at *
        have hwz := HBE.out.size
        have HON := Lib.hid ((HLO.out.below ((Below.refl _ _).alloc (Nat.le_refl _) (.cells #[.int .i64 2, .int .i64 v0, .int .i64 u, .int .i64 1, .string txt, .int .i64 0, .int .i64 0, .string ⟨#[]⟩, .slice none 0 0] 98))).below ((Below.refl _ _).alloc (Nat.le_refl _) (.cells #[.int .i64 2, .int .i64 v0, .int .i64 u, .int .i64 1, .string txt, .int .i64 0, .int .i64 0, .string ⟨#[]⟩, .slice none 0 0] 98)))
        have HCE := Lib.hid (show ∀ j u', (letterC ((downL v0 true txt) u))[j]? = some u' → ((wr.alloc (.cells #[.int .i64 2, .int .i64 v0, .int .i64 u, .int .i64 1, .string txt, .int .i64 0, .int .i64 0, .string ⟨#[]⟩, .slice none 0 0] 98)).alloc (.cells #[.int .i64 2, .int .i64 v0, .int .i64 u, .int .i64 1, .string txt, .int .i64 0, .int .i64 0, .string ⟨#[]⟩, .slice none 0 0] 98)).cell? ⟨wr.heap.size + 1, j, none⟩ = some u' from fun j u' h => by
          have h2 := letter_new (wr.alloc (.cells #[.int .i64 2, .int .i64 v0, .int .i64 u, .int .i64 1, .string txt, .int .i64 0, .int .i64 0, .string ⟨#[]⟩, .slice none 0 0] 98)) ((downL v0 true txt) u) j u' h
          have e : (wr.alloc (.cells #[.int .i64 2, .int .i64 v0, .int .i64 u, .int .i64 1, .string txt, .int .i64 0, .int .i64 0, .string ⟨#[]⟩, .slice none 0 0] 98)).heap.size = wr.heap.size + 1 := by simp
          rw [e] at h2
          exact h2)
        have H104 := Lib.hid (show (k + 1) * 104 ≤ 140737488355328 by omega)
        have HBZ := Lib.hid (show w1.heap.size ≤ ((wr.alloc (.cells #[.int .i64 2, .int .i64 v0, .int .i64 u, .int .i64 1, .string txt, .int .i64 0, .int .i64 0, .string ⟨#[]⟩, .slice none 0 0] 98)).alloc (.cells #[.int .i64 2, .int .i64 v0, .int .i64 u, .int .i64 1, .string txt, .int .i64 0, .int .i64 0, .string ⟨#[]⟩, .slice none 0 0] 98)).heap.size by simp; omega)
        have HBL2 := Lib.hid ((HBE.out.alloc HBE.out.size (.cells #[.int .i64 2, .int .i64 v0, .int .i64 u, .int .i64 1, .string txt, .int .i64 0, .int .i64 0, .string ⟨#[]⟩, .slice none 0 0] 98)).alloc (by simp; omega) (.cells #[.int .i64 2, .int .i64 v0, .int .i64 u, .int .i64 1, .string txt, .int .i64 0, .int .i64 0, .string ⟨#[]⟩, .slice none 0 0] 98))
        go_wp2_with (at_builtin; refine wpList_app_letter rfl (.tmp 41) (.tmp 43) rfl w1.heap.size A1 d1 k ((ws.take k).map (downL v0 true txt)) HLEN.out rfl HON.out (wr.heap.size + 1) ((downL v0 true txt) u) rfl HCE.out H104.out HBZ.out ?_; intro A2 d2 w6 hown6 hb6)
        have HO6 := Lib.hid hown6
        have HB6 := Lib.hid hb6
        clear hown6 hb6
        go_roundg (ws.length - (k + 1))
        case measure => have := HK.out; omega
        case rel => exact ⟨k + 1, A2, d2, rfl, by omega, rfl, by go_num, by rw [HMT.out]; exact HO6.out, HBL2.out.trans HB6.out⟩
      · obtain rfl : k = ws.length := by omega
        have hlo := HLO.out
        rw [List.take_of_length_le (Nat.le_refl _)] at hlo
        have q2 := (HBE.out.cell (p := ⟨g1, 2, none⟩) hgs).trans HQ2.out
        obtain ⟨wo, hwo⟩ : ∃ wo, wo = wr := ⟨_, rfl⟩
        subst hwo
        go_wp2_with fail
        have HLO1 := Lib.hid (show OwnAt wo w1.heap.size 98 9 A1 (ws.map (downL v0 true txt) ++ (ls.take 0).map (exitL v0 txt)).length d1 (flat letterC (ws.map (downL v0 true txt) ++ (ls.take 0).map (exitL v0 txt))) by rw [List.take_zero, List.map_nil, List.append_nil]; exact hlo)
        have HBE0 := Lib.hid HBE.out
        clear hlo HLO HBE
        go_loopg [16, 49] ls.length (fun gk v16 v49 wr => ∃ (k : Nat) (A1 : Option Addr) (d1 : Nat), gk = ls.length - k ∧ k ≤ ls.length ∧ v16 = .slice A1 (ws.length + k) d1 ∧ v49 = .int .i64 k ∧ OwnAt wr w1.heap.size 98 9 A1 (ws.map (downL v0 true txt) ++ (ls.take k).map (exitL v0 txt)).length d1 (flat letterC (ws.map (downL v0 true txt) ++ (ls.take k).map (exitL v0 txt))) ∧ Below w1.heap.size w1 wr)
        case atStart => exact ⟨0, A1, d1, by omega, by omega, rfl, rfl, HLO1.out, HBE0.out⟩
        case round =>
          clear HLO1 HBE0 HK q2
          obtain ⟨k, A1, d1, hgk, hk, rfl, rfl, hown, hbe⟩ := hrel
          have HK := Lib.hid hgk
          have HLO := Lib.hid hown
          have HBE := Lib.hid hbe
          clear hgk hown hbe
          by_cases hlt : k < ls.length
          · obtain ⟨wb, wq, rfl, _, hcw⟩ := (HR2.out.below (HBE.out.mono HW1.out)).int hlt
            have q0 := (HBE.out.cell (p := ⟨g1, 0, none⟩) hgs).trans HQ0.out
            have HMT := Lib.hid (map_take_snoc (exitL v0 txt) 0 ls hlt)
            have HLEN := Lib.hid (show (ws.map (downL v0 true txt) ++ (ls.take k).map (exitL v0 txt)).length = ws.length + k by rw [List.length_append, List.length_map, List.length_map, List.length_take]; omega)
            generalize ls.getD k 0 = u at *
            have hwz := HBE.out.size
            have HON := Lib.hid (HLO.out.below ((Below.refl _ _).alloc (Nat.le_refl _) (.cells #[.int .i64 5, .int .i64 v0, .int .i64 u, .int .i64 0, .string txt, .int .i64 0, .int .i64 0, .string ⟨#[]⟩, .slice none 0 0] 98)))
            have HCE := Lib.hid (letter_new wr ((exitL v0 txt) u))
            have H104 := Lib.hid (show (ws.length + k + 1) * 104 ≤ 140737488355328 by omega)
            have HBZ := Lib.hid (show w1.heap.size ≤ (wr.alloc (.cells #[.int .i64 5, .int .i64 v0, .int .i64 u, .int .i64 0, .string txt, .int .i64 0, .int .i64 0, .string ⟨#[]⟩, .slice none 0 0] 98)).heap.size by simp; omega)
            have HBL2 := Lib.hid (HBE.out.alloc HBE.out.size (.cells #[.int .i64 5, .int .i64 v0, .int .i64 u, .int .i64 0, .string txt, .int .i64 0, .int .i64 0, .string ⟨#[]⟩, .slice none 0 0] 98))
            go_wp2_with (at_builtin; refine wpList_app_letter rfl (.tmp 54) (.tmp 60) rfl w1.heap.size A1 d1 (ws.length + k) (ws.map (downL v0 true txt) ++ (ls.take k).map (exitL v0 txt)) HLEN.out rfl HON.out wr.heap.size ((exitL v0 txt) u) rfl HCE.out H104.out HBZ.out ?_; intro A2 d2 w6 hown6 hb6)
            have HO6 := Lib.hid hown6
            have HB6 := Lib.hid hb6
            clear hown6 hb6
            go_roundg (ls.length - (k + 1))
            case measure => have := HK.out; omega
            case rel => exact ⟨k + 1, A2, d2, rfl, by omega, rfl, by go_num, by rw [HMT.out, ← List.append_assoc]; exact HO6.out, HBL2.out.trans HB6.out⟩
          · obtain rfl : k = ls.length := by omega
            have hlo := HLO.out
            rw [List.take_of_length_le (Nat.le_refl _)] at hlo
            have HLE := Lib.hid (show (ws.map (downL v0 true txt) ++ ls.map (exitL v0 txt)).length = ws.length + ls.length by rw [List.length_append, List.length_map, List.length_map])
            have HLO := Lib.hid hlo
            clear hlo
            have HB2 := Lib.hid (HB1.out.trans (HBE.out.mono HB1.out.size))
            have HPL := Lib.hid (show ∀ x ∈ (ws.map (downL v0 true txt) ++ ls.map (exitL v0 txt)), plainL x by
              intro y hy
              rcases List.mem_append.1 hy with hy | hy
              · rw [List.mem_map] at hy
                obtain ⟨u, hu, rfl⟩ := hy
                exact ⟨rfl, HT.out, i64_small (m := 2) (by decide), HN.out, HRW.out u hu, i64_small (m := 1) (by decide)⟩
              · rw [List.mem_map] at hy
                obtain ⟨u, hu, rfl⟩ := hy
                exact ⟨rfl, HT.out, i64_small (m := 5) (by decide), HN.out, HRL.out u hu, i64_small (m := 0) (by decide)⟩)
            have HOW := Lib.hid (linkOwn_any _ c l vs wr (HIN.out wr HB2.out) hL100)
            go_wp2_with fail
            refine HOW.out.mono ?_
            rintro e w2 ⟨A', c', l', rfl, hl', ho, hb2⟩
            have hil' : i < l'.length := by rw [hl']; exact hill
            obtain ⟨g, o, rfl⟩ : ∃ g o, A' = some ⟨g, o, none⟩ := by
              rcases ho.row.form with ⟨_, h0, _⟩ | h0
              · omega
              · exact h0
            have hde := delete_lk wr.heap.size g o c' i l' w2 ho.row hil'
            rw [hl', show ((i + 1 : Nat) : Int) = (i : Int) + 1 by omega] at hde
            have HDE := Lib.hid hde
            have HO := Lib.hid ho
            have HBC := Lib.hid hb2
            have hzl : (l'.take i ++ l'.drop (i + 1)).length = l.length - 1 := by
              simp only [List.length_append, List.length_take, List.length_drop]
              omega
            have HZL := Lib.hid hzl
            clear hde ho hb2 hzl HOW
            go_wp2_with fail
            refine HDE.out.mono ?_
            rintro e w3 ⟨he, hown, hon⟩
            rw [HZL.out] at he
            subst he
            have hon2 : Only (fun b => blkS (some ⟨g, o, none⟩) b) w2 w3 := ⟨hon.os, hon.tape, hon.output, hon.size, fun b hb hn => hon.block b hb (fun e => hn (by rw [e]; rfl))⟩
            have hz : (l'.take i ++ l'.drop (i + 1)).length = (vs.take i ++ vs.drop (i + 1)).length := by
              have := HO.out.len
              simp only [List.length_append, List.length_take, List.length_drop]
              omega
            have hrow : lkRow w3 (· < w3.heap.size) 0 (some ⟨g, o, none⟩) c' (l'.take i ++ l'.drop (i + 1)) (vs.take i ++ vs.drop (i + 1)) := lkRow.of_own hz hown (fun j hj => by
                rw [getD_del lkc0 l' i j hil', getD_del lk0 vs i j HIL.out]
                rw [List.length_append, List.length_take, List.length_drop] at hj
                by_cases h1 : j < i
                · rw [if_pos h1, if_pos h1]
                  exact HO.out.keepE hon2 j (by omega)
                · rw [if_neg h1, if_neg h1]
                  exact HO.out.keepE hon2 (j + 1) (by omega)) (by rw [HZL.out]; unfold reachBytes; omega)
            have hb3 : Below wr.heap.size wr w3 := HBC.out.trans (hon2.to_below (Below.refl _ _) HBC.out.size (fun b hb => (blkS_lt HO.out.row hb).1))
            have HB3 := Lib.hid (HB2.out.trans (hb3.mono HB2.out.size))
            have HLO3 := Lib.hid (HLO.out.below hb3)
            have hsm := sameLinks_true D (some ⟨g, o, none⟩) cd c' ld _ (vs.take i ++ vs.drop (i + 1)) _ _ w3 (HDR.out w3 HB3.out) hrow
            rw [HND.out, HZL.out] at hsm
            have HSM := Lib.hid hsm
            clear hsm hrow hb3 hon2 hon hown hz HDE
            go_wp2_with fail
            refine HSM.out.mono ?_
            rintro e w4 ⟨rfl, m, rfl⟩
            have HB4 := Lib.hid (below_drewN HB3.out m)
            have hlr := letRow.of_own (w := w3.drewN m) (L := (ws.map (downL v0 true txt) ++ ls.map (exitL v0 txt))) (show OwnAt (w3.drewN m) w1.heap.size 98 9 A1 _ d1 (flat letterC ((ws.map (downL v0 true txt) ++ ls.map (exitL v0 txt)))) from HLO3.out) HPL.out (by rw [HLE.out]; unfold reachBytes; omega)
            have hsl := same_letters 1 B A1 cb d1 nL _ ((goneL ⟨v0, ws, ls⟩ v0 true txt).map fun x => x) ((ws.map (downL v0 true txt) ++ ls.map (exitL v0 txt))) _ _ (w3.drewN m) _ _ (by rw [List.map_id']; exact HNL.out) HLE.out (by rw [List.map_id']; exact HLT.out _ HB4.out) hlr
            have HSL := Lib.hid hsl
            have HEQ := Lib.hid (show goneL ⟨v0, ws, ls⟩ v0 true txt = (ws.map (downL v0 true txt) ++ ls.map (exitL v0 txt)) by unfold goneL; rw [if_pos rfl])
            clear hsl hlr HSM
            go_wp2_with fail
            refine HSL.out.mono ?_
            rintro e w5 ⟨q, rfl, hq, hb5⟩
            obtain rfl : q = true := hq.2 (by rw [HEQ.out])
            have HB5 := Lib.hid (HB4.out.trans (hb5.mono HB4.out.size))
            clear hq hb5
            go_wp2_with fail
            go_ret
            exact ⟨rfl, HB5.out⟩
end Go.Proofs.Ytgjimjpbogadjaa
