/-
  Whom the reference asks; rows that it is told.
-/
import Derived.Test.YtaecgapoaagjfaaGossip6
namespace Go.Proofs.Ytaecgapoaagjfaa
open Go.RowKit

set_option maxRecDepth 100000 in
set_option maxHeartbeats 1000000 in
theorem ask_any (m me : Nat) (ticks : Int) (L : Nat) (P : Nat → Option Nat) (G : GS) (W : Nat → Int) (w : World) (h : RefAt w m me ticks L P G W) (hL : L ≤ 8) (hS : ∀ i, i < 9 → G.K i = true → G.S i ≤ 3) :
    Calls Try.prog 39 #[.pointer (some ⟨m, 0, none⟩)] w fun e w' => e = .returned (.int .i64 (askF me L G 8 0)) ∧ Below m w w' ∧ RefAt w' m me ticks (if askF me L G 8 0 = 0 then (L : Int) else askF me L G 8 0) P G W := by
  have HG := Lib.hid h
  have hc0 := h.c0
  have hc2 := h.c2
  have hf2 := h.frozen 2
  have HT := Lib.hid (fun x => h.turn x)
  have HS3 := Lib.hid hS
  clear h hS
  generalize hA : askF me L G 8 0 = A at *
  have HA := Lib.hid hA
  clear hA
  go_enter Try.func39, Try.ntmps39
  go_wp2_with fail
  go_loopg [6] 8 (fun gk i wr => ∃ k : Nat, gk = 8 - k ∧ k ≤ 8 ∧ i = .int .i64 k ∧ Hid (A = askF me L G (8 - k) k) ∧ wr = w)
  case atStart => exact ⟨0, by omega, by omega, rfl, HA.out.symm, rfl⟩
  case round =>
    obtain ⟨k, hgk, hk, rfl, HE, rfl⟩ := hrel
    have HK := Lib.hid hgk
    clear hgk
    by_cases hlt : k < 8
    · have HS := Lib.hid (show askF me L G (8 - k) k = if askOk me G (askN L k) then askN L k else askF me L G (8 - (k + 1)) (k + 1) by
        rw [show 8 - k = (8 - (k + 1)) + 1 by omega]; rfl)
      have hn : askN L k = (L + k) % 8 + 1 := by unfold askN; simp
      obtain ⟨n, hn'⟩ : ∃ n, askN L k = n := ⟨_, rfl⟩
      have hn8 : 1 ≤ n ∧ n ≤ 8 := by omega
      have hmod : Int.tmod ((L : Int) + (k : Int)) 8 = ((L : Int) + (k : Int)) % 8 := Int.tmod_eq_emod_of_nonneg (by omega)
      have HNN := Lib.hid (show ((L : Int) + (k : Int)) % 8 + 1 = (n : Int) by omega)
      rw [hn'] at HS
      unfold askOk at HS
      have hp := HG.out.p n (by omega)
      have hKn := HG.out.k n (by omega)
      have hRn := HG.out.r n (by omega)
      have hSn := HS3.out n (by omega)
      have hn1 : (n : Int) < 9 := by omega
      have hn0 : (0 : Int) ≤ (n : Int) := by omega
      have hnz : n ≠ 0 := by omega
      clear hn hn'
      have hL1 : (L : Int) ≤ 8 := by omega
      have hk1 : (k : Int) < 8 := by omega
      go_upto_region 5 with fail
      rw [HNN.out]
      cases hPn : P n with
      | none =>
        rw [hPn] at hp hKn
        simp only [Option.map_none] at hp
        have HEN := Lib.hid (show A = askF me L G (8 - (k + 1)) (k + 1) by rw [HE.out, HS.out, hKn]; rfl)
        clear HS HE hKn hRn hSn hPn
        go_wp2_with fail
        go_roundg (8 - (k + 1))
        case measure => have := HK.out; omega
        case rel => exact ⟨k + 1, rfl, by omega, by go_num, HEN.out, rfl⟩
      | some b =>
        rw [hPn] at hp hKn
        simp only [Option.map_some] at hp
        simp only [Option.isSome_some] at hKn
        have hB := hRn b hPn
        have b2 := hB.cell 2
        simp only [List.getElem?_toArray, List.getElem?_cons_zero, List.getElem?_cons_succ] at b2
        have hS3 := hSn hKn
        rw [hKn] at HS
        generalize G.S n = z at *
        clear hKn hRn hSn hPn hB
        by_cases hm : n = me
        · have HEN := Lib.hid (show A = askF me L G (8 - (k + 1)) (k + 1) by rw [HE.out, HS.out]; simp [hm])
          have bm : ((n : Int) != (me : Int)) = false := by simp [hm]
          have bm' : (n != me) = false := by simp [hm]
          clear HS HE hm
          go_wp2_with fail
          go_roundg (8 - (k + 1))
          case measure => have := HK.out; omega
          case rel => exact ⟨k + 1, rfl, by omega, by go_num, HEN.out, rfl⟩
        · have bm : ((n : Int) != (me : Int)) = true := by simp; omega
          have bm' : (n != me) = true := by simp [hm]
          by_cases hz : z = 3
          · have HEN := Lib.hid (show A = askF me L G (8 - (k + 1)) (k + 1) by rw [HE.out, HS.out]; simp [hz])
            have bz : decide (z < 3) = false := by simp; omega
            clear HS HE hm hz
            go_wp2_with fail
            go_roundg (8 - (k + 1))
            case measure => have := HK.out; omega
            case rel => exact ⟨k + 1, rfl, by omega, by go_num, HEN.out, rfl⟩
          · have hAn : A = n := by rw [HE.out, HS.out]; simp [hz, hm]
            have bz : decide (z < 3) = true := by simp; omega
            subst hAn
            have HTN := Lib.hid (HT.out A)
            clear HS HE hm hz HA
            go_wp2_with fail
            go_ret
            refine ⟨?_, (Below.refl m wr).setCell (Nat.le_refl m) _, ?_⟩
            · rfl
            · exact HTN.out
    · have h0 : A = 0 := by rw [HE.out, show 8 - k = 0 by omega]; rfl
      subst h0
      go_wp2_with fail
      go_ret
      exact ⟨rfl, Below.refl _ _, HG.out⟩

def HeardPost (m me : Nat) (ticks last : Int) (f : Int) (G : GS) (W : Nat → Int) (w : World) (e : Ending) (w' : World) : Prop :=
  e = .returned (.int .i64 f) ∧ Below m w w' ∧ ∃ P, RefAt w' m me ticks last P G W

set_option maxRecDepth 100000 in
set_option maxHeartbeats 4000000 in
theorem heard_any (m me B : Nat) (ticks last : Int) (P : Nat → Option Nat) (G : GS) (W : Nat → Int) (A : Option Addr) (c : Nat) (l : List RowT) (w : World) (h : RefAt w m me ticks last P G W) (hr : Row w B A (flat grC l)) (hB : B ≤ m) (hm : l.length ≤ maxLen) :
    Calls Try.prog 36 #[.pointer (some ⟨m, 0, none⟩), .slice A l.length c] w (HeardPost m me ticks last (rowsFault l) (if rowsFault l = 0 then heardG me G l else G) (if rowsFault l = 0 then heardW me G W l else W) w) := by
  have HR := Lib.hid hr
  have HH := Lib.hid h
  have hml := h.lt
  clear hr h
  unfold rowsFault
  unfold maxLen at hm
  by_cases h8 : 8 < l.length
  · have d1 : decide ((8 : Int) < (l.length : Int)) = true := by simp; omega
    have d2 : decide (8 < l.length) = true := by simp; omega
    rw [if_pos h8, if_neg (by decide), if_neg (by decide)]
    go_enter Try.func36, Try.ntmps36
    go_wp2_with fail
    go_ret
    exact ⟨rfl, Below.refl _ _, _, HH.out⟩
  · have d1 : decide ((8 : Int) < (l.length : Int)) = false := by simp; omega
    have d2 : decide (8 < l.length) = false := by simp; omega
    rw [if_neg h8]
    have HRES := Lib.hid (show rowsF none l = rowsAt l 0 by unfold rowsAt; simp)
    have HALL := Lib.hid (rowsF_ok none l)
    generalize rowsF none l = res at *
    generalize hG' : (if res = 0 then heardG me G l else G) = G' at *
    generalize hW' : (if res = 0 then heardW me G W l else W) = W' at *
    have HG' := Lib.hid hG'
    have HW' := Lib.hid hW'
    clear hG' hW'
    go_enter Try.func36, Try.ntmps36
    go_wp2_with fail
    go_loopg [14] l.length (fun gk i wr => ∃ k : Nat, gk = l.length - k ∧ k ≤ l.length ∧ i = .int .i64 k ∧ Hid (res = rowsAt l k) ∧ Below w.heap.size w wr)
    case atStart => exact ⟨0, by omega, by omega, rfl, HRES.out, Below.refl _ _⟩
    case round =>
      obtain ⟨k, hgk, hk, rfl, HE, hb⟩ := hrel
      have HK := Lib.hid hgk
      clear hgk
      by_cases hlt : k < l.length
      · have HS := Lib.hid (rowsAt_succ l k hlt)
        obtain ⟨b, o, rfl, _, hc0, hc1, hc2⟩ := (HR.out.below (hb.mono (by omega))).gr hlt (0, 0, 0)
        have HPV := Lib.hid (show 0 < k → wr.cell? ⟨b, o + (k - 1) * 3, none⟩ = some (.int .i64 (l.getD (k - 1) (0, 0, 0)).1) from fun h0 => by
          obtain ⟨b', o', e', _, hd0, _⟩ := (HR.out.below (hb.mono (by omega))).gr (show k - 1 < l.length by omega) (0, 0, 0)
          injection e' with e'
          injection e' with e1 e2
          subst e1 e2
          exact hd0)
        generalize l.getD k (0, 0, 0) = x at *
        generalize (l.getD (k - 1) (0, 0, 0)).1 = pv at *
        obtain ⟨x0, x1, x2⟩ := x
        simp only at hc0 hc1 hc2
        have hbs := hb.size
        have HBN := Lib.hid (hb.alloc hbs (.cells #[.int .i64 x0, .int .i64 x1, .int .i64 x2] 54))
        have HBAD := Lib.hid (show res = 1 → HeardPost m me ticks last res G' W' w (.returned (.int .i64 1)) (wr.alloc (.cells #[.int .i64 x0, .int .i64 x1, .int .i64 x2] 54)) from fun e => by
          refine ⟨by rw [e], HBN.out.mono (by omega), P, ?_⟩
          rw [← HG'.out, ← HW'.out, e, if_neg (by decide), if_neg (by decide)]
          exact HH.out.below HBN.out)
        unfold rowBad at HS
        simp only at HS
        by_cases g0 : x0 < 1
        case pos =>
          have HEND := Lib.hid (HBAD.out (by rw [HE.out, HS.out, if_pos]; simp [g0]))
          have e0 : decide (x0 < 1) = true := by simp; omega
          clear HS HE HBAD g0
          go_wp2_with fail
          go_ret
          exact HEND.out
        have e0 : decide (x0 < 1) = false := by simp; omega
        by_cases g1 : 8 < x0
        case pos =>
          have HEND := Lib.hid (HBAD.out (by rw [HE.out, HS.out, if_pos]; simp [g1]))
          have e1 : decide (8 < x0) = true := by simp; omega
          clear HS HE HBAD g1
          go_wp2_with fail
          go_ret
          exact HEND.out
        have e1 : decide (8 < x0) = false := by simp; omega
        by_cases g2 : x1 < 0
        case pos =>
          have HEND := Lib.hid (HBAD.out (by rw [HE.out, HS.out, if_pos]; simp [g2]))
          have e2 : decide (x1 < 0) = true := by simp; omega
          clear HS HE HBAD g2
          go_wp2_with fail
          go_ret
          exact HEND.out
        have e2 : decide (x1 < 0) = false := by simp; omega
        by_cases g3 : 1099511627776 < x1
        case pos =>
          have HEND := Lib.hid (HBAD.out (by rw [HE.out, HS.out, if_pos]; simp [g3]))
          have e3 : decide (1099511627776 < x1) = true := by simp; omega
          clear HS HE HBAD g3
          go_wp2_with fail
          go_ret
          exact HEND.out
        have e3 : decide (1099511627776 < x1) = false := by simp; omega
        by_cases g4 : x2 < 1
        case pos =>
          have HEND := Lib.hid (HBAD.out (by rw [HE.out, HS.out, if_pos]; simp [g4]))
          have e4 : decide (x2 < 1) = true := by simp; omega
          clear HS HE HBAD g4
          go_wp2_with fail
          go_ret
          exact HEND.out
        have e4 : decide (x2 < 1) = false := by simp; omega
        by_cases g5 : 3 < x2
        case pos =>
          have HEND := Lib.hid (HBAD.out (by rw [HE.out, HS.out, if_pos]; simp [g5]))
          have e5 : decide (3 < x2) = true := by simp; omega
          clear HS HE HBAD g5
          go_wp2_with fail
          go_ret
          exact HEND.out
        have e5 : decide (3 < x2) = false := by simp; omega
        have HOK := Lib.hid (show res = if (decide (0 < k) && decide (x0 ≤ pv)) then 21 else rowsAt l (k + 1) by
          rw [HE.out, HS.out, if_neg]
          simp [e0, e1, e2, e3, e4, e5])
        clear HS HE HBAD g0 g1 g2 g3 g4 g5
        by_cases hk0 : 0 < k
        · have hd0 := HPV.out hk0
          have dk : decide ((0 : Int) < (k : Int)) = true := by simp; omega
          have dk' : decide (0 < k) = true := by simp; omega
          have hsub : (k : Int) - 1 = ((k - 1 : Nat) : Int) := by omega
          have hkl : ((k - 1 : Nat) : Int) < (l.length : Int) := by omega
          have hkl0 : k - 1 < l.length := by omega
          rw [dk', Bool.true_and] at HOK
          clear HPV
          have hd1 : (wr.alloc (.cells #[.int .i64 x0, .int .i64 x1, .int .i64 x2] 54)).cell? ⟨b, o + (k - 1) * 3, none⟩ = some (.int .i64 pv) := by
            rw [World.cell?_alloc_lt _ _ _ (lt_of_cell hd0)]; exact hd0
          by_cases hpv : x0 ≤ pv
          · have dp : decide (x0 ≤ pv) = true := by simp; omega
            rw [dp] at HOK
            have HEND := Lib.hid (show ∀ j, HeardPost m me ticks last res G' W' w (.returned (.int .i64 21)) ((wr.alloc (.cells #[.int .i64 x0, .int .i64 x1, .int .i64 x2] 54)).drewN j) from fun j => by
              have e : res = 21 := HOK.out
              refine ⟨by rw [e], below_drewN (HBN.out.mono (by omega)) _, P, ?_⟩
              rw [← HG'.out, ← HW'.out, e, if_neg (by decide), if_neg (by decide)]
              exact HH.out.below (below_drewN HBN.out j))
            clear hpv
            go_wp2_with fail
            go_quiet (fail)
            go_wp2_with fail
            go_ret
            exact HEND.out _
          · have dp : decide (x0 ≤ pv) = false := by simp; omega
            rw [dp] at HOK
            clear hpv
            go_wp2_with fail
            go_quiet (fail)
            go_wp2_with fail
            go_roundg (l.length - (k + 1))
            case measure => have := HK.out; omega
            case rel => exact ⟨k + 1, rfl, by omega, by go_num, HOK.out, below_drewN HBN.out _⟩
        · have dk : decide ((0 : Int) < (k : Int)) = false := by simp; omega
          have dk' : decide (0 < k) = false := by simp; omega
          rw [dk', Bool.false_and] at HOK
          clear HPV
          go_wp2_with fail
          go_quiet (fail)
          go_wp2_with fail
          go_roundg (l.length - (k + 1))
          case measure => have := HK.out; omega
          case rel => exact ⟨k + 1, rfl, by omega, by go_num, HOK.out, below_drewN HBN.out _⟩
      · obtain rfl : k = l.length := by omega
        have hres : res = 0 := by
          rw [HE.out]
          unfold rowsAt
          rw [List.drop_length, rowsF]
        subst hres
        simp only [if_true] at HG' HW'
        have HB0 := Lib.hid hb
        clear HE
        go_wp2_with fail
        go_loopg [63] l.length (fun gk i wr => ∃ (k : Nat) (P' : Nat → Option Nat), gk = l.length - k ∧ k ≤ l.length ∧ i = .int .i64 k ∧ Below m w wr ∧ RefAt wr m me ticks last P' (heardG me G (l.take k)) (heardW me G W (l.take k)))
        case atStart => exact ⟨0, P, by omega, by omega, rfl, HB0.out.mono (by omega), HH.out.below HB0.out⟩
        case round =>
          obtain ⟨k, P', hgk, hk, rfl, hb, hg⟩ := hrel
          have HK := Lib.hid hgk
          clear hgk
          by_cases hlt : k < l.length
          · obtain ⟨e1, _, e2⟩ := heard_succ me G W l k hlt
            have HE1 := Lib.hid e1
            have HE2 := Lib.hid e2
            have hbad := rowBad_false (HALL.out (by simp) _ (getD_mem (0, 0, 0) hlt))
            obtain ⟨b, o, rfl, hbB, hc0, hc1, hc2⟩ := (HR.out.below (hb.mono hB)).gr hlt (0, 0, 0)
            generalize l.getD k (0, 0, 0) = x at *
            generalize heardG me G (l.take k) = G1 at *
            generalize heardW me G W (l.take k) = W1 at *
            obtain ⟨x0, x1, x2⟩ := x
            simp only at hc0 hc1 hc2 hbad
            obtain ⟨n, rfl⟩ := Int.eq_ofNat_of_zero_le (show 0 ≤ x0 by omega)
            have hgl := hg.lt
            have HC := Lib.hid (hear_any m me n ticks last x1 x2 P' G1 W1 (wr.alloc (.cells #[.int .i64 (n : Int), .int .i64 x1, .int .i64 x2] 54)) (hg.below ((Below.refl _ _).alloc (Nat.le_refl _) _)) (by omega) (by omega) (by omega))
            unfold HearPost at HC
            have HBW := Lib.hid (hb.alloc (by omega) (.cells #[.int .i64 (n : Int), .int .i64 x1, .int .i64 x2] 54))
            clear e1 e2 hg hbad
            go_wp2_with fail
            refine HC.out.mono ?_
            rintro e w4 ⟨rfl, hb4, P4, hg4⟩
            have HG4 := Lib.hid hg4
            clear hg4 HC
            go_wp2_with fail
            go_roundg (l.length - (k + 1))
            case measure => have := HK.out; omega
            case rel => exact ⟨k + 1, P4, rfl, by omega, by go_num, HBW.out.trans hb4, by rw [HE1.out, HE2.out]; exact HG4.out⟩
          · obtain rfl : k = l.length := by omega
            rw [List.take_length, HG'.out, HW'.out] at hg
            go_wp2_with fail
            go_ret
            exact ⟨rfl, hb, P', hg⟩
end Go.Proofs.Ytaecgapoaagjfaa
