
/-
  What is wrong with timers, by the reference (roadref3.TimersFault).
-/
import Derived.Test.YtdjahlkjfpbifaaTm3
namespace Go.Proofs.Ytdjahlkjfpbifaa
open Go.RowKit

set_option maxRecDepth 100000 in
set_option maxHeartbeats 4000000 in
theorem tmfault_any (now : Int) (A : Option Addr) (c : Nat) (l : List Du) (w : World) (hr : DuIn w A l) (hlc : l.length ≤ c) :
    Calls Try.prog 60 #[.agg #[.int .i64 now, .slice A l.length c]] w fun e w' => e = .returned (.int .i64 (tmF now l)) ∧ Below w.heap.size w w' := by
  have hlF : tmF now l = if 100 < l.length then 2 else if (decide (0 ≤ now) && decide (now ≤ 1099511627776)) = false then 1 else tmGo now [] l := rfl
  have hlm := hr.2
  unfold maxLen at hlm
  generalize tmF now l = R at *
  have HL := Lib.hid hlF
  have HB1 : Hid (Below w.heap.size w (w.alloc (.cells #[.int .i64 now, .slice A l.length c] 128))) := (Below.refl _ _).alloc (Nat.le_refl _) _
  have HX1 : Hid (Box (w.alloc (.cells #[.int .i64 now, .slice A l.length c] 128)) w.heap.size 128 #[.int .i64 now, .slice A l.length c]) := Box.new _ _ _
  have HR := Lib.hid (hr.below HB1.out)
  have hsz1 : w.heap.size < (w.alloc (.cells #[.int .i64 now, .slice A l.length c] 128)).heap.size := by simp
  have HS := Lib.hid hsz1
  clear hr hlF hsz1
  by_cases h1 : 100 < l.length
  · have d1 : decide ((100 : Int) < (l.length : Int)) = true := decide_eq_true (by omega)
    have d1' : decide (100 < l.length) = true := decide_eq_true h1
    have HE := Lib.hid (show R = 2 by rw [HL.out, if_pos h1])
    clear h1 HX1 HS HR
    go_enter Try.func60, Try.ntmps60
    go_wp2_with fail
    go_ret
    exact ⟨by rw [HE.out]; rfl, HB1.out⟩
  have d1 : decide ((100 : Int) < (l.length : Int)) = false := decide_eq_false (by omega)
  have d1' : decide (100 < l.length) = false := decide_eq_false h1
  have HRR := Lib.hid (show R = if (decide (0 ≤ now) && decide (now ≤ 1099511627776)) = false then 1 else tmGo now [] l by rw [HL.out, if_neg h1])
  clear h1 HL
  by_cases h2 : (decide (0 ≤ now) && decide (now ≤ 1099511627776)) = false
  · have HE := Lib.hid (show R = 1 by rw [HRR.out, if_pos h2])
    have HIN := Lib.hid (fun W => inT_any now 0 1099511627776 W)
    rw [h2] at HIN
    clear h2 HX1 HS HR
    go_enter Try.func60, Try.ntmps60
    go_wp2_with (go_at_call 63; refine (HIN.out _).mono ?_; rintro e w' ⟨rfl, rfl⟩)
    go_ret
    exact ⟨by rw [HE.out]; rfl, HB1.out⟩
  have h2' := bool_neg h2
  have hnow : 0 ≤ now ∧ now ≤ 1099511627776 := by simpa using h2'
  have HR2 := Lib.hid (show R = tmGo now [] l by rw [HRR.out, if_neg h2])
  have HIN := Lib.hid (fun W => inT_any now 0 1099511627776 W)
  rw [h2'] at HIN
  have hnw : IntKind.i64.wrap (now + 1) = now + 1 := IntWalk.i64_in _ (by omega)
  clear h2 h2' HRR
  go_enter Try.func60, Try.ntmps60
  go_wp2_with (go_at_call 63; refine (HIN.out _).mono ?_; rintro e w' ⟨rfl, rfl⟩)
  clear d1 d1' HIN
  generalize w.alloc (.cells #[.int .i64 now, .slice A l.length c] 128) = w1 at *
  go_loopg [18] l.length (fun gk i wr => ∃ k : Nat, gk = l.length - k ∧ k ≤ l.length ∧ i = .int .i64 k ∧ Hid (R = tmGo now (l.take k) (l.drop k)) ∧ Below w1.heap.size w1 wr)
  case atStart => exact ⟨0, by omega, by omega, rfl, HR2.out, Below.refl _ _⟩
  case round =>
    obtain ⟨k, hgk, hk, rfl, HF, hb⟩ := hrel
    have HK := Lib.hid hgk
    have HB := Lib.hid hb
    have hbs := hb.size
    clear hgk hb HR2
    by_cases hlt : k < l.length
    · have hro := Lib.hid (HR.out.below HB.out)
      obtain ⟨b, o, rfl, hbl, c0, c1⟩ := hro.out.1.du hlt du0
      have HD := Lib.hid (tmGo_step now l hlt)
      have HPV : Hid (0 < k → wr.cell? ⟨b, o + (k - 1) * 2, none⟩ = some (.int .i64 (l.getD (k - 1) du0).t) ∧ wr.cell? ⟨b, o + (k - 1) * 2 + 1, none⟩ = some (.int .i64 (l.getD (k - 1) du0).id)) := fun h0 => by
        obtain ⟨b', o', e', _, d0, d1⟩ := hro.out.1.du (show k - 1 < l.length by omega) du0
        injection e' with e'
        injection e' with e1 e2
        subst e1 e2
        exact ⟨d0, d1⟩
      generalize l.getD k du0 = y at *
      generalize l.getD (k - 1) du0 = pv at *
      obtain ⟨y0, y1⟩ := y
      obtain ⟨p0, p1⟩ := pv
      dsimp only at c0 c1 HPV HD
      have HN := Lib.hid (HF.out.trans HD.out)
      clear HF HD
      have hx0 : wr.cell? ⟨w.heap.size, 0, none⟩ = some (.int .i64 now) := (HB.out.cell (p := ⟨w.heap.size, 0, none⟩) HS.out).trans (HX1.out.cell 0)
      have hx1 : wr.cell? ⟨w.heap.size, 1, none⟩ = some (.slice (some ⟨b, o, none⟩) l.length c) := (HB.out.cell (p := ⟨w.heap.size, 1, none⟩) HS.out).trans (HX1.out.cell 1)
      have HBN := Lib.hid (HB.out.alloc hbs (.cells #[.int .i64 y0, .int .i64 y1] 139))
      have HZ : Hid (∀ w', Below w1.heap.size w1 w' → Below w.heap.size w w') := fun w' h => HB1.out.trans (h.mono (Nat.le_of_lt HS.out))
      have hs0 : w.heap.size < wr.heap.size := Nat.lt_of_lt_of_le HS.out hbs
      have HIN2 := Lib.hid (fun W => inT_any y0 (now + 1) 2199023255552 W)
      rw [show decide (now + 1 ≤ y0) = decide (now < y0) by rw [decide_eq_decide]; omega] at HIN2
      by_cases u0 : (decide (now < y0) && decide (y0 ≤ 2199023255552)) = false
      · rw [u0] at HIN2
        have HE := Lib.hid (show R = 1 by rw [HN.out, if_pos (by unfold inAt; exact u0)])
        clear HN HPV u0
        go_wp2_with (go_at_call 63; refine (HIN2.out _).mono ?_; rintro e w' ⟨rfl, rfl⟩)
        go_ret
        exact ⟨by rw [HE.out]; rfl, HZ.out _ HBN.out⟩
      rw [bool_neg u0] at HIN2
      have HN2 := Lib.hid (show R = if (decide (0 < k) && !duLt ⟨p0, p1⟩ ⟨y0, y1⟩) = true then 21 else if (l.take k).any (isId y1) = true then 5 else tmGo now (l.take (k + 1)) (l.drop (k + 1)) by
        rw [HN.out, if_neg (by unfold inAt; exact u0)])
      clear HN u0
      have hkl : (k : Int) ≤ (l.length : Int) := by omega
      have hklt : (k : Int) < (l.length : Int) := by omega
      have hk0 : (0 : Int) ≤ (k : Int) := by omega
      have hkc : k ≤ c := by omega
      have hkc' : (k : Int) ≤ (c : Int) := by omega
      go_wp2_with (go_at_call 63; refine (HIN2.out _).mono ?_; rintro e w' ⟨rfl, rfl⟩)
      clear HIN2
      have HW2 : Hid (Box (wr.alloc (.cells #[.int .i64 y0, .int .i64 y1] 139)) wr.heap.size 139 #[.int .i64 y0, .int .i64 y1]) := Box.new _ _ _
      have HV2 : Hid (wr.heap.size < (wr.alloc (.cells #[.int .i64 y0, .int .i64 y1] 139)).heap.size) := by show _ < _; simp
      have HP2 : Hid (0 < k → (wr.alloc (.cells #[.int .i64 y0, .int .i64 y1] 139)).cell? ⟨b, o + (k - 1) * 2, none⟩ = some (.int .i64 p0) ∧ (wr.alloc (.cells #[.int .i64 y0, .int .i64 y1] 139)).cell? ⟨b, o + (k - 1) * 2 + 1, none⟩ = some (.int .i64 p1)) := fun h => by
        obtain ⟨h1, h2⟩ := HPV.out h
        exact ⟨by rw [World.cell?_alloc_lt _ _ _ (lt_of_cell h1)]; exact h1, by rw [World.cell?_alloc_lt _ _ _ (lt_of_cell h2)]; exact h2⟩
      have hx2 : (wr.alloc (.cells #[.int .i64 y0, .int .i64 y1] 139)).cell? ⟨w.heap.size, 1, none⟩ = some (.slice (some ⟨b, o, none⟩) l.length c) := by rw [World.cell?_alloc_lt _ _ _ hs0]; exact hx1
      generalize wr.alloc (.cells #[.int .i64 y0, .int .i64 y1] 139) = w2 at *
      -- BEGIN
      clear HPV hx0 hx1 c0 c1
      by_cases hk0' : 0 < k
      · obtain ⟨m, rfl⟩ : ∃ m, k = m + 1 := ⟨k - 1, by omega⟩
        obtain ⟨hp0, hp1⟩ := HP2.out hk0'
        rw [Nat.add_sub_cancel] at hp0 hp1
        have dk : decide ((0 : Int) < (m : Int) + 1) = true := decide_eq_true (by omega)
        have dk' : decide (0 < m + 1) = true := by simp
        have hm0 : (0 : Int) ≤ (m : Int) := by omega
        have hmw : IntKind.i64.wrap (m : Int) = (m : Int) := IntWalk.i64_in _ (by omega)
        have hm1 : (m : Int) < (l.length : Int) := by omega
        have hm2 : m < l.length := by omega
        have hm3 : (m : Int) + 1 ≤ (c : Int) := by omega
        have hm4 : (0 : Int) ≤ (m : Int) + 1 := by omega
        have hy0 : w2.cell? ⟨wr.heap.size, 0, none⟩ = some (.int .i64 y0) := HW2.out.cell 0
        have hy1 : w2.cell? ⟨wr.heap.size, 1, none⟩ = some (.int .i64 y1) := HW2.out.cell 1
        have HN3 := Lib.hid (show R = if (!duLt ⟨p0, p1⟩ ⟨y0, y1⟩) = true then 21 else if (l.take (m + 1)).any (isId y1) = true then 5 else tmGo now (l.take (m + 1 + 1)) (l.drop (m + 1 + 1)) by rw [HN2.out, dk', Bool.true_and])
        have hlt1 := duLt_iff ⟨p0, p1⟩ ⟨y0, y1⟩
        dsimp only at hlt1
        have HDN : Hid ((¬ (p0 < y0 ∨ p0 = y0 ∧ p1 < y1)) → R = 21) := fun h => by
          rw [HN3.out, if_pos]
          rw [show duLt ⟨p0, p1⟩ ⟨y0, y1⟩ = false by rw [duLt_not]; exact h]; rfl
        have HDP : Hid ((p0 < y0 ∨ p0 = y0 ∧ p1 < y1) → R = if (l.take (m + 1)).any (isId y1) = true then 5 else tmGo now (l.take (m + 1 + 1)) (l.drop (m + 1 + 1))) := fun h => by
          rw [HN3.out, if_neg]
          rw [hlt1.2 h]; decide
        clear HN2 HN3 hlt1
        by_cases q1 : y0 < p0
        · have b1 : decide (y0 < p0) = true := decide_eq_true q1
          have HE := Lib.hid (HDN.out (by omega))
          clear q1 HDN HDP
          go_quiet (fail)
          rename_i nq
          go_wp2_with fail
          go_ret
          exact ⟨by rw [HE.out]; rfl, below_drewN (HZ.out _ HBN.out) _⟩
        have b1 : decide (y0 < p0) = false := decide_eq_false q1
        by_cases q2 : p0 = y0
        · have b2 : (p0 == y0) = true := by simpa using q2
          by_cases q3 : y1 ≤ p1
          · have b3 : decide (y1 ≤ p1) = true := decide_eq_true q3
            have HE := Lib.hid (HDN.out (by omega))
            clear q1 q2 q3 HDN HDP
            go_quiet (fail)
            rename_i nq
            go_wp2_with fail
            go_ret
            exact ⟨by rw [HE.out]; rfl, below_drewN (HZ.out _ HBN.out) _⟩
          · have b3 : decide (y1 ≤ p1) = false := decide_eq_false q3
            have HN4 := Lib.hid (HDP.out (by omega))
            clear q1 q2 q3 HDN HDP
            go_quiet (fail)
            rename_i nq
            have hb3 : Below w2.heap.size w2 (w2.drewN nq) := below_drewN (Below.refl _ _) nq
            generalize w2.drewN nq = w3 at *
            clear HP2 hp0 hp1 hy0 hy1
            have hb3' := Lib.hid (HBN.out.trans (hb3.mono HBN.out.size))
            have hx3 : w3.cell? ⟨w.heap.size, 1, none⟩ = some (.slice (some ⟨b, o, none⟩) l.length c) := (hb3.cell (p := ⟨w.heap.size, 1, none⟩) (Nat.lt_trans hs0 HV2.out)).trans hx2
            have hy3 : w3.cell? ⟨wr.heap.size, 1, none⟩ = some (.int .i64 y1) := (hb3.cell (p := ⟨wr.heap.size, 1, none⟩) HV2.out).trans (HW2.out.cell 1)
            have HY3 := Lib.hid (show wr.heap.size < w3.heap.size ∧ w3.cell? ⟨wr.heap.size, 1, none⟩ = some (.int .i64 y1) from ⟨Nat.lt_of_lt_of_le HV2.out hb3.size, hy3⟩)
            clear hb3
            go_wp2_with fail
            clear hx3 hy3
            generalize hgd : wr.heap.size = gd at *
            go_loopg [73] (m + 1) (fun gk2 i wr2 => ∃ j : Nat, gk2 = (m + 1) - j ∧ j ≤ (m + 1) ∧ i = .int .i64 j ∧ Hid ((l.take (m + 1)).any (isId y1) = ((l.take (m + 1)).drop j).any (isId y1)) ∧ Below w3.heap.size w3 wr2)
            case atStart => exact ⟨0, by omega, by omega, rfl, rfl, Below.refl _ _⟩
            case round =>
              obtain ⟨j, hgk2, hj, rfl, HF2, hb2⟩ := hrel
              have HK2 := Lib.hid hgk2
              have HB2 := Lib.hid hb2
              have HB3 := Lib.hid (hb3'.out.trans (hb2.mono hb3'.out.size))
              clear hgk2 hb2
              by_cases hjk : j < (m + 1)
              · have hll : j < (l.take (m + 1)).length := by rw [List.length_take]; omega
                obtain ⟨b', o', he', hbl', e0, e1⟩ := ((HR.out.below HB3.out).take (m + 1)).1.du hll du0
                injection he' with he'
                injection he' with h1 h2
                subst h1 h2
                have HD2 := Lib.hid (drop_getD (l.take (m + 1)) du0 hll)
                generalize (l.take (m + 1)).getD j du0 = z at *
                obtain ⟨z0, z1⟩ := z
                dsimp only at e0 e1
                have hy2 : wr.cell? ⟨gd, 1, none⟩ = some (.int .i64 y1) := (HB2.out.cell (p := ⟨gd, 1, none⟩) HY3.out.1).trans HY3.out.2
                have hs2 : gd < wr.heap.size := Nat.lt_of_lt_of_le HY3.out.1 HB2.out.size
                have hjl : (j : Int) < ((m : Int) + 1) := by omega
                have hj0 : (0 : Int) ≤ (j : Int) := by omega
                by_cases hz : z1 = y1
                · have b7 : (z1 == y1) = true := by simpa using hz
                  have HE := Lib.hid (show R = 5 by rw [HN4.out, if_pos]; rw [HF2.out, HD2.out, List.any_cons, show isId y1 ⟨z0, z1⟩ = true from b7]; rfl)
                  have HZ5 := Lib.hid (HZ.out _ (HB3.out.alloc HB3.out.size (.cells #[.int .i64 z0, .int .i64 z1] 139)))
                  clear hz
                  go_wp2_with fail
                  go_ret
                  exact ⟨by rw [HE.out]; rfl, HZ5.out⟩
                · have b7 : (z1 == y1) = false := by simpa using hz
                  have HE := Lib.hid (show (l.take (m + 1)).any (isId y1) = ((l.take (m + 1)).drop (j + 1)).any (isId y1) by rw [HF2.out, HD2.out, List.any_cons, show isId y1 ⟨z0, z1⟩ = false from b7]; rfl)
                  have HZ5 := Lib.hid (HB2.out.alloc HB2.out.size (.cells #[.int .i64 z0, .int .i64 z1] 139))
                  clear hz
                  go_wp2_with fail
                  go_roundg ((m + 1) - (j + 1))
                  case measure => have := HK2.out; omega
                  case rel => exact ⟨j + 1, rfl, by omega, by go_num, HE.out, HZ5.out⟩
              · obtain rfl : (m + 1) = j := by omega
                have HE := Lib.hid (show R = tmGo now (l.take (m + 1 + 1)) (l.drop (m + 1 + 1)) by rw [HN4.out, if_neg]; rw [HF2.out, List.drop_eq_nil_of_le (by rw [List.length_take]; omega)]; simp)
                go_wp2_with fail
                go_roundg (l.length - (m + 1 + 1))
                case measure => have := HK.out; omega
                case rel => exact ⟨m + 1 + 1, rfl, by omega, by go_num, HE.out, HB3.out⟩
        · have b2 : (p0 == y0) = false := by simpa using q2
          have HN4 := Lib.hid (HDP.out (by omega))
          clear q1 q2 HDN HDP
          go_quiet (fail)
          rename_i nq
          have hb3 : Below w2.heap.size w2 (w2.drewN nq) := below_drewN (Below.refl _ _) nq
          generalize w2.drewN nq = w3 at *
          clear HP2 hp0 hp1 hy0 hy1
          have hb3' := Lib.hid (HBN.out.trans (hb3.mono HBN.out.size))
          have hx3 : w3.cell? ⟨w.heap.size, 1, none⟩ = some (.slice (some ⟨b, o, none⟩) l.length c) := (hb3.cell (p := ⟨w.heap.size, 1, none⟩) (Nat.lt_trans hs0 HV2.out)).trans hx2
          have hy3 : w3.cell? ⟨wr.heap.size, 1, none⟩ = some (.int .i64 y1) := (hb3.cell (p := ⟨wr.heap.size, 1, none⟩) HV2.out).trans (HW2.out.cell 1)
          have HY3 := Lib.hid (show wr.heap.size < w3.heap.size ∧ w3.cell? ⟨wr.heap.size, 1, none⟩ = some (.int .i64 y1) from ⟨Nat.lt_of_lt_of_le HV2.out hb3.size, hy3⟩)
          clear hb3
          go_wp2_with fail
          clear hx3 hy3
          generalize hgd : wr.heap.size = gd at *
          go_loopg [73] (m + 1) (fun gk2 i wr2 => ∃ j : Nat, gk2 = (m + 1) - j ∧ j ≤ (m + 1) ∧ i = .int .i64 j ∧ Hid ((l.take (m + 1)).any (isId y1) = ((l.take (m + 1)).drop j).any (isId y1)) ∧ Below w3.heap.size w3 wr2)
          case atStart => exact ⟨0, by omega, by omega, rfl, rfl, Below.refl _ _⟩
          case round =>
            obtain ⟨j, hgk2, hj, rfl, HF2, hb2⟩ := hrel
            have HK2 := Lib.hid hgk2
            have HB2 := Lib.hid hb2
            have HB3 := Lib.hid (hb3'.out.trans (hb2.mono hb3'.out.size))
            clear hgk2 hb2
            by_cases hjk : j < (m + 1)
            · have hll : j < (l.take (m + 1)).length := by rw [List.length_take]; omega
              obtain ⟨b', o', he', hbl', e0, e1⟩ := ((HR.out.below HB3.out).take (m + 1)).1.du hll du0
              injection he' with he'
              injection he' with h1 h2
              subst h1 h2
              have HD2 := Lib.hid (drop_getD (l.take (m + 1)) du0 hll)
              generalize (l.take (m + 1)).getD j du0 = z at *
              obtain ⟨z0, z1⟩ := z
              dsimp only at e0 e1
              have hy2 : wr.cell? ⟨gd, 1, none⟩ = some (.int .i64 y1) := (HB2.out.cell (p := ⟨gd, 1, none⟩) HY3.out.1).trans HY3.out.2
              have hs2 : gd < wr.heap.size := Nat.lt_of_lt_of_le HY3.out.1 HB2.out.size
              have hjl : (j : Int) < ((m : Int) + 1) := by omega
              have hj0 : (0 : Int) ≤ (j : Int) := by omega
              by_cases hz : z1 = y1
              · have b7 : (z1 == y1) = true := by simpa using hz
                have HE := Lib.hid (show R = 5 by rw [HN4.out, if_pos]; rw [HF2.out, HD2.out, List.any_cons, show isId y1 ⟨z0, z1⟩ = true from b7]; rfl)
                have HZ5 := Lib.hid (HZ.out _ (HB3.out.alloc HB3.out.size (.cells #[.int .i64 z0, .int .i64 z1] 139)))
                clear hz
                go_wp2_with fail
                go_ret
                exact ⟨by rw [HE.out]; rfl, HZ5.out⟩
              · have b7 : (z1 == y1) = false := by simpa using hz
                have HE := Lib.hid (show (l.take (m + 1)).any (isId y1) = ((l.take (m + 1)).drop (j + 1)).any (isId y1) by rw [HF2.out, HD2.out, List.any_cons, show isId y1 ⟨z0, z1⟩ = false from b7]; rfl)
                have HZ5 := Lib.hid (HB2.out.alloc HB2.out.size (.cells #[.int .i64 z0, .int .i64 z1] 139))
                clear hz
                go_wp2_with fail
                go_roundg ((m + 1) - (j + 1))
                case measure => have := HK2.out; omega
                case rel => exact ⟨j + 1, rfl, by omega, by go_num, HE.out, HZ5.out⟩
            · obtain rfl : (m + 1) = j := by omega
              have HE := Lib.hid (show R = tmGo now (l.take (m + 1 + 1)) (l.drop (m + 1 + 1)) by rw [HN4.out, if_neg]; rw [HF2.out, List.drop_eq_nil_of_le (by rw [List.length_take]; omega)]; simp)
              go_wp2_with fail
              go_roundg (l.length - (m + 1 + 1))
              case measure => have := HK.out; omega
              case rel => exact ⟨m + 1 + 1, rfl, by omega, by go_num, HE.out, HB3.out⟩
      · have dk : decide ((0 : Int) < (k : Int)) = false := by simp; omega
        have dk' : decide (0 < k) = false := by simp; omega
        have HN4 := Lib.hid (show R = if (l.take k).any (isId y1) = true then 5 else tmGo now (l.take (k + 1)) (l.drop (k + 1)) by rw [HN2.out, dk', Bool.false_and, if_neg (by decide)])
        clear HN2 HP2
        go_quiet (fail)
        rename_i nq
        have hb3 : Below w2.heap.size w2 (w2.drewN nq) := below_drewN (Below.refl _ _) nq
        generalize w2.drewN nq = w3 at *
        have hb3' := Lib.hid (HBN.out.trans (hb3.mono HBN.out.size))
        have hx3 : w3.cell? ⟨w.heap.size, 1, none⟩ = some (.slice (some ⟨b, o, none⟩) l.length c) := (hb3.cell (p := ⟨w.heap.size, 1, none⟩) (Nat.lt_trans hs0 HV2.out)).trans hx2
        have hy3 : w3.cell? ⟨wr.heap.size, 1, none⟩ = some (.int .i64 y1) := (hb3.cell (p := ⟨wr.heap.size, 1, none⟩) HV2.out).trans (HW2.out.cell 1)
        have HY3 := Lib.hid (show wr.heap.size < w3.heap.size ∧ w3.cell? ⟨wr.heap.size, 1, none⟩ = some (.int .i64 y1) from ⟨Nat.lt_of_lt_of_le HV2.out hb3.size, hy3⟩)
        clear hb3
        go_wp2_with fail
        clear hx3 hy3
        generalize hgd : wr.heap.size = gd at *
        go_loopg [73] (k) (fun gk2 i wr2 => ∃ j : Nat, gk2 = (k) - j ∧ j ≤ (k) ∧ i = .int .i64 j ∧ Hid ((l.take (k)).any (isId y1) = ((l.take (k)).drop j).any (isId y1)) ∧ Below w3.heap.size w3 wr2)
        case atStart => exact ⟨0, by omega, by omega, rfl, rfl, Below.refl _ _⟩
        case round =>
          obtain ⟨j, hgk2, hj, rfl, HF2, hb2⟩ := hrel
          have HK2 := Lib.hid hgk2
          have HB2 := Lib.hid hb2
          have HB3 := Lib.hid (hb3'.out.trans (hb2.mono hb3'.out.size))
          clear hgk2 hb2
          by_cases hjk : j < (k)
          · exact absurd hjk (by omega)
          · obtain rfl : (k) = j := by omega
            have HE := Lib.hid (show R = tmGo now (l.take (k + 1)) (l.drop (k + 1)) by rw [HN4.out, if_neg]; rw [HF2.out, List.drop_eq_nil_of_le (by rw [List.length_take]; omega)]; simp)
            go_wp2_with fail
            go_roundg (l.length - (k + 1))
            case measure => have := HK.out; omega
            case rel => exact ⟨k + 1, rfl, by omega, by go_num, HE.out, HB3.out⟩
      -- END
    · have HE := Lib.hid (show R = 0 by rw [HF.out, List.drop_eq_nil_of_le (by omega)]; rfl)
      go_wp2_with fail
      go_ret
      exact ⟨by rw [HE.out]; rfl, HB1.out.trans (HB.out.mono (Nat.le_of_lt HS.out))⟩
end Go.Proofs.Ytdjahlkjfpbifaa
