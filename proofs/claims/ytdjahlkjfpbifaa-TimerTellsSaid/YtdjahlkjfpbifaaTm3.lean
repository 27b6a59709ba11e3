
/-
  What is wrong with timers (timer.Check).
-/
import Derived.Test.YtdjahlkjfpbifaaTm1
import Derived.Deep.QuietTactic
import Derived.BigQuiet
import Derived.IntWalk
namespace Go.Proofs.Ytdjahlkjfpbifaa
open Go.RowKit

theorem bool_neg {b : Bool} (h : ¬ b = false) : b = true := by simpa using h
/-- The dues ahead of a place are read. -/
theorem DuIn.take {w : World} {A : Option Addr} {l : List Du} (h : DuIn w A l) (k : Nat) : DuIn w A (l.take k) :=
  ⟨by rw [flat_take duC_len]; exact h.1.take _, by have := h.2; rw [List.length_take]; omega⟩

set_option maxRecDepth 100000 in
set_option maxHeartbeats 4000000 in
theorem tmcheck_any (now : Int) (A : Option Addr) (c : Nat) (l : List Du) (w : World) (hr : DuIn w A l) (hlc : l.length ≤ c) :
    Calls Try.prog 61 #[.agg #[.int .i64 now, .slice A l.length c]] w fun e w' => e = .returned (.int .i64 (tmF now l)) ∧ Below w.heap.size w w' := by
  have hlF : tmF now l = if 100 < l.length then 2 else if (decide (0 ≤ now) && decide (now ≤ 1099511627776)) = false then 1 else tmGo now [] l := rfl
  have hlm := hr.2
  unfold maxLen at hlm
  generalize tmF now l = R at *
  have HL := Lib.hid hlF
  have HB1 : Hid (Below w.heap.size w (w.alloc (.cells #[.int .i64 now, .slice A l.length c] 128))) := (Below.refl _ _).alloc (Nat.le_refl _) _
  have HX1 : Hid (Box (w.alloc (.cells #[.int .i64 now, .slice A l.length c] 128)) w.heap.size 128 #[.int .i64 now, .slice A l.length c]) := Box.new _ _ _
  have HR := Lib.hid (hr.below HB1.out)
  have hsz1 : w.heap.size < (w.alloc (.cells #[.int .i64 now, .slice A l.length c] 128)).heap.size := by simp
  have HS := Lib.hid hsz1
  clear hr hlF hsz1
  by_cases h1 : 100 < l.length
  · have d1 : decide ((100 : Int) < (l.length : Int)) = true := decide_eq_true (by omega)
    have d1' : decide (100 < l.length) = true := decide_eq_true h1
    have HE := Lib.hid (show R = 2 by rw [HL.out, if_pos h1])
    clear h1 HX1 HS HR
    go_enter Try.func61, Try.ntmps61
    go_wp2_with fail
    go_ret
    exact ⟨by rw [HE.out]; rfl, HB1.out⟩
  have d1 : decide ((100 : Int) < (l.length : Int)) = false := decide_eq_false (by omega)
  have d1' : decide (100 < l.length) = false := decide_eq_false h1
  have HRR := Lib.hid (show R = if (decide (0 ≤ now) && decide (now ≤ 1099511627776)) = false then 1 else tmGo now [] l by rw [HL.out, if_neg h1])
  clear h1 HL
  by_cases h2 : now < 0
  · have d2 : decide (now < 0) = true := decide_eq_true h2
    have HE := Lib.hid (show R = 1 by rw [HRR.out, if_pos (by rw [decide_eq_false (by omega : ¬ 0 ≤ now)]; rfl)])
    clear h2 HX1 HS HR
    go_enter Try.func61, Try.ntmps61
    go_wp2_with fail
    go_ret
    exact ⟨by rw [HE.out]; rfl, HB1.out⟩
  have d2 : decide (now < 0) = false := decide_eq_false h2
  by_cases h3 : 1099511627776 < now
  · have d3 : decide (1099511627776 < now) = true := decide_eq_true h3
    have HE := Lib.hid (show R = 1 by rw [HRR.out, if_pos (by rw [decide_eq_false (by omega : ¬ now ≤ 1099511627776), Bool.and_false])])
    clear h2 h3 HX1 HS HR
    go_enter Try.func61, Try.ntmps61
    go_wp2_with fail
    go_ret
    exact ⟨by rw [HE.out]; rfl, HB1.out⟩
  have d3 : decide (1099511627776 < now) = false := decide_eq_false h3
  have HR2 := Lib.hid (show R = tmGo now [] l by rw [HRR.out, if_neg (by rw [decide_eq_true (by omega : 0 ≤ now), decide_eq_true (by omega : now ≤ 1099511627776)]; decide)])
  clear h2 h3 HRR
  go_enter Try.func61, Try.ntmps61
  go_wp2_with fail
  clear d1 d1' d2 d3
  generalize w.alloc (.cells #[.int .i64 now, .slice A l.length c] 128) = w1 at *
  go_loopg [22] l.length (fun gk i wr => ∃ k : Nat, gk = l.length - k ∧ k ≤ l.length ∧ i = .int .i64 k ∧ Hid (R = tmGo now (l.take k) (l.drop k)) ∧ Below w1.heap.size w1 wr)
  case atStart => exact ⟨0, by omega, by omega, rfl, HR2.out, Below.refl _ _⟩
  case round =>
    obtain ⟨k, hgk, hk, rfl, HF, hb⟩ := hrel
    have HK := Lib.hid hgk
    have HB := Lib.hid hb
    have hbs := hb.size
    clear hgk hb HR2
    by_cases hlt : k < l.length
    · have hro := Lib.hid (HR.out.below HB.out)
      obtain ⟨b, o, rfl, hbl, c0, c1⟩ := hro.out.1.du hlt du0
      have HD := Lib.hid (tmGo_step now l hlt)
      have HPV : Hid (0 < k → wr.cell? ⟨b, o + (k - 1) * 2, none⟩ = some (.int .i64 (l.getD (k - 1) du0).t) ∧ wr.cell? ⟨b, o + (k - 1) * 2 + 1, none⟩ = some (.int .i64 (l.getD (k - 1) du0).id)) := fun h0 => by
        obtain ⟨b', o', e', _, d0, d1⟩ := hro.out.1.du (show k - 1 < l.length by omega) du0
        injection e' with e'
        injection e' with e1 e2
        subst e1 e2
        exact ⟨d0, d1⟩
      generalize l.getD k du0 = y at *
      generalize l.getD (k - 1) du0 = pv at *
      obtain ⟨y0, y1⟩ := y
      obtain ⟨p0, p1⟩ := pv
      dsimp only at c0 c1 HPV HD
      have HN := Lib.hid (HF.out.trans HD.out)
      clear HF HD
      have hx0 : wr.cell? ⟨w.heap.size, 0, none⟩ = some (.int .i64 now) := (HB.out.cell (p := ⟨w.heap.size, 0, none⟩) HS.out).trans (HX1.out.cell 0)
      have hx1 : wr.cell? ⟨w.heap.size, 1, none⟩ = some (.slice (some ⟨b, o, none⟩) l.length c) := (HB.out.cell (p := ⟨w.heap.size, 1, none⟩) HS.out).trans (HX1.out.cell 1)
      have HBN := Lib.hid (HB.out.alloc hbs (.cells #[.int .i64 y0, .int .i64 y1] 139))
      have HZ : Hid (∀ w', Below w1.heap.size w1 w' → Below w.heap.size w w') := fun w' h => HB1.out.trans (h.mono (Nat.le_of_lt HS.out))
      have hs0 : w.heap.size < wr.heap.size := Nat.lt_of_lt_of_le HS.out hbs
      by_cases u0 : y0 ≤ now
      · have b0 : decide (y0 ≤ now) = true := decide_eq_true u0
        have HE := Lib.hid (show R = 1 by rw [HN.out, if_pos (by unfold inAt; dsimp only; rw [decide_eq_false (by omega : ¬ now < y0)]; rfl)])
        clear HN HPV u0
        go_wp2_with fail
        go_ret
        exact ⟨by rw [HE.out]; rfl, HZ.out _ HBN.out⟩
      have b0 : decide (y0 ≤ now) = false := decide_eq_false u0
      by_cases u1 : 2199023255552 < y0
      · have b1 : decide (2199023255552 < y0) = true := decide_eq_true u1
        have HE := Lib.hid (show R = 1 by rw [HN.out, if_pos (by unfold inAt; dsimp only; rw [decide_eq_false (by omega : ¬ y0 ≤ 2199023255552), Bool.and_false])])
        clear HN HPV u0 u1
        go_wp2_with fail
        go_ret
        exact ⟨by rw [HE.out]; rfl, HZ.out _ HBN.out⟩
      have b1 : decide (2199023255552 < y0) = false := decide_eq_false u1
      have HN2 := Lib.hid (show R = if (decide (0 < k) && !duLt ⟨p0, p1⟩ ⟨y0, y1⟩) = true then 21 else if (l.take k).any (isId y1) = true then 5 else tmGo now (l.take (k + 1)) (l.drop (k + 1)) by
        rw [HN.out, if_neg (by unfold inAt; dsimp only; rw [decide_eq_true (by omega : now < y0), decide_eq_true (by omega : y0 ≤ 2199023255552)]; decide)])
      clear HN u0 u1
      have HFD := Lib.hid (fun (w' : World) (h : Below w1.heap.size w1 w') => by
        have := tmfind_any y1 (some ⟨b, o, none⟩) c (l.take k) w' ((HR.out.below h).take k).1 ((HR.out.below h).take k).2
        rwa [List.length_take, Nat.min_eq_left (by omega)] at this)
      have hkl : (k : Int) ≤ (l.length : Int) := by omega
      have hklt : (k : Int) < (l.length : Int) := by omega
      have hk0 : (0 : Int) ≤ (k : Int) := by omega
      have hkc : k ≤ c := by omega
      have hkc' : (k : Int) ≤ (c : Int) := by omega
      go_wp2_with fail
      have HW2 : Hid (Box (wr.alloc (.cells #[.int .i64 y0, .int .i64 y1] 139)) wr.heap.size 139 #[.int .i64 y0, .int .i64 y1]) := Box.new _ _ _
      have HV2 : Hid (wr.heap.size < (wr.alloc (.cells #[.int .i64 y0, .int .i64 y1] 139)).heap.size) := by show _ < _; simp
      have HP2 : Hid (0 < k → (wr.alloc (.cells #[.int .i64 y0, .int .i64 y1] 139)).cell? ⟨b, o + (k - 1) * 2, none⟩ = some (.int .i64 p0) ∧ (wr.alloc (.cells #[.int .i64 y0, .int .i64 y1] 139)).cell? ⟨b, o + (k - 1) * 2 + 1, none⟩ = some (.int .i64 p1)) := fun h => by
        obtain ⟨h1, h2⟩ := HPV.out h
        exact ⟨by rw [World.cell?_alloc_lt _ _ _ (lt_of_cell h1)]; exact h1, by rw [World.cell?_alloc_lt _ _ _ (lt_of_cell h2)]; exact h2⟩
      have hx2 : (wr.alloc (.cells #[.int .i64 y0, .int .i64 y1] 139)).cell? ⟨w.heap.size, 1, none⟩ = some (.slice (some ⟨b, o, none⟩) l.length c) := by rw [World.cell?_alloc_lt _ _ _ hs0]; exact hx1
      generalize wr.alloc (.cells #[.int .i64 y0, .int .i64 y1] 139) = w2 at *
      -- BEGIN
      clear HPV hx0 hx1 c0 c1 b0 b1
      by_cases hk0' : 0 < k
      · obtain ⟨m, rfl⟩ : ∃ m, k = m + 1 := ⟨k - 1, by omega⟩
        obtain ⟨hp0, hp1⟩ := HP2.out hk0'
        rw [Nat.add_sub_cancel] at hp0 hp1
        have dk : decide ((0 : Int) < (m : Int) + 1) = true := decide_eq_true (by omega)
        have dk' : decide (0 < m + 1) = true := by simp
        have hm0 : (0 : Int) ≤ (m : Int) := by omega
        have hmw : IntKind.i64.wrap (m : Int) = (m : Int) := IntWalk.i64_in _ (by omega)
        have hm1 : (m : Int) < (l.length : Int) := by omega
        have hm2 : m < l.length := by omega
        have hm3 : (m : Int) + 1 ≤ (c : Int) := by omega
        have hm4 : (0 : Int) ≤ (m : Int) + 1 := by omega
        have hd2 : Below w2.heap.size w2 w2.drew := below_drewN (Below.refl _ _) 1
        have hy0 : w2.cell? ⟨wr.heap.size, 0, none⟩ = some (.int .i64 y0) := HW2.out.cell 0
        have hy1 : w2.cell? ⟨wr.heap.size, 1, none⟩ = some (.int .i64 y1) := HW2.out.cell 1
        have HSK := Lib.hid (fun (w' : World) (hb : Below w2.heap.size w2 w') => (show w'.cell? ⟨w.heap.size, 1, none⟩ = some (.slice (some ⟨b, o, none⟩) l.length c) ∧ (w'.cell? ⟨b, o + m * 2, none⟩ = some (.int .i64 p0) ∧ w'.cell? ⟨b, o + m * 2 + 1, none⟩ = some (.int .i64 p1)) ∧ (w'.cell? ⟨wr.heap.size, 0, none⟩ = some (.int .i64 y0) ∧ w'.cell? ⟨wr.heap.size, 1, none⟩ = some (.int .i64 y1)) from ⟨(hb.cell (lt_of_cell hx2)).trans hx2, ⟨(hb.cell (lt_of_cell hp0)).trans hp0, (hb.cell (lt_of_cell hp1)).trans hp1⟩, (hb.cell (lt_of_cell hy0)).trans hy0, (hb.cell (lt_of_cell hy1)).trans hy1⟩))
        have HN3 := Lib.hid (show R = if (!duLt ⟨p0, p1⟩ ⟨y0, y1⟩) = true then 21 else if (l.take (m + 1)).any (isId y1) = true then 5 else tmGo now (l.take (m + 1 + 1)) (l.drop (m + 1 + 1)) by rw [HN2.out, dk', Bool.true_and])
        have hlt1 := ordD_lt ⟨p0, p1⟩ ⟨y0, y1⟩
        have HOR := Lib.hid (fun W => (show Calls Try.prog 107 #[.agg #[.int .i64 p0, .int .i64 p1], .agg #[.int .i64 y0, .int .i64 y1]] W _ from order_any ⟨p0, p1⟩ ⟨y0, y1⟩ W))
        clear HN2
        by_cases hq : 0 ≤ ordD ⟨p0, p1⟩ ⟨y0, y1⟩
        · have b5 : decide (0 ≤ ordD ⟨p0, p1⟩ ⟨y0, y1⟩) = true := decide_eq_true hq
          have HE := Lib.hid (show R = 21 by rw [HN3.out, if_pos (by rw [← hlt1, decide_eq_false (by omega)]; rfl)])
          clear hq hlt1
          generalize ordD ⟨p0, p1⟩ ⟨y0, y1⟩ = rq at *
          go_region_held3 (fun w' => w'.cell? ⟨w.heap.size, 1, none⟩ = some (.slice (some ⟨b, o, none⟩) l.length c) ∧ (w'.cell? ⟨b, o + m * 2, none⟩ = some (.int .i64 p0) ∧ w'.cell? ⟨b, o + m * 2 + 1, none⟩ = some (.int .i64 p1)) ∧ (w'.cell? ⟨wr.heap.size, 0, none⟩ = some (.int .i64 y0) ∧ w'.cell? ⟨wr.heap.size, 1, none⟩ = some (.int .i64 y1)))
            ((first | exact HSK.out _ (hd2.trans (hg3.below.mono hd2.size)) | exact HSK.out _ hd2 | exact HSK.out _ (Below.refl _ _) | go_keep))
            ((first
              | (go_at_call 107; (with_reducible refine (HOR.out _).mono ?_); rintro e w3 ⟨rfl, hg3⟩)))
          all_goals
            have HZ3 := Lib.hid (HBN.out.trans ((hd2.trans (hg3.below.mono hd2.size)).mono HBN.out.size))
            clear hg3
            go_wp2_with fail
            go_ret
            exact ⟨by rw [HE.out]; rfl, HZ.out _ HZ3.out⟩
        · have b5 : decide (0 ≤ ordD ⟨p0, p1⟩ ⟨y0, y1⟩) = false := decide_eq_false hq
          have HN4 := Lib.hid (show R = if (l.take (m + 1)).any (isId y1) = true then 5 else tmGo now (l.take (m + 1 + 1)) (l.drop (m + 1 + 1)) by rw [HN3.out, if_neg (by rw [← hlt1, decide_eq_true (by omega)]; decide)])
          clear hq hlt1
          generalize ordD ⟨p0, p1⟩ ⟨y0, y1⟩ = rq at *
          go_region_held3 (fun w' => w'.cell? ⟨w.heap.size, 1, none⟩ = some (.slice (some ⟨b, o, none⟩) l.length c) ∧ (w'.cell? ⟨b, o + m * 2, none⟩ = some (.int .i64 p0) ∧ w'.cell? ⟨b, o + m * 2 + 1, none⟩ = some (.int .i64 p1)) ∧ (w'.cell? ⟨wr.heap.size, 0, none⟩ = some (.int .i64 y0) ∧ w'.cell? ⟨wr.heap.size, 1, none⟩ = some (.int .i64 y1)))
            ((first | exact HSK.out _ (hd2.trans (hg3.below.mono hd2.size)) | exact HSK.out _ hd2 | exact HSK.out _ (Below.refl _ _) | go_keep))
            ((first
              | (go_at_call 107; (with_reducible refine (HOR.out _).mono ?_); rintro e w3 ⟨rfl, hg3⟩)))
          all_goals
            have hb3 := hd2.trans (hg3.below.mono hd2.size)
            clear hg3 HSK hd2 hp0 hp1 hy0 hy1 b5 HP2
            have hb3' := Lib.hid (HBN.out.trans (hb3.mono HBN.out.size))
            have hd3 : Below w3.heap.size w3 w3.drew := below_drewN (Below.refl _ _) 1
            have HD3 := Lib.hid (hb3'.out.trans (hd3.mono hb3'.out.size))
            have hx3 : w3.cell? ⟨w.heap.size, 1, none⟩ = some (.slice (some ⟨b, o, none⟩) l.length c) := (hb3.cell (p := ⟨w.heap.size, 1, none⟩) (Nat.lt_trans hs0 HV2.out)).trans hx2
            have hy3 : w3.cell? ⟨wr.heap.size, 1, none⟩ = some (.int .i64 y1) := (hb3.cell (p := ⟨wr.heap.size, 1, none⟩) HV2.out).trans (HW2.out.cell 1)
            have HSK3 := Lib.hid (fun (w' : World) (hb : Below w3.heap.size w3 w') => (show w'.cell? ⟨w.heap.size, 1, none⟩ = some (.slice (some ⟨b, o, none⟩) l.length c) ∧ w'.cell? ⟨wr.heap.size, 1, none⟩ = some (.int .i64 y1) from ⟨(hb.cell (lt_of_cell hx3)).trans hx3, (hb.cell (lt_of_cell hy3)).trans hy3⟩))
            clear hb3
            go_wp2_with fail
            by_cases hf : 0 ≤ duAt (l.take (m + 1)) y1
            · have b6 : decide (0 ≤ duAt (l.take (m + 1)) y1) = true := decide_eq_true hf
              have HE := Lib.hid (show R = 5 by rw [HN4.out, if_pos (by rw [← idxAt_any (isId y1) (l.take (m + 1)) 0 (by omega)]; exact b6)])
              clear hf
              generalize duAt (l.take (m + 1)) y1 = rr at *
              go_region_held3 (fun w' => w'.cell? ⟨w.heap.size, 1, none⟩ = some (.slice (some ⟨b, o, none⟩) l.length c) ∧ w'.cell? ⟨wr.heap.size, 1, none⟩ = some (.int .i64 y1))
                ((first | exact HSK3.out _ (hd3.trans (hb4.mono hd3.size)) | exact HSK3.out _ hd3 | exact HSK3.out _ (Below.refl _ _) | go_keep))
                ((first
                  | (go_at_call 108; (with_reducible refine (HFD.out _ HD3.out).mono ?_); rintro e w4 ⟨rfl, hb4⟩)))
              all_goals
                go_wp2_with fail
                go_ret
                exact ⟨by rw [HE.out]; rfl, HZ.out _ (HD3.out.trans (hb4.mono HD3.out.size))⟩
            · have b6 : decide (0 ≤ duAt (l.take (m + 1)) y1) = false := decide_eq_false hf
              have HE := Lib.hid (show R = tmGo now (l.take (m + 1 + 1)) (l.drop (m + 1 + 1)) by rw [HN4.out, if_neg (by rw [← idxAt_any (isId y1) (l.take (m + 1)) 0 (by omega)]; show ¬ decide (0 ≤ duAt (l.take (m + 1)) y1) = true; rw [b6]; decide)])
              clear hf
              generalize duAt (l.take (m + 1)) y1 = rr at *
              go_region_held3 (fun w' => w'.cell? ⟨w.heap.size, 1, none⟩ = some (.slice (some ⟨b, o, none⟩) l.length c) ∧ w'.cell? ⟨wr.heap.size, 1, none⟩ = some (.int .i64 y1))
                ((first | exact HSK3.out _ (hd3.trans (hb4.mono hd3.size)) | exact HSK3.out _ hd3 | exact HSK3.out _ (Below.refl _ _) | go_keep))
                ((first
                  | (go_at_call 108; (with_reducible refine (HFD.out _ HD3.out).mono ?_); rintro e w4 ⟨rfl, hb4⟩)))
              all_goals
                have HZ4 := Lib.hid (HD3.out.trans (hb4.mono HD3.out.size))
                clear hb4
                go_wp2_with fail
                go_roundg (l.length - (m + 1 + 1))
                case measure => have := HK.out; omega
                case rel => exact ⟨m + 1 + 1, rfl, by omega, by go_num, HE.out, HZ4.out⟩
      · have dk : decide ((0 : Int) < (k : Int)) = false := by simp; omega
        have dk' : decide (0 < k) = false := by simp; omega
        have HN4 := Lib.hid (show R = if (l.take k).any (isId y1) = true then 5 else tmGo now (l.take (k + 1)) (l.drop (k + 1)) by rw [HN2.out, dk', Bool.false_and, if_neg (by decide)])
        clear HN2 HP2
        go_quiet (fail)
        rename_i nq
        have hb3 : Below w2.heap.size w2 (w2.drewN nq) := below_drewN (Below.refl _ _) nq
        generalize w2.drewN nq = w3 at *
        have hb3' := Lib.hid (HBN.out.trans (hb3.mono HBN.out.size))
        have hd3 : Below w3.heap.size w3 w3.drew := below_drewN (Below.refl _ _) 1
        have HD3 := Lib.hid (hb3'.out.trans (hd3.mono hb3'.out.size))
        have hx3 : w3.cell? ⟨w.heap.size, 1, none⟩ = some (.slice (some ⟨b, o, none⟩) l.length c) := (hb3.cell (p := ⟨w.heap.size, 1, none⟩) (Nat.lt_trans hs0 HV2.out)).trans hx2
        have hy3 : w3.cell? ⟨wr.heap.size, 1, none⟩ = some (.int .i64 y1) := (hb3.cell (p := ⟨wr.heap.size, 1, none⟩) HV2.out).trans (HW2.out.cell 1)
        have HSK3 := Lib.hid (fun (w' : World) (hb : Below w3.heap.size w3 w') => (show w'.cell? ⟨w.heap.size, 1, none⟩ = some (.slice (some ⟨b, o, none⟩) l.length c) ∧ w'.cell? ⟨wr.heap.size, 1, none⟩ = some (.int .i64 y1) from ⟨(hb.cell (lt_of_cell hx3)).trans hx3, (hb.cell (lt_of_cell hy3)).trans hy3⟩))
        clear hb3
        go_wp2_with fail
        by_cases hf : 0 ≤ duAt (l.take k) y1
        · have b6 : decide (0 ≤ duAt (l.take k) y1) = true := decide_eq_true hf
          have HE := Lib.hid (show R = 5 by rw [HN4.out, if_pos (by rw [← idxAt_any (isId y1) (l.take k) 0 (by omega)]; exact b6)])
          clear hf
          generalize duAt (l.take k) y1 = rr at *
          go_region_held3 (fun w' => w'.cell? ⟨w.heap.size, 1, none⟩ = some (.slice (some ⟨b, o, none⟩) l.length c) ∧ w'.cell? ⟨wr.heap.size, 1, none⟩ = some (.int .i64 y1))
            ((first | exact HSK3.out _ (hd3.trans (hb4.mono hd3.size)) | exact HSK3.out _ hd3 | exact HSK3.out _ (Below.refl _ _) | go_keep))
            ((first
              | (go_at_call 108; (with_reducible refine (HFD.out _ HD3.out).mono ?_); rintro e w4 ⟨rfl, hb4⟩)))
          all_goals
            go_wp2_with fail
            go_ret
            exact ⟨by rw [HE.out]; rfl, HZ.out _ (HD3.out.trans (hb4.mono HD3.out.size))⟩
        · have b6 : decide (0 ≤ duAt (l.take k) y1) = false := decide_eq_false hf
          have HE := Lib.hid (show R = tmGo now (l.take (k + 1)) (l.drop (k + 1)) by rw [HN4.out, if_neg (by rw [← idxAt_any (isId y1) (l.take k) 0 (by omega)]; show ¬ decide (0 ≤ duAt (l.take k) y1) = true; rw [b6]; decide)])
          clear hf
          generalize duAt (l.take k) y1 = rr at *
          go_region_held3 (fun w' => w'.cell? ⟨w.heap.size, 1, none⟩ = some (.slice (some ⟨b, o, none⟩) l.length c) ∧ w'.cell? ⟨wr.heap.size, 1, none⟩ = some (.int .i64 y1))
            ((first | exact HSK3.out _ (hd3.trans (hb4.mono hd3.size)) | exact HSK3.out _ hd3 | exact HSK3.out _ (Below.refl _ _) | go_keep))
            ((first
              | (go_at_call 108; (with_reducible refine (HFD.out _ HD3.out).mono ?_); rintro e w4 ⟨rfl, hb4⟩)))
          all_goals
            have HZ4 := Lib.hid (HD3.out.trans (hb4.mono HD3.out.size))
            clear hb4
            go_wp2_with fail
            go_roundg (l.length - (k + 1))
            case measure => have := HK.out; omega
            case rel => exact ⟨k + 1, rfl, by omega, by go_num, HE.out, HZ4.out⟩
      -- END
    · have HE := Lib.hid (show R = 0 by rw [HF.out, List.drop_eq_nil_of_le (by omega)]; rfl)
      go_wp2_with fail
      go_ret
      exact ⟨by rw [HE.out]; rfl, HB1.out.trans (HB.out.mono (Nat.le_of_lt HS.out))⟩
end Go.Proofs.Ytdjahlkjfpbifaa
