
/-
  Links: a number found in a row; what is wrong with rows (link.Check, the reference's LinksFault).
-/
import Derived.Test.YtgjimjpbogadjaaLkMk
import Derived.Deep.QuietTactic
import Derived.Deep.LoopGhost
import Derived.Deep.CutBlock
import Derived.Deep.DeepCutAuto
import Derived.BigQuiet
import Derived.Outline
namespace Go.Proofs.Ytgjimjpbogadjaa
open Go.RowKit

theorem contains_snoc (l : List Int) (k : Nat) (t : Int) (hk : k < l.length) (h : (l.take k).contains t = false) : (l.take (k + 1)).contains t = (t == l.getD k 0) := by
  rw [List.take_succ_eq_append_getElem hk, List.contains_append, h]
  simp only [List.getD_eq_getElem?_getD, List.getElem?_eq_getElem hk, Option.getD_some, List.contains_cons, List.contains_nil, Bool.or_false, Bool.false_or]
theorem ints_take (xs : List Int) (k : Nat) : (ints xs).take k = ints (xs.take k) := by simp [ints, List.map_take]

set_option maxRecDepth 100000 in
theorem index_any (A : Option Addr) (c B : Nat) (xs : List Int) (t : Int) (w : World) (hrow : Row w B A (ints xs)) (hbig : xs.length ≤ 17592186044416) :
    Calls Try.prog 115 #[.slice A xs.length c, .int .i64 t] w fun e w' => (∃ n : Int, e = .returned (.int .i64 n) ∧ decide (0 ≤ n) = xs.contains t) ∧ w = w' := by
  have HR := Lib.hid hrow
  clear hrow
  go_enter Try.func115, Try.ntmps115
  go_wp2_with fail
  go_loopg [8] xs.length (fun gk i wr => ∃ k : Nat, gk = xs.length - k ∧ k ≤ xs.length ∧ i = .int .i64 k ∧ (xs.take k).contains t = false ∧ w = wr)
  case atStart => exact ⟨0, by omega, by omega, rfl, rfl, rfl⟩
  case round =>
    obtain ⟨k, hgk, hk, rfl, hct, rfl⟩ := hrel
    have HK := Lib.hid hgk
    have HC := Lib.hid hct
    clear hgk hct
    by_cases hlt : k < xs.length
    · obtain ⟨b, o, hA, _, hc⟩ := HR.out.int hlt
      subst hA
      have HTC := Lib.hid (contains_snoc xs k t hlt HC.out)
      generalize xs.getD k 0 = u at *
      by_cases hu : t = u
      · have e2 : (t == u) = true := by simp [hu]
        have HEND := Lib.hid (show xs.contains t = true by
          have h1 := HTC.out
          rw [e2] at h1
          rw [List.contains_iff_mem] at h1 ⊢
          exact List.mem_of_mem_take h1)
        clear hu
        go_wp2_with fail
        go_ret
        exact ⟨⟨k, rfl, by rw [HEND.out]; exact decide_eq_true (by omega)⟩, rfl⟩
      · have e2 : (t == u) = false := by simp [hu]
        have HC2 := Lib.hid (HTC.out.trans e2)
        clear hu
        go_wp2_with fail
        go_roundg (xs.length - (k + 1))
        case measure => have := HK.out; omega
        case rel => exact ⟨k + 1, rfl, by omega, by go_num, HC2.out, rfl⟩
    · have HEND := Lib.hid (show xs.contains t = false by have := HC.out; rwa [List.take_of_length_le (by omega)] at this)
      go_wp2_with fail
      go_ret
      exact ⟨⟨-1, rfl, by rw [HEND.out]; rfl⟩, rfl⟩
theorem contains_any (A : Option Addr) (c B : Nat) (xs : List Int) (t : Int) (w : World) (hrow : Row w B A (ints xs)) (hbig : xs.length ≤ 17592186044416) :
    Calls Try.prog 94 #[.slice A xs.length c, .int .i64 t] w fun e w' => e = .returned (.bool (xs.contains t)) ∧ w = w' := by
  have HI := Lib.hid (index_any A c B xs t w hrow hbig)
  generalize xs.contains t = q at *
  clear hrow
  go_enter Try.func94, Try.ntmps94
  go_wp2_with fail
  refine HI.out.mono ?_
  rintro e w' ⟨⟨n, rfl, hn⟩, rfl⟩
  have HN := Lib.hid hn
  clear hn HI
  go_wp2_with fail
  go_ret
  exact ⟨by rw [← HN.out]; rfl, rfl⟩

theorem lkRow.row {w : World} {S : Nat → Prop} {n : Nat} {A : Option Addr} {c : Nat} {l : List LkC} {vs : List Lk} (h : lkRow w S n A c l vs) : Row w w.heap.size A (flat lkC l) := h.all.2.1

set_option maxRecDepth 100000 in
set_option maxHeartbeats 2000000 in
theorem lkcheck_any (A : Option Addr) (c : Nat) (l : List LkC) (vs : List Lk) (w : World) (hin : lkRow w (· < w.heap.size) 0 A c l vs) :
    Calls Try.prog 53 #[.slice A l.length c] w fun e w' => e = .returned (.int .i64 (lkF vs)) ∧ Below w.heap.size w w' := by
  have HIN := Lib.hid hin
  have hlv : l.length = vs.length := hin.1
  have HLV := Lib.hid hlv
  have hlm : l.length ≤ 2 ^ 63 - 1 := Nat.le_trans hin.2.2.2.1 hin.2.2.2.2.1
  have hlF : lkF vs = if 100 < vs.length then 2 else lkGo none vs := rfl
  rw [← hlv] at hlF
  generalize lkF vs = R at *
  have HL := Lib.hid hlF
  clear hin hlF hlv
  by_cases h1 : 100 < l.length
  · have d1 : decide ((100 : Int) < (l.length : Int)) = true := decide_eq_true (by omega)
    have d1' : decide (100 < l.length) = true := decide_eq_true h1
    have HE := Lib.hid (show R = 2 by rw [HL.out, if_pos h1])
    clear h1
    go_enter Try.func53, Try.ntmps53
    go_wp2_with fail
    go_ret
    exact ⟨by rw [HE.out]; rfl, Below.refl _ _⟩
  have d1 : decide ((100 : Int) < (l.length : Int)) = false := decide_eq_false (by omega)
  have d1' : decide (100 < l.length) = false := decide_eq_false h1
  have HRR := Lib.hid (show R = lkGo none vs by rw [HL.out, if_neg h1])
  have hl1 : l.length ≤ 100 := by omega
  clear h1 hlm
  go_enter Try.func53, Try.ntmps53
  go_wp2_with fail
  clear d1 d1'
  go_loopg [12] l.length (fun gk i wr => ∃ k : Nat, gk = l.length - k ∧ k ≤ l.length ∧ i = .int .i64 k ∧ Hid (R = lkGo (if 0 < k then some (vs.getD (k - 1) lk0).ref else none) (vs.drop k)) ∧ Below w.heap.size w wr)
  case atStart => exact ⟨0, by omega, by omega, rfl, HRR.out, Below.refl _ _⟩
  case round =>
    obtain ⟨k, hgk, hk, rfl, HF, hb⟩ := hrel
    have HK := Lib.hid hgk
    have HB := Lib.hid hb
    have hbs := hb.size
    clear hgk hb HRR HL
    by_cases hlt : k < l.length
    · have hro := Lib.hid (HIN.out.below HB.out (fun _ h => h))
      obtain ⟨b, o, rfl, hbl, c0, c1, c2⟩ := hro.out.row.lk hlt lkc0
      obtain ⟨e0, i1, i2⟩ := hro.out.2.2.1 k hlt
      have HD := Lib.hid (lkGo_drop (if 0 < k then some (vs.getD (k - 1) lk0).ref else none) vs (show k < vs.length by have := HLV.out; omega))
      have HNX := Lib.hid (show (if 0 < k + 1 then some (vs.getD (k + 1 - 1) lk0).ref else none) = some (vs.getD k lk0).ref by rw [if_pos (by omega)]; rfl)
      have HPV : Hid (0 < k → wr.cell? ⟨b, o + (k - 1) * 3, none⟩ = some (.int .i64 (vs.getD (k - 1) lk0).ref)) := fun h0 => by
        obtain ⟨b', o', e', _, q0, _⟩ := hro.out.row.lk (show k - 1 < l.length by omega) lkc0
        injection e' with e'
        injection e' with e1 e2
        subst e1 e2
        rw [(hro.out.2.2.1 (k - 1) (by omega)).1] at q0
        exact q0
      generalize l.getD k lkc0 = z at *
      generalize vs.getD k lk0 = y at *
      generalize (vs.getD (k - 1) lk0).ref = pv at *
      obtain ⟨y0, ws, ls⟩ := y
      obtain ⟨z0, ⟨WA, wl, wc⟩, ⟨LA, ll, lc⟩⟩ := z
      dsimp only at c0 c1 c2 e0 i1 i2
      subst e0
      have HI1 := Lib.hid i1
      have hel := i2.row
      have HEL := Lib.hid hel
      have hcap := i2.2.2.1
      have hlb := i2.2.2.2.2.2.2
      have q1 : wl = ws.length := i1.1
      have q2 : ll = ls.length := i2.1
      dsimp only at hcap q2 hel
      have hlm2 : ls.length ≤ 2 ^ 63 - 1 := by omega
      have hwb := i1.2.2.2.2.2.2
      subst q1 q2
      clear i1 i2 HI1 hel
      obtain ⟨s1, s2⟩ := lk_step (show R = if lkOne (if 0 < k then some pv else none) ⟨z0, ws, ls⟩ ≠ 0 then lkOne (if 0 < k then some pv else none) ⟨z0, ws, ls⟩ else lkGo (some z0) (vs.drop (k + 1)) by rw [HF.out, HD.out])
      dsimp only at s1 s2
      have S1 := Lib.hid s1
      have S2 := Lib.hid s2
      have HBN := Lib.hid (HB.out.alloc hbs (.cells #[.int .i64 z0, .slice WA ws.length wc, .slice LA ls.length lc] 114))
      clear HF HD s1 s2
      by_cases u0 : z0 < 1
      · have b0 : decide (z0 < 1) = true := decide_eq_true u0
        have HE := Lib.hid (show R = 1 from S1.out (.inl u0))
        clear u0 S1 S2 HPV HNX
        go_wp2_with fail
        go_ret
        exact ⟨by rw [HE.out]; rfl, HBN.out⟩
      have b0 : decide (z0 < 1) = false := decide_eq_false u0
      by_cases u1 : 100 < ws.length
      · have b1 : decide (100 < ws.length) = true := decide_eq_true u1
        have b1' : decide ((100 : Int) < (ws.length : Int)) = true := decide_eq_true (by omega)
        have HE := Lib.hid (show R = 1 from S1.out (.inr (.inl u1)))
        clear u1 S1 S2 HPV HNX
        go_wp2_with fail
        go_ret
        exact ⟨by rw [HE.out]; rfl, HBN.out⟩
      have b1 : decide (100 < ws.length) = false := decide_eq_false u1
      have b1' : decide ((100 : Int) < (ws.length : Int)) = false := decide_eq_false (by omega)
      by_cases u2 : 100 < ls.length
      · have b2 : decide (100 < ls.length) = true := decide_eq_true u2
        have b2' : decide ((100 : Int) < (ls.length : Int)) = true := decide_eq_true (by omega)
        have HE := Lib.hid (show R = 1 from S1.out (.inr (.inr u2)))
        clear u2 S1 S2 HPV HNX
        go_wp2_with fail
        go_ret
        exact ⟨by rw [HE.out]; rfl, HBN.out⟩
      have b2 : decide (100 < ls.length) = false := decide_eq_false u2
      have b2' : decide ((100 : Int) < (ls.length : Int)) = false := decide_eq_false (by omega)
      have S3 := Lib.hid (S2.out (by rintro (h | h | h); exact u0 h; exact u1 h; exact u2 h))
      clear S1 S2 u0
      go_upto_region 8 with fail
      obtain ⟨g, hg⟩ : ∃ g, wr.heap.size = g := ⟨_, rfl⟩
      have HBX := Lib.hid (Box.new wr 114 #[.int .i64 z0, .slice WA ws.length wc, .slice LA ls.length lc])
      have HEL2 := Lib.hid (HEL.out.below ((Below.refl wr.heap.size wr).alloc (Nat.le_refl _) (.cells #[.int .i64 z0, .slice WA ws.length wc, .slice LA ls.length lc] 114)))
      have HPV2 : Hid (0 < k → (wr.alloc (.cells #[.int .i64 z0, .slice WA ws.length wc, .slice LA ls.length lc] 114)).cell? ⟨b, o + (k - 1) * 3, none⟩ = some (.int .i64 pv)) := fun h => by
        have hd0 := HPV.out h
        rw [World.cell?_alloc_lt _ _ _ (lt_of_cell hd0)]; exact hd0
      rw [hg] at HBX ⊢
      clear c0 c1 c2 HPV
      generalize wr.alloc (.cells #[.int .i64 z0, .slice WA ws.length wc, .slice LA ls.length lc] 114) = w2 at *
      have x0 := HBX.out.cell 0
      have x2 := HBX.out.cell 2
      simp only [List.getElem?_toArray, List.getElem?_cons_zero, List.getElem?_cons_succ] at x0 x2
      obtain ⟨q, hq⟩ : ∃ q : Bool, (if 0 < k then some pv else none).any (fun q => decide (z0 ≤ q)) = q := ⟨_, rfl⟩
      rw [hq] at S3
      have HQ := Lib.hid hq
      clear hq
      go_cut [33] from 33 to 46 (fun v wx => v = .bool q ∧ ∃ m, w2.drewN m = wx)
      case first =>
        by_cases hk0 : 0 < k
        · have dk : decide ((0 : Int) < (k : Int)) = true := by simp; omega
          have dk' : decide (0 < k) = true := by simp; omega
          have hsub : (k : Int) - 1 = ((k - 1 : Nat) : Int) := by omega
          have hkl : ((k - 1 : Nat) : Int) < (l.length : Int) := by omega
          have hkl0 : k - 1 < l.length := by omega
          have hd1 := HPV2.out hk0
          have hqq := HQ.out
          rw [if_pos hk0] at hqq
          have dp : decide (z0 ≤ pv) = q := hqq
          clear hqq HPV2 HQ
          go_quiet (fail)
          go_wp2_with fail
          go_meet
          exact ⟨rfl, _, rfl⟩
        · have dk : decide ((0 : Int) < (k : Int)) = false := by simp; omega
          have dk' : decide (0 < k) = false := by simp; omega
          have hqq := HQ.out
          rw [if_neg hk0] at hqq
          obtain rfl : q = false := hqq.symm
          clear hqq hk0 HQ HPV2
          go_quiet (fail)
          go_wp2_with fail
          go_meet
          exact ⟨rfl, _, rfl⟩
      case rest =>
      obtain ⟨rfl, m, rfl⟩ := hcut
      cases q
      case true =>
        have HE := Lib.hid (show R = 21 from S3.out.1 rfl)
        clear S3
        go_wp2_with fail
        go_ret
        exact ⟨by rw [HE.out]; rfl, below_drewN HBN.out _⟩
      have S4 := Lib.hid (S3.out.2 rfl)
      have HBM := Lib.hid (below_drewN HBN.out m)
      have HEL3 := Lib.hid (show Row (w2.drewN m) _ LA (ints ls) from HEL2.out)
      have x2' : (w2.drewN m).cell? ⟨g, 2, none⟩ = some (.slice LA ls.length lc) := x2
      clear S3 x0 x2 HBX HQ HPV2 HEL HEL2 HBN
      generalize w2.drewN m = w3 at *
      obtain ⟨wo, hwo⟩ : ∃ wo, wo = wr := ⟨_, rfl⟩
      subst hwo
      go_wp2_with fail
      go_loopg [50] ls.length (fun gk i wx => ∃ j : Nat, gk = ls.length - j ∧ j ≤ ls.length ∧ i = .int .i64 j ∧ Hid (dupGo [] ls = dupGo (ls.take j) (ls.drop j)) ∧ w3 = wx)
      case atStart => exact ⟨0, by omega, by omega, rfl, Lib.hid rfl, rfl⟩
      case round =>
        obtain ⟨j, hgj, hj, rfl, HDU, rfl⟩ := hrel
        have HJ := Lib.hid hgj
        clear hgj
        by_cases hjl : j < ls.length
        · have HDJ := Lib.hid (HDU.out.trans (dupGo_drop ls hjl))
          obtain ⟨lb, lo, rfl, _, hcj⟩ := HEL3.out.int hjl
          have hjc : j ≤ lc := by omega
          have hjc1 : (j : Int) ≤ (lc : Int) := by omega
          have htl : (ls.take j).length = j := by rw [List.length_take]; omega
          have hcn := contains_any (some ⟨lb, lo, none⟩) lc _ (ls.take j) (ls.getD j 0) w3 (by rw [← ints_take]; exact HEL3.out.take j) (by rw [htl]; omega)
          rw [htl] at hcn
          have HCN := Lib.hid hcn
          generalize (ls.take j).contains (ls.getD j 0) = q at *
          generalize ls.getD j 0 = u at *
          clear hcn htl
          go_wp2_with fail
          refine HCN.out.mono ?_
          rintro e w' ⟨rfl, rfl⟩
          cases q
          · have HD2 : Hid (dupGo [] ls = dupGo (ls.take (j + 1)) (ls.drop (j + 1))) := HDJ.out
            clear HCN HDJ
            go_wp2_with fail
            go_roundg (ls.length - (j + 1))
            case measure => have := HJ.out; omega
            case rel => exact ⟨j + 1, rfl, by omega, by go_num, HD2, rfl⟩
          · have HE := Lib.hid (show R = 5 from S4.out.1 HDJ.out)
            clear HCN HDJ
            go_wp2_with fail
            go_ret
            exact ⟨by rw [HE.out]; rfl, HBM.out⟩
        · have HDF := Lib.hid (show dupGo [] ls = false by rw [HDU.out, List.drop_eq_nil_of_le (by omega)]; rfl)
          have HE : Hid (R = lkGo (if 0 < k + 1 then some (vs.getD (k + 1 - 1) lk0).ref else none) (vs.drop (k + 1))) := by show R = _; rw [S4.out.2 HDF.out, HNX.out]
          go_wp2_with fail
          go_roundg (l.length - (k + 1))
          case measure => have := HK.out; omega
          case rel => exact ⟨k + 1, rfl, by omega, by go_num, HE, HBM.out⟩
    · have HE := Lib.hid (show R = 0 by rw [HF.out, List.drop_eq_nil_of_le (by have := HLV.out; omega)]; rfl)
      go_wp2_with fail
      go_ret
      exact ⟨by rw [HE.out]; rfl, HB.out⟩

set_option maxRecDepth 100000 in
set_option maxHeartbeats 2000000 in
theorem lkfault_any (A : Option Addr) (c : Nat) (l : List LkC) (vs : List Lk) (w : World) (hin : lkRow w (· < w.heap.size) 0 A c l vs) :
    Calls Try.prog 52 #[.slice A l.length c] w fun e w' => e = .returned (.int .i64 (lkF vs)) ∧ Below w.heap.size w w' := by
  have HIN := Lib.hid hin
  have hlv : l.length = vs.length := hin.1
  have HLV := Lib.hid hlv
  have hlm : l.length ≤ 2 ^ 63 - 1 := Nat.le_trans hin.2.2.2.1 hin.2.2.2.2.1
  have hlF : lkF vs = if 100 < vs.length then 2 else lkGo none vs := rfl
  rw [← hlv] at hlF
  generalize lkF vs = R at *
  have HL := Lib.hid hlF
  clear hin hlF hlv
  by_cases h1 : 100 < l.length
  · have d1 : decide ((100 : Int) < (l.length : Int)) = true := decide_eq_true (by omega)
    have d1' : decide (100 < l.length) = true := decide_eq_true h1
    have HE := Lib.hid (show R = 2 by rw [HL.out, if_pos h1])
    clear h1
    go_enter Try.func52, Try.ntmps52
    go_wp2_with fail
    go_ret
    exact ⟨by rw [HE.out]; rfl, Below.refl _ _⟩
  have d1 : decide ((100 : Int) < (l.length : Int)) = false := decide_eq_false (by omega)
  have d1' : decide (100 < l.length) = false := decide_eq_false h1
  have HRR := Lib.hid (show R = lkGo none vs by rw [HL.out, if_neg h1])
  have hl1 : l.length ≤ 100 := by omega
  clear h1 hlm
  go_enter Try.func52, Try.ntmps52
  go_wp2_with fail
  clear d1 d1'
  go_loopg [14] l.length (fun gk i wr => ∃ k : Nat, gk = l.length - k ∧ k ≤ l.length ∧ i = .int .i64 k ∧ Hid (R = lkGo (if 0 < k then some (vs.getD (k - 1) lk0).ref else none) (vs.drop k)) ∧ Below w.heap.size w wr)
  case atStart => exact ⟨0, by omega, by omega, rfl, HRR.out, Below.refl _ _⟩
  case round =>
    obtain ⟨k, hgk, hk, rfl, HF, hb⟩ := hrel
    have HK := Lib.hid hgk
    have HB := Lib.hid hb
    have hbs := hb.size
    clear hgk hb HRR HL
    by_cases hlt : k < l.length
    · have hro := Lib.hid (HIN.out.below HB.out (fun _ h => h))
      obtain ⟨b, o, rfl, hbl, c0, c1, c2⟩ := hro.out.row.lk hlt lkc0
      obtain ⟨e0, i1, i2⟩ := hro.out.2.2.1 k hlt
      have HD := Lib.hid (lkGo_drop (if 0 < k then some (vs.getD (k - 1) lk0).ref else none) vs (show k < vs.length by have := HLV.out; omega))
      have HNX := Lib.hid (show (if 0 < k + 1 then some (vs.getD (k + 1 - 1) lk0).ref else none) = some (vs.getD k lk0).ref by rw [if_pos (by omega)]; rfl)
      have HPV : Hid (0 < k → wr.cell? ⟨b, o + (k - 1) * 3, none⟩ = some (.int .i64 (vs.getD (k - 1) lk0).ref)) := fun h0 => by
        obtain ⟨b', o', e', _, q0, _⟩ := hro.out.row.lk (show k - 1 < l.length by omega) lkc0
        injection e' with e'
        injection e' with e1 e2
        subst e1 e2
        rw [(hro.out.2.2.1 (k - 1) (by omega)).1] at q0
        exact q0
      generalize l.getD k lkc0 = z at *
      generalize vs.getD k lk0 = y at *
      generalize (vs.getD (k - 1) lk0).ref = pv at *
      obtain ⟨y0, ws, ls⟩ := y
      obtain ⟨z0, ⟨WA, wl, wc⟩, ⟨LA, ll, lc⟩⟩ := z
      dsimp only at c0 c1 c2 e0 i1 i2
      subst e0
      have HI1 := Lib.hid i1
      have hel := i2.row
      have HEL := Lib.hid hel
      have hcap := i2.2.2.1
      have hlb := i2.2.2.2.2.2.2
      have q1 : wl = ws.length := i1.1
      have q2 : ll = ls.length := i2.1
      dsimp only at hcap q2 hel
      have hlm2 : ls.length ≤ 2 ^ 63 - 1 := by omega
      have hwb := i1.2.2.2.2.2.2
      subst q1 q2
      clear i1 i2 HI1 hel
      obtain ⟨s1, s2⟩ := lk_step (show R = if lkOne (if 0 < k then some pv else none) ⟨z0, ws, ls⟩ ≠ 0 then lkOne (if 0 < k then some pv else none) ⟨z0, ws, ls⟩ else lkGo (some z0) (vs.drop (k + 1)) by rw [HF.out, HD.out])
      dsimp only at s1 s2
      have S1 := Lib.hid s1
      have S2 := Lib.hid s2
      have HBN := Lib.hid (HB.out.alloc hbs (.cells #[.int .i64 z0, .slice WA ws.length wc, .slice LA ls.length lc] 114))
      clear HF HD s1 s2
      by_cases u0 : z0 < 1
      · have b0 : decide (z0 < 1) = true := decide_eq_true u0
        have HE := Lib.hid (show R = 1 from S1.out (.inl u0))
        clear u0 S1 S2 HPV HNX
        go_wp2_with fail
        go_ret
        exact ⟨by rw [HE.out]; rfl, HBN.out⟩
      have b0 : decide (z0 < 1) = false := decide_eq_false u0
      by_cases u1 : 100 < ws.length
      · have b1 : decide (100 < ws.length) = true := decide_eq_true u1
        have b1' : decide ((100 : Int) < (ws.length : Int)) = true := decide_eq_true (by omega)
        have HE := Lib.hid (show R = 1 from S1.out (.inr (.inl u1)))
        clear u1 S1 S2 HPV HNX
        go_wp2_with fail
        go_ret
        exact ⟨by rw [HE.out]; rfl, HBN.out⟩
      have b1 : decide (100 < ws.length) = false := decide_eq_false u1
      have b1' : decide ((100 : Int) < (ws.length : Int)) = false := decide_eq_false (by omega)
      by_cases u2 : 100 < ls.length
      · have b2 : decide (100 < ls.length) = true := decide_eq_true u2
        have b2' : decide ((100 : Int) < (ls.length : Int)) = true := decide_eq_true (by omega)
        have HE := Lib.hid (show R = 1 from S1.out (.inr (.inr u2)))
        clear u2 S1 S2 HPV HNX
        go_wp2_with fail
        go_ret
        exact ⟨by rw [HE.out]; rfl, HBN.out⟩
      have b2 : decide (100 < ls.length) = false := decide_eq_false u2
      have b2' : decide ((100 : Int) < (ls.length : Int)) = false := decide_eq_false (by omega)
      have S3 := Lib.hid (S2.out (by rintro (h | h | h); exact u0 h; exact u1 h; exact u2 h))
      clear S1 S2 u0
      go_upto_region 8 with fail
      obtain ⟨g, hg⟩ : ∃ g, wr.heap.size = g := ⟨_, rfl⟩
      have HBX := Lib.hid (Box.new wr 114 #[.int .i64 z0, .slice WA ws.length wc, .slice LA ls.length lc])
      have HEL2 := Lib.hid (HEL.out.below ((Below.refl wr.heap.size wr).alloc (Nat.le_refl _) (.cells #[.int .i64 z0, .slice WA ws.length wc, .slice LA ls.length lc] 114)))
      have HPV2 : Hid (0 < k → (wr.alloc (.cells #[.int .i64 z0, .slice WA ws.length wc, .slice LA ls.length lc] 114)).cell? ⟨b, o + (k - 1) * 3, none⟩ = some (.int .i64 pv)) := fun h => by
        have hd0 := HPV.out h
        rw [World.cell?_alloc_lt _ _ _ (lt_of_cell hd0)]; exact hd0
      rw [hg] at HBX ⊢
      clear c0 c1 c2 HPV
      generalize wr.alloc (.cells #[.int .i64 z0, .slice WA ws.length wc, .slice LA ls.length lc] 114) = w2 at *
      have x0 := HBX.out.cell 0
      have x2 := HBX.out.cell 2
      simp only [List.getElem?_toArray, List.getElem?_cons_zero, List.getElem?_cons_succ] at x0 x2
      obtain ⟨q, hq⟩ : ∃ q : Bool, (if 0 < k then some pv else none).any (fun q => decide (z0 ≤ q)) = q := ⟨_, rfl⟩
      rw [hq] at S3
      have HQ := Lib.hid hq
      clear hq
      go_cut [46] from 34 to 46 (fun v wx => v = .bool q ∧ ∃ m, w2.drewN m = wx)
      case first =>
        by_cases hk0 : 0 < k
        · have dk : decide ((0 : Int) < (k : Int)) = true := by simp; omega
          have dk' : decide (0 < k) = true := by simp; omega
          have hsub : (k : Int) - 1 = ((k - 1 : Nat) : Int) := by omega
          have hkl : ((k - 1 : Nat) : Int) < (l.length : Int) := by omega
          have hkl0 : k - 1 < l.length := by omega
          have hd1 := HPV2.out hk0
          have hqq := HQ.out
          rw [if_pos hk0] at hqq
          have dp : decide (z0 ≤ pv) = q := hqq
          clear hqq HPV2 HQ
          go_quiet (fail)
          go_wp2_with fail
          go_meet
          exact ⟨rfl, _, rfl⟩
        · have dk : decide ((0 : Int) < (k : Int)) = false := by simp; omega
          have dk' : decide (0 < k) = false := by simp; omega
          have hqq := HQ.out
          rw [if_neg hk0] at hqq
          obtain rfl : q = false := hqq.symm
          clear hqq hk0 HQ HPV2
          go_quiet (fail)
          go_wp2_with fail
          go_meet
          exact ⟨rfl, _, rfl⟩
      case rest =>
      obtain ⟨rfl, m, rfl⟩ := hcut
      cases q
      case true =>
        have HE := Lib.hid (show R = 21 from S3.out.1 rfl)
        clear S3
        go_wp2_with fail
        go_ret
        exact ⟨by rw [HE.out]; rfl, below_drewN HBN.out _⟩
      have S4 := Lib.hid (S3.out.2 rfl)
      have HBM := Lib.hid (below_drewN HBN.out m)
      have HEL3 := Lib.hid (show Row (w2.drewN m) _ LA (ints ls) from HEL2.out)
      have x2' : (w2.drewN m).cell? ⟨g, 2, none⟩ = some (.slice LA ls.length lc) := x2
      clear S3 x0 x2 HBX HQ HPV2 HEL HEL2 HBN
      generalize w2.drewN m = w3 at *
      obtain ⟨wo, hwo⟩ : ∃ wo, wo = wr := ⟨_, rfl⟩
      subst hwo
      go_wp2_with fail
      go_loopg [50] ls.length (fun gk i wx => ∃ j : Nat, gk = ls.length - j ∧ j ≤ ls.length ∧ i = .int .i64 j ∧ Hid (dupGo [] ls = dupGo (ls.take j) (ls.drop j)) ∧ w3 = wx)
      case atStart => exact ⟨0, by omega, by omega, rfl, Lib.hid rfl, rfl⟩
      case round =>
        obtain ⟨j, hgj, hj, rfl, HDU, rfl⟩ := hrel
        have HJ := Lib.hid hgj
        clear hgj
        by_cases hjl : j < ls.length
        · have HDJ := Lib.hid (HDU.out.trans (dupGo_drop ls hjl))
          obtain ⟨lb, lo, rfl, _, hcj⟩ := HEL3.out.int hjl
          have hjc : j ≤ lc := by omega
          have hjc1 : (j : Int) ≤ (lc : Int) := by omega
          have htl : (ls.take j).length = j := by rw [List.length_take]; omega
          have HTL := Lib.hid htl
          generalize ls.getD j 0 = u at *
          clear htl
          go_wp2_with fail
          go_loopg [60] j (fun gp i wx => ∃ p : Nat, gp = j - p ∧ p ≤ j ∧ i = .int .i64 p ∧ Hid (((ls.take j).take p).contains u = false) ∧ w3 = wx)
          case atStart => exact ⟨0, by omega, by omega, rfl, Lib.hid rfl, rfl⟩
          case round =>
            obtain ⟨p, hgp, hp, rfl, HCT, rfl⟩ := hrel
            have HP := Lib.hid hgp
            clear hgp
            by_cases hpj : p < j
            · obtain ⟨lb', lo', hb', _, hcp⟩ := HEL3.out.int (show p < ls.length by omega)
              injection hb' with hb'
              injection hb' with hb1 hb2
              subst hb1 hb2
              have HTC := Lib.hid (contains_snoc (ls.take j) p u (by rw [HTL.out]; exact hpj) HCT.out)
              have hgd : (ls.take j).getD p 0 = ls.getD p 0 := by simp [List.getD_eq_getElem?_getD, hpj]
              rw [hgd] at HTC
              clear hgd
              generalize ls.getD p 0 = v at *
              by_cases hu : u = v
              · have e2 : (u == v) = true := by simp [hu]
                have HCN : Hid ((ls.take j).contains u = true) := by
                  show (ls.take j).contains u = true
                  have h1 := HTC.out
                  rw [e2] at h1
                  rw [List.contains_iff_mem] at h1 ⊢
                  exact List.mem_of_mem_take h1
                have HE := Lib.hid (show R = 5 from S4.out.1 (by rw [HDJ.out, if_pos HCN.out]))
                clear hu HTC HCN
                go_wp2_with fail
                go_ret
                exact ⟨by rw [HE.out]; rfl, HBM.out⟩
              · have e2 : (u == v) = false := by simp [hu]
                have HC2 := Lib.hid (HTC.out.trans e2)
                clear hu HTC
                go_wp2_with fail
                go_roundg (j - (p + 1))
                case measure => have := HP.out; omega
                case rel => exact ⟨p + 1, rfl, by omega, by go_num, HC2, rfl⟩
            · have HCN := Lib.hid (show (ls.take j).contains u = false by have := HCT.out; rwa [List.take_of_length_le (by rw [HTL.out]; omega)] at this)
              have HD2 : Hid (dupGo [] ls = dupGo (ls.take (j + 1)) (ls.drop (j + 1))) := HDJ.out.trans (by rw [HCN.out]; rfl)
              clear HCN HDJ
              go_wp2_with fail
              go_roundg (ls.length - (j + 1))
              case measure => have := HJ.out; omega
              case rel => exact ⟨j + 1, rfl, by omega, by go_num, HD2, rfl⟩
        · have HDF := Lib.hid (show dupGo [] ls = false by rw [HDU.out, List.drop_eq_nil_of_le (by omega)]; rfl)
          have HE : Hid (R = lkGo (if 0 < k + 1 then some (vs.getD (k + 1 - 1) lk0).ref else none) (vs.drop (k + 1))) := by show R = _; rw [S4.out.2 HDF.out, HNX.out]
          go_wp2_with fail
          go_roundg (l.length - (k + 1))
          case measure => have := HK.out; omega
          case rel => exact ⟨k + 1, rfl, by omega, by go_num, HE, HBM.out⟩
    · have HE := Lib.hid (show R = 0 by rw [HF.out, List.drop_eq_nil_of_le (by have := HLV.out; omega)]; rfl)
      go_wp2_with fail
      go_ret
      exact ⟨by rw [HE.out]; rfl, HB.out⟩
end Go.Proofs.Ytgjimjpbogadjaa
