
/-
  cache.Look.
-/
import Derived.Test.YtdjahlkjfpbifaaCa2
namespace Go.Proofs.Ytdjahlkjfpbifaa
open Go.RowKit Go.Maps Go.WideMaps

theorem zero_ways (w : World) : (zeroValue 75).run Try.prog w = .ok (.slice none 0 0) w := by kernel_rfl
theorem Rows1.look {w : World} {base gm n : Nat} {R : K2 → Option (Option Addr × Nat)} {T : K2 → List Wa} (h : Rows1 w base 176 gm n R T) {a b : Int} (ha : I64 a) (hb : I64 b) :
    (Instr.lookup 172 (.map (some gm)) (.agg #[.int .i64 a, .int .i64 b]) false).run Try.prog w = .ok (.slice (rowA R (k2 a b ha hb)).1 (T (k2 a b ha hb)).length (rowA R (k2 a b ha hb)).2) w := by
  rw [h.map.look sites_keyed Try.underlying172 (zero_ways w) (site_key ha hb), h.val]
theorem Rows1.look2 {w : World} {base gm n : Nat} {R : K2 → Option (Option Addr × Nat)} {T : K2 → List Wa} (h : Rows1 w base 70 gm n R T) {a b : Int} (ha : I64 a) (hb : I64 b) :
    (Instr.lookup 67 (.map (some gm)) (.agg #[.int .i64 a, .int .i64 b]) false).run Try.prog w = .ok (.slice (rowA R (k2 a b ha hb)).1 (T (k2 a b ha hb)).length (rowA R (k2 a b ha hb)).2) w := by
  rw [h.map.look pairs_keyed Try.underlying67 (zero_ways w) (pair_key ha hb), h.val]
theorem below_drewC {B : Nat} {w w' : World} (h : Below B w w') : Below B w w'.drew := ⟨h.os, h.tape, h.output, h.size, h.block⟩
theorem upd_same (T : K2 → List Wa) (x : K2) : updR T x (T x) = T := by
  funext y
  unfold updR
  by_cases h : y = x
  · rw [if_pos h, h]
  · rw [if_neg h]

/-- What Look answers, and what it leaves. -/
def LookPost (w : World) (base gk gm n : Nat) (AI : Option Addr) (cI : Nat) (ims : List Im) (R : K2 → Option (Option Addr × Nat)) (T : K2 → List Wa) (hits misses : Int) (x : K2) (nm tg : ByteArray) (e : Ending) (w' : World) : Prop :=
  ∃ R', e = .returned (.tuple #[.int .i64 (lookR ims (T x) nm tg).1, .int .i64 (lookR ims (T x) nm tg).2]) ∧
    CaSt w' base gk gm (n + 1) AI cI ims R' (updR T x (lookL ims (T x) nm tg)) (if isHit (T x) tg then hits + 1 else hits) (if isHit (T x) tg then misses else misses + 1) ∧
    Only (fun b => b = gk ∨ b = gm ∨ RBlk R b) w w' ∧ ∀ b, RBlk R' b → RBlk R b ∨ w.heap.size ≤ b

set_option maxRecDepth 100000 in
set_option maxHeartbeats 4000000 in
theorem look_any (base gk gm n : Nat) (AI : Option Addr) (cI : Nat) (ims : List Im) (R : K2 → Option (Option Addr × Nat)) (T : K2 → List Wa) (hits misses : Int) (a b : Int) (ha : I64 a) (hb : I64 b) (nm tg : ByteArray) (w : World)
    (h : CaSt w base gk gm n AI cI ims R T hits misses) (hbase : base ≤ w.heap.size) (hn : n < 1000) (him : ims.length ≤ maxLen) (hT4 : ∀ x, (T x).length ≤ 4) (hh1 : 0 ≤ hits) (hh2 : hits ≤ 1000) (hh3 : 0 ≤ misses) (hh4 : misses ≤ 1000) :
    Calls Try.prog 30 #[.pointer (some ⟨gk, 0, none⟩), .int .i64 a, .int .i64 b, .string nm, .string tg] w (LookPost w base gk gm n AI cI ims R T hits misses (k2 a b ha hb) nm tg) := by
  obtain ⟨x, hx⟩ : ∃ x, k2 a b ha hb = x := ⟨_, rfl⟩
  have hlk := fun w' (hr : Rows1 w' base 176 gm n R T) => hr.look ha hb
  have HKEY := Lib.hid (site_key ha hb)
  rw [hx] at hlk HKEY ⊢
  have HLK := Lib.hid hlk
  clear hx hlk
  obtain ⟨L, hL⟩ : ∃ L, T x = L := ⟨_, rfl⟩
  have hL4 : L.length ≤ 4 := by rw [← hL]; exact hT4 x
  have HTX := Lib.hid hL
  have HST := Lib.hid h
  have hgk := h.box.lt
  have hgm := h.rows.map.lt
  clear h
  unfold LookPost
  rw [hL] at HLK ⊢
  obtain ⟨rr, hrr⟩ : ∃ rr, lookR ims L nm tg = rr := ⟨_, rfl⟩
  obtain ⟨L', hL'⟩ : ∃ L', lookL ims L nm tg = L' := ⟨_, rfl⟩
  obtain ⟨hit, hhit⟩ : ∃ hit, isHit L tg = hit := ⟨_, rfl⟩
  rw [hrr, hL', hhit]
  have HRR := Lib.hid hrr
  have HLL := Lib.hid hL'
  have HHIT := Lib.hid hhit
  clear hrr hL' hhit hL
  go_enter Try.func30, Try.ntmps30
  go_upto_region 2 with fail
  have hb1 : Below w.heap.size w ((w.alloc (.cells #[.string tg] 9)).alloc (.cells #[.int .i64 a, .int .i64 b] 176)) := ((Below.refl _ _).alloc (Nat.le_refl _) _).alloc (by simp) _
  have hx9 := (Box.new w 9 #[.string tg]).alloc (.cells #[.int .i64 a, .int .i64 b] 176)
  have hx12 := Box.new (w.alloc (.cells #[.string tg] 9)) 176 #[.int .i64 a, .int .i64 b]
  rw [show (w.alloc (.cells #[.string tg] 9)).heap.size = w.heap.size + 1 by simp] at hx12
  have HST1 := Lib.hid (HST.out.below hb1)
  have hsz1 : ((w.alloc (.cells #[.string tg] 9)).alloc (.cells #[.int .i64 a, .int .i64 b] 176)).heap.size = w.heap.size + 2 := by simp
  have HB1 := Lib.hid hb1
  clear hb1
  generalize (w.alloc (.cells #[.string tg] 9)).alloc (.cells #[.int .i64 a, .int .i64 b] 176) = w1 at *
  have HSZ1 := Lib.hid hsz1
  clear hsz1
  have HX9 := Lib.hid hx9
  have HX12 := Lib.hid hx12
  have c0 : w1.cell? ⟨w.heap.size + 1, 0, none⟩ = some (.int .i64 a) := hx12.cell 0
  have c1 : w1.cell? ⟨w.heap.size + 1, 1, none⟩ = some (.int .i64 b) := hx12.cell 1
  have k1 : w1.cell? ⟨gk, 1, none⟩ = some (.map (some gm)) := HST1.out.box.cell 1
  have hl1 := HLK.out w1 HST1.out.rows
  have hl2 := HLK.out w1.drew (HST1.out.rows.below (below_drewC (Below.refl _ _)))
  clear hx9 hx12
  obtain ⟨⟨Ar, cr⟩, har⟩ : ∃ p, rowA R x = p := ⟨_, rfl⟩
  rw [har] at hl1 hl2
  have HAR := Lib.hid har
  clear har
  dsimp only at hl1 hl2
  go_cut [13] from 21 to 26 (fun v wx => v = .slice Ar L.length cr ∧ Below w1.heap.size w1 wx)
  case first =>
    go_region_law (fail)
    all_goals (
      go_wp2_with fail
      go_meet
      exact ⟨rfl, below_drewC (Below.refl _ _)⟩)
  case rest =>
  obtain ⟨rfl, hbc⟩ := hcut
  obtain ⟨w2, hw2⟩ : ∃ w2, w2 = wc := ⟨_, rfl⟩
  subst hw2
  have HST2 := Lib.hid (HST1.out.below hbc)
  have HX92 := Lib.hid (HX9.out.below hbc HX9.out.lt)
  have HX122 := Lib.hid (HX12.out.below hbc HX12.out.lt)
  have HB2 := Lib.hid (HB1.out.trans (hbc.mono (by have := HSZ1.out; omega)))
  have hsz2 : w.heap.size + 2 ≤ w2.heap.size := by have := HSZ1.out; have := hbc.size; omega
  have HOWN := Lib.hid (show OwnAt w2 base 77 2 Ar L.length cr (flat waC L) by have h1 := HST2.out.rows.at x; rw [HAR.out, HTX.out] at h1; exact h1)
  have HIX := Lib.hid (indexFunc_wa Ar cr L 86 #[.pointer (some ⟨w.heap.size, 0, none⟩)] (isTag tg) w2.heap.size (fun w' => Below w2.heap.size w2 w') w2 enters_look1 (by unfold maxLen; omega) (fun w' hb' => HOWN.out.row.below hb')
    (fun y _ w' hb' => (look1_any y tg w.heap.size w' ((HX92.out.below hb' HX92.out.lt).cell 0) (by have := hb'.size; omega)).mono fun e w3 h3 => ⟨h3.1, hb'.trans (h3.2.mono hb'.size)⟩) (Below.refl _ _))
  clear hbc HST1 HX9 HX12 HB1 c0 c1 k1 hl1 hl2 HSZ1
  obtain ⟨ix, hix⟩ : ∃ ix, waAt L tg = ix := ⟨_, rfl⟩
  have HWA := Lib.hid hix
  unfold waAt at hix
  rw [hix] at HIX
  clear hix
  go_upto_region 4 with (go_at_call 31; refine HIX.out.mono ?_; rintro e w3 ⟨rfl, hb3⟩)
  have HST3 := Lib.hid (HST2.out.below hb3)
  have HX93 := Lib.hid (HX92.out.below hb3 HX92.out.lt)
  have HX123 := Lib.hid (HX122.out.below hb3 HX122.out.lt)
  have HB3 := Lib.hid (HB2.out.trans (hb3.mono (by omega)))
  have hsz3 : w.heap.size + 2 ≤ w3.heap.size := by have := hb3.size; omega
  clear hb3 HST2 HX92 HX122 HB2 HOWN HIX hsz2
  go_upto_region 5 with fail
  have hb4 : Below w3.heap.size w3 (w3.alloc (.cells #[.string ⟨#[]⟩, .int .i64 0] 77)) := (Below.refl _ _).alloc (Nat.le_refl _) _
  have HST4 := Lib.hid (HST3.out.below hb4)
  have HX94 := Lib.hid (HX93.out.below hb4 HX93.out.lt)
  have HX124 := Lib.hid (HX123.out.below hb4 HX123.out.lt)
  have HX154 := Lib.hid (Box.new w3 77 #[.string ⟨#[]⟩, .int .i64 0])
  have HB4 := Lib.hid (HB3.out.trans (hb4.mono (by omega)))
  have hsz4 : w3.heap.size < (w3.alloc (.cells #[.string ⟨#[]⟩, .int .i64 0] 77)).heap.size := by simp
  have hgk3 := HST3.out.box.lt
  have hnxr : ∀ q, RBlk R q → q < w3.heap.size := fun q hq => (HST3.out.rows.blk_lt hq).2
  clear hb4 HST3 HX93 HX123 HB3
  generalize w3.alloc (.cells #[.string ⟨#[]⟩, .int .i64 0] 77) = w4 at *
  obtain ⟨gx, hgx⟩ : ∃ gx, w3.heap.size = gx := ⟨_, rfl⟩
  rw [hgx] at HX154 hsz4 hsz3 hgk3 hnxr
  rw [hgx]
  clear hgx
  have HOWN := Lib.hid (show OwnAt w4 base 77 2 Ar L.length cr (flat waC L) by have h1 := HST4.out.rows.at x; rw [HAR.out, HTX.out] at h1; exact h1)
  have k0 : w4.cell? ⟨gk, 0, none⟩ = some (.slice AI ims.length cI) := HST4.out.box.cell 0
  have k1 : w4.cell? ⟨gk, 1, none⟩ = some (.map (some gm)) := HST4.out.box.cell 1
  have k2 : w4.cell? ⟨gk, 2, none⟩ = some (.int .i64 hits) := HST4.out.box.cell 2
  have k3 : w4.cell? ⟨gk, 3, none⟩ = some (.int .i64 misses) := HST4.out.box.cell 3
  have z2 : w4.frozen? ⟨gk, 2, none⟩ = false := HST4.out.box.frozen 2
  have z3 : w4.frozen? ⟨gk, 3, none⟩ = false := HST4.out.box.frozen 3
  have t0 : w4.cell? ⟨w.heap.size, 0, none⟩ = some (.string tg) := HX94.out.cell 0
  have s0 : w4.cell? ⟨w.heap.size + 1, 0, none⟩ = some (.int .i64 a) := HX124.out.cell 0
  have s1 : w4.cell? ⟨w.heap.size + 1, 1, none⟩ = some (.int .i64 b) := HX124.out.cell 1
  have d0 : w4.cell? ⟨gx, 0, none⟩ = some (.string ⟨#[]⟩) := HX154.out.cell 0
  have d1 : w4.cell? ⟨gx, 1, none⟩ = some (.int .i64 0) := HX154.out.cell 1
  have y0 : w4.frozen? ⟨gx, 0, none⟩ = false := HX154.out.frozen 0
  have y1 : w4.frozen? ⟨gx, 1, none⟩ = false := HX154.out.frozen 1
  have hne1 : gk ≠ gx := by omega
  have hne2 : w.heap.size ≠ gx := by omega
  have hne3 : w.heap.size + 1 ≠ gx := by omega
  have hne4 : gk ≠ w.heap.size := by omega
  have hgmx : gm ≠ gx := by omega
  have HNXR := Lib.hid hnxr
  have HNX := Lib.hid (show Ar.map (·.block) ≠ some gx from fun e => by
    have := hnxr gx (rowA_blk (x := x) (by rw [HAR.out]; exact e))
    omega)
  clear hnxr
  have hne5 : gk ≠ w.heap.size + 1 := by omega
  by_cases hi : 0 ≤ ix
  · obtain ⟨i, rfl⟩ := Int.eq_ofNat_of_zero_le hi
    have hiL : i < L.length := by
      have h3 := HWA.out
      unfold waAt at h3
      rcases idxAt_rangeC (isTag tg) L 0 (Int.le_refl _) with h2 | h2 <;> omega
    have hhit : hit = true := by rw [← HHIT.out]; unfold isHit; rw [HWA.out]; exact decide_eq_true hi
    subst hhit
    obtain ⟨z, hz⟩ : ∃ z, L.getD i wa0 = z := ⟨_, rfl⟩
    have hrr : rr = (z.fn, 0) := by rw [← HRR.out]; unfold lookR; rw [HWA.out, if_pos hi, Int.toNat_natCast, hz]
    subst hrr
    have HLF := Lib.hid (show L' = frontF L i by rw [← HLL.out]; unfold lookL; rw [HWA.out, if_pos hi, Int.toNat_natCast])
    obtain ⟨bL, oL, rfl, hbL, e0, e1⟩ := HOWN.out.row.wa hiL wa0
    rw [hz] at e0 e1
    have hne6 : bL ≠ gk := fun e => box_not_own HST4.out.box HOWN.out (by decide) (by simp [e])
    have hne7 : bL ≠ gx := fun e => HNX.out (by simp [e])
    go_upto_region 8 with fail
    have ho45 : Only (fun q => q = gk ∨ q = gx) w4 (((w4.setCell ⟨gk, 2, none⟩ (.int .i64 (hits + 1))).setCell ⟨gx, 0, none⟩ (.string z.tag)).setCell ⟨gx, 1, none⟩ (.int .i64 z.fn)) := (((Only.refl _ w4).set (p := ⟨gk, 2, none⟩) (.inl rfl) _).set (p := ⟨gx, 0, none⟩) (.inr rfl) _).set (p := ⟨gx, 1, none⟩) (.inr rfl) _
    have HK5 := Lib.hid (show Box (((w4.setCell ⟨gk, 2, none⟩ (.int .i64 (hits + 1))).setCell ⟨gx, 0, none⟩ (.string z.tag)).setCell ⟨gx, 1, none⟩ (.int .i64 z.fn)) gk 174 #[.slice AI ims.length cI, .map (some gm), .int .i64 (hits + 1), .int .i64 misses] by
      have := ((HST4.out.box.set 2 (.int .i64 (hits + 1))).far (p := ⟨gx, 0, none⟩) hne1 (.string z.tag)).far (p := ⟨gx, 1, none⟩) hne1 (.int .i64 z.fn)
      simpa using this)
    have HX155 := Lib.hid (show Box (((w4.setCell ⟨gk, 2, none⟩ (.int .i64 (hits + 1))).setCell ⟨gx, 0, none⟩ (.string z.tag)).setCell ⟨gx, 1, none⟩ (.int .i64 z.fn)) gx 77 #[.string z.tag, .int .i64 z.fn] by
      have := ((HX154.out.far (p := ⟨gk, 2, none⟩) (fun e => hne1 e.symm) (.int .i64 (hits + 1))).set 0 (.string z.tag)).set 1 (.int .i64 z.fn)
      simpa using this)
    have HX125 := Lib.hid (ho45.box HX124.out (fun e => by omega))
    have HR5 := Lib.hid (HST4.out.rows.only ho45 (fun e => by rcases e with e | e; exact HST4.out.k_gm e.symm; exact hgmx e) (fun q hq e => by
      rcases e with e | e
      · obtain ⟨y, p, hp, e'⟩ := hq
        exact box_not_own HST4.out.box (HST4.out.rows.own y p hp) (by decide) (by rw [e', e])
      · have := HNXR.out q hq
        omega))
    have HI5 := Lib.hid (HST4.out.ims.only ho45 (fun q hq e => by
      rcases e with e | e
      · exact box_not_own HST4.out.box HST4.out.ims (by decide) (by rw [hq, e])
      · exact box_not_own HX154.out HST4.out.ims (by decide) (by rw [hq, e])))
    have HON5 := Lib.hid (only_afterC (Only.of_below HB4.out (S := fun q => q = gk ∨ q = gm ∨ RBlk R q)) ho45 (fun q hq => by
      rcases hq with e | e
      · exact .inl (.inl e)
      · right; omega))
    have hown5 := HOWN.out.only ho45 (fun q hq e => by
      simp at hq
      rcases e with e | e <;> omega)
    have hsz5 : gx < (((w4.setCell ⟨gk, 2, none⟩ (.int .i64 (hits + 1))).setCell ⟨gx, 0, none⟩ (.string z.tag)).setCell ⟨gx, 1, none⟩ (.int .i64 z.fn)).heap.size := Nat.lt_of_lt_of_le hsz4 ho45.size
    have hcr5 := hown5.cap_le
    generalize (((w4.setCell ⟨gk, 2, none⟩ (.int .i64 (hits + 1))).setCell ⟨gx, 0, none⟩ (.string z.tag)).setCell ⟨gx, 1, none⟩ (.int .i64 z.fn)) = w5 at *
    have hdel := delete_wa base bL oL cr i L w5 hown5 hiL
    rw [show ((i + 1 : Nat) : Int) = (i : Int) + 1 by omega] at hdel
    obtain ⟨Y, hY⟩ : ∃ Y, L.take i ++ L.drop (i + 1) = Y := ⟨_, rfl⟩
    rw [hY] at hdel
    have hYl : Y.length ≤ 4 := by rw [← hY]; simp only [List.length_append, List.length_take, List.length_drop]; omega
    have HY := Lib.hid (show frontF L i = z :: Y by unfold frontF; rw [hz, hY])
    have HDEL := Lib.hid hdel
    clear hdel hY hz ho45 e0 e1 k0 k1 k2 k3 z2 z3 t0 s0 s1 d0 d1 y0 y1
    go_wp2_with fail
    refine HDEL.out.mono ?_
    rintro e w6 ⟨rfl, hown6, ho6⟩
    have HOY := Lib.hid hown6
    have HO56 := Lib.hid (ho6.more (S' := fun b => (rowA R x).1.map (·.block) = some b) (fun q hq => by rw [HAR.out]; simp [hq]))
    have HK6 := Lib.hid (ho6.box HK5.out (fun e => hne6 e.symm))
    have HX126 := Lib.hid (ho6.box HX125.out (fun e => by have := own_blk hown5 (b := bL) rfl; exact box_not_own HX125.out hown5 (by decide) (by simp [e])))
    have HX156 := Lib.hid (ho6.box HX155.out (fun e => hne7 e.symm))
    have HI6 := Lib.hid (HI5.out.only ho6 fun q hq e => own_not_own HI5.out hown5 (by decide) hq (by simp [e]))
    have HON6 := Lib.hid (only_afterC HON5.out ho6 fun q hq => .inl (.inr (.inr (rowA_blk (x := x) (by rw [HAR.out]; simp [hq])))))
    have hsz6 : gx < w6.heap.size := Nat.lt_of_lt_of_le hsz5 ho6.size
    clear hown6 ho6 hown5 HDEL
    have hbase6 : base ≤ w6.heap.size := by omega
    have hYb : OwnAt (w6.alloc (.cells #[.string z.tag, .int .i64 z.fn] 77)) base 77 2 (some (⟨bL, oL, none⟩ : Addr)) Y.length cr (flat waC Y) := HOY.out.below ((Below.refl _ _).alloc (Nat.le_refl _) _)
    have hins := insert_wa base cr 0 w6.heap.size (some (⟨bL, oL, none⟩ : Addr)) Y z (w6.alloc (.cells #[.string z.tag, .int .i64 z.fn] 77)) hYb (Nat.zero_le _) (Box.new w6 _ _) (fun e => by have := (own_blk HOY.out e).2; omega) (by simp; omega) (by omega)
    rw [Int.natCast_zero] at hins
    obtain ⟨Z, hZ⟩ : ∃ Z, Y.take 0 ++ z :: Y.drop 0 = Z := ⟨_, rfl⟩
    rw [hZ] at hins
    have HZ := Lib.hid (show Z = z :: Y by rw [← hZ]; rfl)
    have hZ5 : Z.length ≤ 5 := by rw [HZ.out, List.length_cons]; omega
    unfold Inswa at hins
    have HINS := Lib.hid hins
    clear hins hZ hYb
    have e0 : w6.cell? ⟨gx, 0, none⟩ = some (.string z.tag) := HX156.out.cell 0
    have e1 : w6.cell? ⟨gx, 1, none⟩ = some (.int .i64 z.fn) := HX156.out.cell 1
    go_wp2_with fail
    refine HINS.out.mono ?_
    rintro e w8 ⟨g', o', cap', rfl, hown8, ho8, hg8⟩
    have ho68 := ((Only.refl (fun b => (some (⟨bL, oL, none⟩ : Addr)).map (·.block) = some b) w6).alloc (.cells #[.string z.tag, .int .i64 z.fn] 77)).trans ho8
    have HO58 := Lib.hid (HO56.out.trans (by rw [HAR.out]; exact ho68))
    have hcap8 := hown8.cap_le
    have HOWN8 := Lib.hid hown8
    have HG8 := Lib.hid (show ∀ b, (some (⟨g', o', none⟩ : Addr)).map (·.block) = some b → (some (⟨bL, oL, none⟩ : Addr)).map (·.block) = some b ∨ w5.heap.size ≤ b from fun b hb => by
      simp at hb
      subst hb
      exact hg8.imp_right fun h => by have h1 := HO56.out.size; simp at h; omega)
    have HK8 := Lib.hid (ho68.box HK6.out (box_not_own HK6.out HOY.out (by decide)))
    have HX128 := Lib.hid (ho68.box HX126.out (fun e => by have := own_blk HOY.out e; exact box_not_own HX126.out HOY.out (by decide) e))
    have HX158 := Lib.hid (ho68.box HX156.out (fun e => HNX.out e))
    have HI8 := Lib.hid (HI6.out.only ho68 fun b hb e => own_not_own HOY.out HI6.out (by decide) e hb)
    have HON8 := Lib.hid (only_afterC HON6.out ho68 fun b hb => .inl (.inr (.inr (rowA_blk (x := x) (by rw [HAR.out]; exact hb)))))
    clear ho8 hown8 hg8 ho68 HINS e0 e1
    have k1 : w8.cell? ⟨gk, 1, none⟩ = some (.map (some gm)) := HK8.out.cell 1
    have s0 : w8.cell? ⟨w.heap.size + 1, 0, none⟩ = some (.int .i64 a) := HX128.out.cell 0
    have s1 : w8.cell? ⟨w.heap.size + 1, 1, none⟩ = some (.int .i64 b) := HX128.out.cell 1
    obtain ⟨LZ, hLZ⟩ : ∃ LZ, Z.take 4 = LZ := ⟨_, rfl⟩
    have hLZl : LZ.length = min 4 Z.length := by rw [← hLZ, List.length_take]
    have hlz4 : LZ.length ≤ 4 := by omega
    have hlzc : LZ.length ≤ cap' := by omega
    have hown9 : OwnAt w8.drew base 77 2 (some ⟨g', o', none⟩) LZ.length cap' (flat waC LZ) := by
      have h1 := HOWN8.out.shrinkD (k := LZ.length) (by omega)
      rw [← flat_take waC_len] at h1
      have e : Z.take LZ.length = LZ := by rw [hLZl, ← hLZ, List.take_eq_take_iff]; omega
      rw [e] at h1
      exact h1
    obtain ⟨w9, hrun, hrows9, ho9⟩ := HR5.out.put sites_keyed Try.underlying172 (by unfold maxLen; omega) HKEY.out (Nat.le_succ_of_le hlz4) (w1 := w8.drew) (HO58.out.drew) hown9 (by rw [HAR.out]; exact HG8.out)
    have HROWS9 := Lib.hid hrows9
    have HO9 := Lib.hid ho9
    have HLZ := Lib.hid hLZ
    have hgn : gk ≠ gm := HST4.out.k_gm
    clear hLZ hrows9 ho9 hown9
    go_upto_region 15 with fail
    go_cut [] from 71 to 80 (fun wx => w9 = wx)
    case first =>
      by_cases hz4 : Z.length ≤ 4
      · have hz4' : ¬ (4 : Int) < (Z.length : Int) := by omega
        have hz4'' : (Z.length : Int) ≤ 4 := by omega
        have hz5 : ¬ 4 < Z.length := by omega
        have e : LZ.length = Z.length := by omega
        rw [e] at hrun
        have q1 : (Z.length : Int) ≤ (cap' : Int) := by omega
        have q2 : Z.length ≤ cap' := by omega
        clear hLZl
        go_region_law (fail)
        all_goals (
          go_wp2_with fail
          go_meet
          rfl)
      · have hz4' : (4 : Int) < (Z.length : Int) := by omega
        have hz5 : 4 < Z.length := by omega
        have e : LZ.length = 4 := by omega
        rw [e] at hrun
        have q1 : (4 : Int) ≤ (cap' : Int) := by omega
        have q2 : 4 ≤ cap' := by omega
        clear hLZl
        go_region_law (fail)
        all_goals (
          go_wp2_with fail
          go_meet
          rfl)
    case rest =>
    subst hcut
    have HX159 := HO9.out.box HX158.out.drew (fun e => hgmx e.symm)
    have e1 : w9.cell? ⟨gx, 1, none⟩ = some (.int .i64 z.fn) := HX159.cell 1
    go_wp2_with fail
    go_ret2
    refine ⟨rfl, updR R x (some (some ⟨g', o', none⟩, cap')), ⟨HO9.out.box HK8.out.drew hgn, ?_, (HI8.out.below (below_drewC (Below.refl _ _))).only HO9.out (fun b hb e => map_not_own HST4.out.rows.map HST4.out.ims (by rw [hb, e])), HST4.out.ge⟩, only_afterC (HON8.out.drew) HO9.out fun b hb => .inl (.inr (.inl hb)), fun q hq => (upd_blk (by rw [HAR.out]; exact HG8.out) q hq).imp_right fun h => by omega⟩
    rw [show L' = LZ from by rw [HLF.out, HY.out, ← HLZ.out, HZ.out, List.take_of_length_le (by rw [List.length_cons]; have := front_len hiL; rw [HY.out, List.length_cons] at this; omega)]]
    exact HROWS9.out
  · have hhit : hit = false := by rw [← HHIT.out]; unfold isHit; rw [HWA.out]; exact decide_eq_false hi
    subst hhit
    have hrr0 := HRR.out
    have hll0 := HLL.out
    unfold lookR at hrr0
    unfold lookL at hll0
    rw [HWA.out, if_neg hi] at hrr0 hll0
    have ho45 : Only (fun q => q = gk) w4 (w4.setCell ⟨gk, 3, none⟩ (.int .i64 (misses + 1))) := (Only.refl (fun q => q = gk) w4).set (p := ⟨gk, 3, none⟩) rfl _
    have HK5 := Lib.hid (show Box (w4.setCell ⟨gk, 3, none⟩ (.int .i64 (misses + 1))) gk 174 #[.slice AI ims.length cI, .map (some gm), .int .i64 hits, .int .i64 (misses + 1)] by
      have := HST4.out.box.set 3 (.int .i64 (misses + 1))
      simpa using this)
    have HX155 := Lib.hid (ho45.box HX154.out (fun e => hne1 e.symm))
    have HX125 := Lib.hid (ho45.box HX124.out (fun e => hne5 e.symm))
    have HX95 := Lib.hid (ho45.box HX94.out (fun e => hne4 e.symm))
    have HRV := Lib.hid (HST4.out.rows.only ho45 (fun e => HST4.out.k_gm e.symm) (fun q hq e => by
      obtain ⟨y, p, hp, e'⟩ := hq
      exact box_not_own HST4.out.box (HST4.out.rows.own y p hp) (by decide) (by rw [e', e])))
    have HI5 := Lib.hid (HST4.out.ims.only ho45 (fun q hq e => box_not_own HST4.out.box HST4.out.ims (by decide) (by rw [hq, e])))
    have HON5 := Lib.hid (only_afterC (Only.of_below HB4.out (S := fun q => q = gk ∨ q = gm ∨ RBlk R q)) ho45 (fun q hq => .inl (.inl hq)))
    have hsz5 : gx < (w4.setCell ⟨gk, 3, none⟩ (.int .i64 (misses + 1))).heap.size := Nat.lt_of_lt_of_le hsz4 ho45.size
    have HFD := Lib.hid (find_any gk AI cI ims _ _ _ nm tg (w4.setCell ⟨gk, 3, none⟩ (.int .i64 (misses + 1))) HK5.out HI5.out.row him)
    have HOWN5 := Lib.hid (HOWN.out.only ho45 (fun q hq e => box_not_own HST4.out.box HOWN.out (by decide) (by rw [hq, e])))
    obtain ⟨im, him2⟩ : ∃ im, imAt ims nm tg = im := ⟨_, rfl⟩
    rw [him2] at hrr0 hll0 HFD
    obtain ⟨fn, hfn⟩ : ∃ fn, (if 0 ≤ im then (ims.getD im.toNat im0).fn else 0) = fn := ⟨_, rfl⟩
    rw [hfn] at HFD
    obtain ⟨D, hD⟩ : ∃ D, decide (0 ≤ im) = D := ⟨_, rfl⟩
    rw [hD] at HFD
    have HRR0 := Lib.hid hrr0
    have HLL0 := Lib.hid hll0
    have HFN := Lib.hid hfn
    have HDD := Lib.hid hD
    clear hrr0 hll0 hfn hD him2
    go_upto_region 10 with fail
    generalize (w4.setCell ⟨gk, 3, none⟩ (.int .i64 (misses + 1))) = w5' at *
    have t0 : w5'.cell? ⟨w.heap.size, 0, none⟩ = some (.string tg) := HX95.out.cell 0
    clear k0 k1 k2 k3 z2 z3 s0 s1 d0 d1 y0 y1 ho45
    go_wp2_with fail
    refine HFD.out.mono ?_
    rintro e w6 ⟨rfl, hb6⟩
    have HK6 := Lib.hid (HK5.out.below hb6 HK5.out.lt)
    have HX156 := Lib.hid (HX155.out.below hb6 HX155.out.lt)
    have HX126 := Lib.hid (HX125.out.below hb6 HX125.out.lt)
    have HX96 := Lib.hid (HX95.out.below hb6 HX95.out.lt)
    have HR6 := Lib.hid (HRV.out.below hb6)
    have HI6 := Lib.hid (HI5.out.below hb6)
    have HON6 := Lib.hid (HON5.out.below hb6)
    have HOWN6 := Lib.hid (HOWN5.out.below hb6)
    have hsz6 : gx < w6.heap.size := Nat.lt_of_lt_of_le hsz5 hb6.size
    clear hb6 HFD HK5 HX155 HX125 HX95 HRV HI5 HON5 HOWN5 hsz5 t0
    by_cases him0 : 0 ≤ im
    case neg =>
      have hD : D = false := by rw [← HDD.out]; exact decide_eq_false him0
      subst hD
      have hrr : rr = (0, 4) := by rw [← HRR0.out, if_neg him0]
      subst hrr
      have HLF := Lib.hid (show updR T x L' = T by rw [← HLL0.out, if_neg him0, ← HTX.out]; exact upd_same T x)
      go_wp2_with fail
      go_ret2
      refine ⟨rfl, R, ⟨HK6.out, ?_, HI6.out, HST4.out.ge⟩, HON6.out, fun q hq => .inl hq⟩
      rw [HLF.out]
      exact HR6.out.mono1
    have hD : D = true := by rw [← HDD.out]; exact decide_eq_true him0
    subst hD
    have hfn2 : (ims.getD im.toNat im0).fn = fn := by rw [← HFN.out, if_pos him0]
    obtain ⟨z, hz⟩ : ∃ z : Wa, z = ⟨tg, fn⟩ := ⟨_, rfl⟩
    have hrr : rr = (z.fn, 0) := by rw [← HRR0.out, if_pos him0, hfn2, hz]
    subst hrr
    have HLF := Lib.hid (show L' = (z :: L).take 4 by rw [← HLL0.out, if_pos him0, hfn2, hz])
    have HZT := Lib.hid (show z.tag = tg ∧ z.fn = fn by rw [hz]; exact ⟨rfl, rfl⟩)
    clear hz hfn2
    have t0 : w6.cell? ⟨w.heap.size, 0, none⟩ = some (.string tg) := HX96.out.cell 0
    have d0 : w6.cell? ⟨gx, 0, none⟩ = some (.string ⟨#[]⟩) := HX156.out.cell 0
    have d1 : w6.cell? ⟨gx, 1, none⟩ = some (.int .i64 0) := HX156.out.cell 1
    have y0 : w6.frozen? ⟨gx, 0, none⟩ = false := HX156.out.frozen 0
    have y1 : w6.frozen? ⟨gx, 1, none⟩ = false := HX156.out.frozen 1
    go_upto_region 14 with fail
    have ho67 : Only (fun q => q = gx) w6 ((w6.setCell ⟨gx, 0, none⟩ (.string tg)).setCell ⟨gx, 1, none⟩ (.int .i64 fn)) := ((Only.refl (fun q => q = gx) w6).set (p := ⟨gx, 0, none⟩) rfl _).set (p := ⟨gx, 1, none⟩) rfl _
    have HK7 := Lib.hid (ho67.box HK6.out hne1)
    have HX127 := Lib.hid (ho67.box HX126.out hne3)
    have HX157 := Lib.hid (show Box ((w6.setCell ⟨gx, 0, none⟩ (.string tg)).setCell ⟨gx, 1, none⟩ (.int .i64 fn)) gx 77 #[.string z.tag, .int .i64 z.fn] by
      have := (HX156.out.set 0 (.string tg)).set 1 (.int .i64 fn)
      rw [HZT.out.1, HZT.out.2]
      simpa using this)
    have HR7 := Lib.hid (HR6.out.only ho67 hgmx (fun q hq e => by have := HNXR.out q hq; omega))
    have HI7 := Lib.hid (HI6.out.only ho67 (fun q hq e => box_not_own HX156.out HI6.out (by decide) (by rw [hq, e])))
    have HON7 := Lib.hid (only_afterC HON6.out ho67 (fun q hq => by right; omega))
    have HOY7 := Lib.hid (HOWN6.out.only ho67 (fun q hq e => HNX.out (by rw [hq, e])))
    have hsz7 : gx < ((w6.setCell ⟨gx, 0, none⟩ (.string tg)).setCell ⟨gx, 1, none⟩ (.int .i64 fn)).heap.size := Nat.lt_of_lt_of_le hsz6 ho67.size
    clear ho67 d0 d1 y0 y1 t0 HK6 HX126 HX156 HR6 HI6 HON6 HOWN6 HX96 hsz6
    generalize ((w6.setCell ⟨gx, 0, none⟩ (.string tg)).setCell ⟨gx, 1, none⟩ (.int .i64 fn)) = w7 at *
    clear w6
    obtain ⟨w6, hw6⟩ : ∃ w6, w6 = w7 := ⟨_, rfl⟩
    subst hw6
    obtain ⟨w5, hw5⟩ : ∃ w5, w5 = w6 := ⟨_, rfl⟩
    have HR5 := Lib.hid (show Rows1 w5 base 176 gm n R T by rw [hw5]; exact HR7.out)
    have HO56 := Lib.hid (show Only (fun b => (rowA R x).1.map (·.block) = some b) w5 w6 by rw [hw5]; exact Only.refl _ _)
    have hsz5 : gx < w5.heap.size := by rw [hw5]; exact hsz7
    have HK6 := Lib.hid HK7.out
    have HX126 := Lib.hid HX127.out
    have HX156 := Lib.hid HX157.out
    have HI6 := Lib.hid HI7.out
    have HON6 := Lib.hid HON7.out
    have HOY := Lib.hid HOY7.out
    have hsz6 := hsz7
    have hYl := hL4
    clear hw5 HK7 HX127 HX157 HI7 HON7 HOY7 HR7 hsz7
    have hbase6 : base ≤ w6.heap.size := by omega
    have hYb : OwnAt (w6.alloc (.cells #[.string z.tag, .int .i64 z.fn] 77)) base 77 2 Ar L.length cr (flat waC L) := HOY.out.below ((Below.refl _ _).alloc (Nat.le_refl _) _)
    have hins := insert_wa base cr 0 w6.heap.size Ar L z (w6.alloc (.cells #[.string z.tag, .int .i64 z.fn] 77)) hYb (Nat.zero_le _) (Box.new w6 _ _) (fun e => by have := (own_blk HOY.out e).2; omega) (by simp; omega) (by omega)
    rw [Int.natCast_zero] at hins
    obtain ⟨Z, hZ⟩ : ∃ Z, L.take 0 ++ z :: L.drop 0 = Z := ⟨_, rfl⟩
    rw [hZ] at hins
    have HZ := Lib.hid (show Z = z :: L by rw [← hZ]; rfl)
    have hZ5 : Z.length ≤ 5 := by rw [HZ.out, List.length_cons]; omega
    unfold Inswa at hins
    have HINS := Lib.hid hins
    clear hins hZ hYb
    have e0 : w6.cell? ⟨gx, 0, none⟩ = some (.string z.tag) := HX156.out.cell 0
    have e1 : w6.cell? ⟨gx, 1, none⟩ = some (.int .i64 z.fn) := HX156.out.cell 1
    go_wp2_with fail
    refine HINS.out.mono ?_
    rintro e w8 ⟨g', o', cap', rfl, hown8, ho8, hg8⟩
    have ho68 := ((Only.refl (fun b => (Ar).map (·.block) = some b) w6).alloc (.cells #[.string z.tag, .int .i64 z.fn] 77)).trans ho8
    have HO58 := Lib.hid (HO56.out.trans (by rw [HAR.out]; exact ho68))
    have hcap8 := hown8.cap_le
    have HOWN8 := Lib.hid hown8
    have HG8 := Lib.hid (show ∀ b, (some (⟨g', o', none⟩ : Addr)).map (·.block) = some b → (Ar).map (·.block) = some b ∨ w5.heap.size ≤ b from fun b hb => by
      simp at hb
      subst hb
      exact hg8.imp_right fun h => by have h1 := HO56.out.size; simp at h; omega)
    have HK8 := Lib.hid (ho68.box HK6.out (box_not_own HK6.out HOY.out (by decide)))
    have HX128 := Lib.hid (ho68.box HX126.out (fun e => by have := own_blk HOY.out e; exact box_not_own HX126.out HOY.out (by decide) e))
    have HX158 := Lib.hid (ho68.box HX156.out (fun e => HNX.out e))
    have HI8 := Lib.hid (HI6.out.only ho68 fun b hb e => own_not_own HOY.out HI6.out (by decide) e hb)
    have HON8 := Lib.hid (only_afterC HON6.out ho68 fun b hb => .inl (.inr (.inr (rowA_blk (x := x) (by rw [HAR.out]; exact hb)))))
    clear ho8 hown8 hg8 ho68 HINS e0 e1
    have k1 : w8.cell? ⟨gk, 1, none⟩ = some (.map (some gm)) := HK8.out.cell 1
    have s0 : w8.cell? ⟨w.heap.size + 1, 0, none⟩ = some (.int .i64 a) := HX128.out.cell 0
    have s1 : w8.cell? ⟨w.heap.size + 1, 1, none⟩ = some (.int .i64 b) := HX128.out.cell 1
    obtain ⟨LZ, hLZ⟩ : ∃ LZ, Z.take 4 = LZ := ⟨_, rfl⟩
    have hLZl : LZ.length = min 4 Z.length := by rw [← hLZ, List.length_take]
    have hlz4 : LZ.length ≤ 4 := by omega
    have hlzc : LZ.length ≤ cap' := by omega
    have hown9 : OwnAt w8.drew base 77 2 (some ⟨g', o', none⟩) LZ.length cap' (flat waC LZ) := by
      have h1 := HOWN8.out.shrinkD (k := LZ.length) (by omega)
      rw [← flat_take waC_len] at h1
      have e : Z.take LZ.length = LZ := by rw [hLZl, ← hLZ, List.take_eq_take_iff]; omega
      rw [e] at h1
      exact h1
    obtain ⟨w9, hrun, hrows9, ho9⟩ := HR5.out.put sites_keyed Try.underlying172 (by unfold maxLen; omega) HKEY.out (Nat.le_succ_of_le hlz4) (w1 := w8.drew) (HO58.out.drew) hown9 (by rw [HAR.out]; exact HG8.out)
    have HROWS9 := Lib.hid hrows9
    have HO9 := Lib.hid ho9
    have HLZ := Lib.hid hLZ
    have hgn : gk ≠ gm := HST4.out.k_gm
    clear hLZ hrows9 ho9 hown9
    go_upto_region 15 with fail
    go_cut [] from 71 to 80 (fun wx => w9 = wx)
    case first =>
      by_cases hz4 : Z.length ≤ 4
      · have hz4' : ¬ (4 : Int) < (Z.length : Int) := by omega
        have hz4'' : (Z.length : Int) ≤ 4 := by omega
        have hz5 : ¬ 4 < Z.length := by omega
        have e : LZ.length = Z.length := by omega
        rw [e] at hrun
        have q1 : (Z.length : Int) ≤ (cap' : Int) := by omega
        have q2 : Z.length ≤ cap' := by omega
        clear hLZl
        go_region_law (fail)
        all_goals (
          go_wp2_with fail
          go_meet
          rfl)
      · have hz4' : (4 : Int) < (Z.length : Int) := by omega
        have hz5 : 4 < Z.length := by omega
        have e : LZ.length = 4 := by omega
        rw [e] at hrun
        have q1 : (4 : Int) ≤ (cap' : Int) := by omega
        have q2 : 4 ≤ cap' := by omega
        clear hLZl
        go_region_law (fail)
        all_goals (
          go_wp2_with fail
          go_meet
          rfl)
    case rest =>
    subst hcut
    have HX159 := HO9.out.box HX158.out.drew (fun e => hgmx e.symm)
    have e1 : w9.cell? ⟨gx, 1, none⟩ = some (.int .i64 z.fn) := HX159.cell 1
    go_wp2_with fail
    go_ret2
    refine ⟨rfl, updR R x (some (some ⟨g', o', none⟩, cap')), ⟨HO9.out.box HK8.out.drew hgn, ?_, (HI8.out.below (below_drewC (Below.refl _ _))).only HO9.out (fun b hb e => map_not_own HST4.out.rows.map HST4.out.ims (by rw [hb, e])), HST4.out.ge⟩, only_afterC (HON8.out.drew) HO9.out fun b hb => .inl (.inr (.inl hb)), fun q hq => (upd_blk (by rw [HAR.out]; exact HG8.out) q hq).imp_right fun h => by omega⟩
    rw [show L' = LZ from by rw [HLF.out, ← HLZ.out, HZ.out]]
    exact HROWS9.out
end Go.Proofs.Ytdjahlkjfpbifaa
