/-
  ExploreRuns: the law's walk, for good programs.
-/
import Derived.Test.YtcmkkfpcdebfkaaEx14
import Derived.Deep.CutBlock
import Derived.Deep.DeepCutAuto
import Derived.Deep.RegionLaw
namespace Go.Proofs.Ytcmkkfpcdebfkaa
open Go.RowKit

theorem runS_len {l : List (List Do)} (hl : rowBad l.flatten = 0) (h4 : l.length ≤ 4) : ∀ (o : List Int) (s : List Int) (n : Nat), GoodS l s → ∀ s' n', runS l o s n = some (s', n') → GoodS l s'
  | [], s, n, h, s', n', e => by
    simp only [runS, Option.some.injEq, Prod.mk.injEq] at e
    rw [← e.1]; exact h
  | x :: o, s, n, h, s', n', e => by
    rw [runS] at e
    split at e
    · cases e
    · rename_i hx
      obtain ⟨who, rfl⟩ : ∃ n : Nat, x = n := ⟨x.toNat, by omega⟩
      have hw : who < l.length := by omega
      obtain ⟨a, ha, _⟩ := h.at' who hw
      simp only [Int.toNat_natCast, ha] at e
      split at e
      · exact runS_len hl h4 o _ _ (h.next hl h4 hw ha) s' n' e
      · simp only [Option.some.injEq, Prod.mk.injEq] at e
        rw [← e.1]; exact h
theorem runT_len {l : List (List Do)} (h : progBad l = 0) (o : List Int) : (runT l o).1.length = 12 := by
  obtain ⟨h4, hl⟩ := progBad_zero h
  rw [runT, if_pos h]
  split
  · rfl
  · rename_i s n e
    exact (runS_len hl h4 o zeroS 0 (GoodS.zero h4) s n e).len
theorem nextS_true {row : List Do} {who a : Nat} {s : List Int} (h : (nextS row who s a).2 = true) : a < row.length ∧ (nextS row who s a).1 = (moveS (row.getD a (0, 0, 0)) who s).set (8 + who) ((a : Int) + 1) := by
  unfold nextS at h ⊢
  split at h
  · rename_i hlt
    split at h
    · rename_i hc
      rw [if_pos hlt, if_pos hc]
      exact ⟨hlt, rfl⟩
    · cases h
  · cases h
theorem own_at_ne {w : World} {base : Nat} {e t : TypeId} {size n cap g g' o : Nat} {xs : List Value} {cs : Array Value} (h : OwnAt w base e size (some ⟨g, o, none⟩) n cap xs) (hb : Box w g' t cs) (hne : e ≠ t) : g ≠ g' := by
  rcases h.2 with ⟨h0, _⟩ | ⟨g2, o2, cur, hA, _, hh, _⟩
  · cases h0
  · injection hA with hA
    injection hA with hg ho
    subst hg
    intro e1
    subst e1
    unfold Box at hb
    rw [hh] at hb; injection hb with hb; injection hb with _ ht; exact hne ht
theorem own_at_map {w : World} {base : Nat} {e t : TypeId} {size n cap g : Nat} {A : Option Addr} {xs : List Value} {cs : Array Value} (h : OwnAt w base e size A n cap xs) (hb : Box w g t cs) (hne : e ≠ t) : A.map (·.block) ≠ some g := by
  rcases h.form with ⟨rfl, _⟩ | ⟨g1, o1, rfl⟩
  · simp
  · intro e1
    simp at e1
    exact own_at_ne h hb hne e1
theorem own_at_ge {w : World} {base : Nat} {e : TypeId} {size n cap q : Nat} {A : Option Addr} {xs : List Value} (h : OwnAt w base e size A n cap xs) (hq : A.map (·.block) = some q) : base ≤ q := by
  rcases h.form with ⟨rfl, _⟩ | ⟨g1, o1, rfl⟩
  · simp at hq
  · simp at hq
    subst hq
    exact h.lt.1
theorem own_cells {w : World} {base : Nat} {e : TypeId} {size n cap g o : Nat} {xs : List Value} (h : OwnAt w base e size (some ⟨g, o, none⟩) n cap xs) : ∀ j u, xs[j]? = some u → w.cell? ((⟨g, o, none⟩ : Addr).add j) = some u := fun j u hu => by
  rw [addr_add]
  exact h.cells j u hu
theorem pt_row (w : World) (p0 p1 p2 : Int) : Row (w.alloc (.cells #[.int .i64 p0, .int .i64 p1, .int .i64 p2] 56)) (w.alloc (.cells #[.int .i64 p0, .int .i64 p1, .int .i64 p2] 56)).heap.size (some ⟨w.heap.size, 0, none⟩) (flat ptC [(p0, p1, p2)]) := fun _ =>
  ⟨w.heap.size, 0, rfl, by simp, fun i v hv => by
    rw [Nat.zero_add, (Box.new w 56 #[.int .i64 p0, .int .i64 p1, .int .i64 p2]).cell i, ← hv]
    simp [flat, ptC]⟩
/-- What the law's first loop leaves. -/
def RunCut (l : List (List Do)) (o : List Int) (g : Nat) (w7 : World) (v16 v17 : Value) (wx : World) : Prop :=
  ∃ (s : List Int) (n : Nat), v16 = .int .i64 n ∧ Box wx g 49 (ints s).toArray ∧ GoodS l s ∧ Below w7.heap.size w7 wx ∧ ∃ cd : Int, v17 = .int .i64 cd ∧ ((cd = 0 ∧ runS l o zeroS 0 = some (s, n)) ∨ (cd = 1 ∧ runS l o zeroS 0 = none))

set_option maxRecDepth 100000 in
set_option maxHeartbeats 8000000 in
theorem exploreRuns_ok (A B : Option Addr) (c d : Nat) (l : List (List Do)) (o : List Int) (W : World) (h : ExIn W A B c d l o) (hp : progBad l = 0) :
    Calls Try.prog 4 #[.slice A l.length c, .slice B o.length d] W fun e w' => e = .returned (.bool true) ∧ Below W.heap.size W w' := by
  have H := Lib.hid h
  have HRF := Lib.hid (run_first W)
  have hq12 := runT_len hp o
  obtain ⟨q1, q2, q3, hq⟩ : ∃ q1 q2 q3, runT l o = (q1, q2, q3) := ⟨_, _, _, rfl⟩
  obtain ⟨xs, xn, hx⟩ : ∃ xs n, stepsT l o = (xs, n) := ⟨_, _, rfl⟩
  rw [hq] at hq12
  dsimp only at hq12
  have HQ := Lib.hid hq
  have HX := Lib.hid hx
  have HPB := Lib.hid hp
  obtain ⟨hl4, hrb⟩ := progBad_zero hp
  have HRB := Lib.hid hrb
  have hol := h.len
  clear h hp hq hx hrb
  go_enter Try.func4, Try.ntmps4
  go_wp2_with fail
  refine HRF.out.mono ?_
  rintro e w1 ⟨rfl, hb1⟩
  have HB1 := Lib.hid (hb1.alloc hb1.size (.cells #[.int .i64 3, .int .i64 0, .int .i64 0, .int .i64 0, .int .i64 0, .int .i64 0, .int .i64 0, .int .i64 0, .int .i64 1, .int .i64 0, .int .i64 0, .int .i64 0] 36))
  have hws1 := hb1.size
  clear hb1 HRF
  go_wp2_with fail
  refine (progsC A c l _ (H.out.pin.below HB1.out)).mono ?_
  rintro e w2 ⟨A', c', rfl, hp2, hb2⟩
  have HB2 := Lib.hid (HB1.out.trans (hb2.mono HB1.out.size))
  have HP2 := Lib.hid hp2
  clear hb2 hp2 HB1
  go_wp2_with fail
  refine ((H.out.below HB2.out).run HP2.out HQ.out).mono ?_
  rintro e w3 ⟨rfl, hb3⟩
  have HB3 := Lib.hid (HB2.out.trans (hb3.mono HB2.out.size))
  have hbx := Box.new w3 36 #[.int .i64 0, .int .i64 0, .int .i64 0, .int .i64 0, .int .i64 0, .int .i64 0, .int .i64 0, .int .i64 0, .int .i64 0, .int .i64 0, .int .i64 0, .int .i64 0]
  have HTH := Lib.hid (there_st (s := q1) hbx rfl hq12)
  have HSI2 := Lib.hid (info_st2 hq12)
  have HONE := Lib.hid (ints_one q1)
  have HBX4 := Lib.hid (box_setAll hbx (ints q1) (by simp [ints, hq12]))
  have hbq := Below.setCells (B := w3.heap.size) (g := w3.heap.size) (Nat.le_refl _) (ints q1) 0 _ ((Below.refl w3.heap.size w3).alloc (Nat.le_refl _) (.cells #[.int .i64 0, .int .i64 0, .int .i64 0, .int .i64 0, .int .i64 0, .int .i64 0, .int .i64 0, .int .i64 0, .int .i64 0, .int .i64 0, .int .i64 0, .int .i64 0] 36))
  have HB4 := Lib.hid (HB3.out.trans (hbq.mono HB3.out.size))
  have HP4 := Lib.hid ((HP2.out.below hb3).below hbq)
  clear hb3 hbx hbq HB2 HP2
  go_upto_region 6 with (guard_target =~ wpList _ _ _ ({ dst := none, op := _, type := _, pos := _, after := _, guard := _ } :: _) _ _; refine wpList_store_mid rfl 36 (.tmp 9) (.tmp 51) rfl w3.heap.size 0 (ints q1).toArray rfl rfl HTH.out HSI2.out HONE.out ?_)
  clear HTH
  generalize (w3.alloc (.cells #[.int .i64 0, .int .i64 0, .int .i64 0, .int .i64 0, .int .i64 0, .int .i64 0, .int .i64 0, .int .i64 0, .int .i64 0, .int .i64 0, .int .i64 0, .int .i64 0] 36)).setCells w3.heap.size 0 (ints q1) = w4 at *
  go_wp2_with fail
  refine ((H.out.below HB4.out).steps HP4.out HX.out).mono ?_
  rintro e w5 ⟨A5, c5, rfl, hr5, hxc, hxm, hb5⟩
  have HB5 := Lib.hid (HB4.out.trans (hb5.mono HB4.out.size))
  have HBX5 := Lib.hid (HBX4.out.below hb5 HBX4.out.lt)
  have HP5 := Lib.hid (HP4.out.below hb5)
  have HR5 := Lib.hid hr5
  clear hb5 hr5 HB4 HBX4 HP4
  go_wp2_with fail
  refine (progsR A c l _ (H.out.pin.below HB5.out)).mono ?_
  rintro e w6 ⟨rfl, hb6⟩
  have HB6 := Lib.hid (HB5.out.trans (hb6.mono HB5.out.size))
  have HBX6 := Lib.hid (HBX5.out.below hb6 HBX5.out.lt)
  have HP6 := Lib.hid (HP5.out.below hb6)
  have HR6 := Lib.hid ((HR5.out.below hb6).more hb6.size)
  clear hb6 HB5 HBX5 HP5 HR5
  rw [HPB.out]
  go_wp2_with fail
  refine (checkE A' c' l _ HP6.out).mono ?_
  rintro e w7 ⟨rfl, hb7⟩
  have HB7 := Lib.hid (HB6.out.trans (hb7.mono HB6.out.size))
  have HBX7 := Lib.hid (HBX6.out.below hb7 HBX6.out.lt)
  have HR7 := Lib.hid ((HR6.out.below hb7).more hb7.size)
  clear hb7 HB6 HBX6 HP6 HR6
  rw [HPB.out]
  have hg9 : w3.heap.size < w7.heap.size := HBX7.out.lt
  go_upto_block 0 with fail
  have HS8 := Lib.hid (show Box (w7.alloc (.cells #[.int .i64 0, .int .i64 0, .int .i64 0, .int .i64 0, .int .i64 0, .int .i64 0, .int .i64 0, .int .i64 0, .int .i64 0, .int .i64 0, .int .i64 0, .int .i64 0] 49)) w7.heap.size 49 (ints zeroS).toArray from Box.new w7 _ #[.int .i64 0, .int .i64 0, .int .i64 0, .int .i64 0, .int .i64 0, .int .i64 0, .int .i64 0, .int .i64 0, .int .i64 0, .int .i64 0, .int .i64 0, .int .i64 0])
  have HB8 := Lib.hid ((Below.refl w7.heap.size w7).alloc (Nat.le_refl _) (.cells #[.int .i64 0, .int .i64 0, .int .i64 0, .int .i64 0, .int .i64 0, .int .i64 0, .int .i64 0, .int .i64 0, .int .i64 0, .int .i64 0, .int .i64 0, .int .i64 0] 49))
  generalize w7.alloc (.cells #[.int .i64 0, .int .i64 0, .int .i64 0, .int .i64 0, .int .i64 0, .int .i64 0, .int .i64 0, .int .i64 0, .int .i64 0, .int .i64 0, .int .i64 0, .int .i64 0] 49) = w8 at *
  go_cut [16, 17] (fun v16 v17 wx => RunCut l o w7.heap.size w7 v16 v17 wx)
  case first =>
    clear HX HBX7 HR7 HQ
    go_wp2_with fail
    go_loopg [16, 17, 92] o.length (fun gk v16 v17 i wr => ∃ (k : Nat) (s : List Int), gk = o.length - k ∧ k ≤ o.length ∧ i = .int .i64 k ∧ v16 = .int .i64 k ∧ v17 = .int .i64 0 ∧ Box wr w7.heap.size 49 (ints s).toArray ∧ GoodS l s ∧ runS l o zeroS 0 = runS l (o.drop k) s k ∧ Below w7.heap.size w7 wr)
    case atStart => exact ⟨0, zeroS, by omega, by omega, rfl, rfl, rfl, HS8.out, GoodS.zero hl4, rfl, HB8.out⟩
    case round =>
      clear HS8 HB8
      obtain ⟨k, s, hgk, hk, rfl, rfl, rfl, hbs, hgood, hrun, hb⟩ := hrel
      have HK := Lib.hid hgk
      have HBS := Lib.hid hbs
      have HG := Lib.hid hgood
      have HRUN := Lib.hid hrun
      have HB := Lib.hid hb
      have hs : s.length = 12 := hgood.len
      have HI := Lib.hid ((H.out.below HB7.out).below hb)
      clear hgk hbs hgood hrun hb
      by_cases hlt : k < o.length
      · obtain ⟨b, oo, rfl, hbl, hcx⟩ := HI.out.row.int hlt
        have HD := Lib.hid (runS_drop (l := l) (s := s) hlt)
        obtain ⟨x, hx⟩ : ∃ x, o.getD k 0 = x := ⟨_, rfl⟩
        rw [hx] at hcx HD
        clear hx
        by_cases hbad : x < 0 ∨ (l.length : Int) ≤ x
        · have HN := Lib.hid (show runS l o zeroS 0 = none by rw [HRUN.out, HD.out, if_pos hbad])
          by_cases h0 : x < 0
          · have d0 : decide (x < 0) = true := decide_eq_true h0
            clear hbad h0
            go_wp2_with fail
            go_meet
            exact ⟨s, k, rfl, HBS.out, HG.out, HB.out, 1, rfl, .inr ⟨rfl, HN.out⟩⟩
          · have d0 : decide (x < 0) = false := decide_eq_false h0
            have d1 : decide ((l.length : Int) ≤ x) = true := decide_eq_true (by omega)
            clear hbad h0
            go_wp2_with fail
            go_meet
            exact ⟨s, k, rfl, HBS.out, HG.out, HB.out, 1, rfl, .inr ⟨rfl, HN.out⟩⟩
        · obtain ⟨who, rfl⟩ : ∃ n : Nat, x = n := ⟨x.toNat, by omega⟩
          have hwl : who < l.length := by omega
          have d0 : decide ((who : Int) < 0) = false := decide_eq_false (by omega)
          have d1 : decide ((l.length : Int) ≤ (who : Int)) = false := decide_eq_false (by omega)
          have d2 : decide (l.length ≤ who) = false := decide_eq_false (by omega)
          obtain ⟨a, hae, hal⟩ := HG.out.at' who hwl
          have HN1 := Lib.hid (show runS l o zeroS 0 = if (nextS (l.getD who []) who s a).2 = true then runS l (o.drop (k + 1)) (nextS (l.getD who []) who s a).1 (k + 1) else some (s, k) by
            rw [HRUN.out, HD.out, if_neg hbad]
            simp only [Int.toNat_natCast, hae])
          have HGN := Lib.hid (HG.out.next HRB.out hl4 hwl hae)
          have HC := Lib.hid (canR A c who a l s wr HI.out.pin hwl hl4 hs hae hal (rowBad_row HRB.out hwl))
          have HNT := Lib.hid (nextS_true (row := l.getD who []) (who := who) (a := a) (s := s))
          have HNR := Lib.hid (fun w hp h2 => nextR A c who a l s w hp hwl hl4 hs hae h2 (rowBad_row HRB.out hwl))
          have HRG := Lib.hid (range_st HBS.out)
          have HSI := Lib.hid (info_sr hs)
          generalize hnx : nextS (l.getD who []) who s a = q at *
          obtain ⟨s', ok⟩ := q
          dsimp only at HN1 HGN HC HNT
          clear hbad hnx HD hae hal
          cases ok with
          | false =>
            have HN := Lib.hid (show runS l o zeroS 0 = some (s, k) by rw [HN1.out, if_neg (by decide)])
            go_wp2_with (guard_target =~ wpList _ _ _ ({ dst := some 104, op := _, type := _, pos := _, after := _, guard := _ } :: _) _ _; refine wpList_load_mid rfl 49 (.tmp 15) rfl w7.heap.size 0 rfl (ints s) _ HRG.out Try.underlying49 rfl HSI.out ?_)
            refine HC.out.mono ?_
            rintro e w9 ⟨rfl, hb9⟩
            have HBX9 := Lib.hid (HBS.out.below hb9 HBS.out.lt)
            have HB9 := Lib.hid (HB.out.trans (hb9.mono HB.out.size))
            clear hb9
            go_wp2_with fail
            go_meet
            exact ⟨s, k, rfl, HBX9.out, HG.out, HB9.out, 0, rfl, .inl ⟨rfl, HN.out⟩⟩
          | true =>
            have HN := Lib.hid (show runS l o zeroS 0 = runS l (o.drop (k + 1)) s' (k + 1) by rw [HN1.out, if_pos rfl])
            obtain ⟨hal2, hse⟩ := HNT.out rfl
            have HSE := Lib.hid hse
            clear hse
            go_wp2_with (guard_target =~ wpList _ _ _ ({ dst := some 104, op := _, type := _, pos := _, after := _, guard := _ } :: _) _ _; refine wpList_load_mid rfl 49 (.tmp 15) rfl w7.heap.size 0 rfl (ints s) _ HRG.out Try.underlying49 rfl HSI.out ?_)
            refine HC.out.mono ?_
            rintro e w9 ⟨rfl, hb9⟩
            have HBX9 := Lib.hid (HBS.out.below hb9 HBS.out.lt)
            have HB9 := Lib.hid (HB.out.trans (hb9.mono HB.out.size))
            have HI9 := Lib.hid (HI.out.below hb9)
            have HRG9 := Lib.hid (range_st HBX9.out)
            clear hb9 HRG HBS HB HC
            have HNR9 := Lib.hid (HNR.out w9 HI9.out.pin hal2)
            rw [← HSE.out] at HNR9
            go_wp2_with (guard_target =~ wpList _ _ _ ({ dst := some 109, op := _, type := _, pos := _, after := _, guard := _ } :: _) _ _; refine wpList_load_mid rfl 49 (.tmp 15) rfl w7.heap.size 0 rfl (ints s) _ HRG9.out Try.underlying49 rfl HSI.out ?_)
            refine HNR9.out.mono ?_
            rintro e w10 ⟨rfl, hb10⟩
            have hs' : s'.length = 12 := HGN.out.len
            have HBX10 := Lib.hid (HBX9.out.below hb10 HBX9.out.lt)
            have HTH := Lib.hid (there_st (s := s') HBX10.out (by simp [ints, hs]) hs')
            have HSI2 := Lib.hid (info_sr2 hs')
            have HONE := Lib.hid (ints_one s')
            have HBX11 := Lib.hid (box_setAll HBX10.out (ints s') (by simp [ints, hs, hs']))
            have HB11 := Lib.hid (Below.setCells (g := w7.heap.size) (Nat.le_refl _) (ints s') 0 w10 (HB9.out.trans (hb10.mono HB9.out.size)))
            clear hb10 HNR9
            generalize hS : ints s' = S at *
            have HSE2 := Lib.hid hS
            clear hS
            go_wp2_with (guard_target =~ wpList _ _ _ ({ dst := none, op := _, type := _, pos := _, after := _, guard := _ } :: _) _ _; refine wpList_store_mid rfl 49 (.tmp 15) (.tmp 112) rfl w7.heap.size 0 S.toArray rfl rfl HTH.out HSI2.out HONE.out ?_)
            go_roundg (o.length - (k + 1))
            case measure => have := HK.out; omega
            case rel => exact ⟨k + 1, s', rfl, by omega, by go_num, by go_num, rfl, by rw [HSE2.out]; exact HBX11.out, HGN.out, HN.out, HB11.out⟩
      · obtain rfl : k = o.length := by omega
        have HN := Lib.hid (show runS l o zeroS 0 = some (s, o.length) by rw [HRUN.out, List.drop_length]; rfl)
        go_wp2_with fail
        go_meet
        exact ⟨s, o.length, rfl, HBS.out, HG.out, HB.out, 0, rfl, .inl ⟨rfl, HN.out⟩⟩
  case rest =>
    clear HS8 HB8
    obtain ⟨s, n, rfl, hbs, hgood, hb, cd, rfl, hcd⟩ := hcut
    have HBS := Lib.hid hbs
    have HB := Lib.hid hb
    have HCD := Lib.hid hcd
    have hs : s.length = 12 := hgood.len
    have HB9 := Lib.hid (HBX7.out.below hb hg9)
    have HBW := Lib.hid (HB7.out.trans (hb.mono HB7.out.size))
    have HR9 := Lib.hid ((HR7.out.below hb).more hb.size)
    clear hbs hgood hb hcd HBX7 HR7
    obtain ⟨wo, hwo⟩ : ∃ wo, wo = wc := ⟨_, rfl⟩
    subst hwo
    go_upto_if 117 with fail
    go_cut [] (fun wx => Below wo.heap.size wo wx)
    case first =>
      clear HX HR9 H
      rcases HCD.out with ⟨rfl, hrun⟩ | ⟨rfl, hrun⟩
      · have hqe := HQ.out
        rw [runT_some HPB.out hrun] at hqe
        injection hqe with e1 hqe
        injection hqe with e2 e3
        subst e1 e2 e3
        have HNQ := Lib.hid (fun w => neq_st w s hs)
        have HSC := Lib.hid (fun w => stateC s w hs)
        match s, hs with
        | [x0, x1, x2, x3, x4, x5, x6, x7, x8, x9, x10, x11], hs =>
          simp only [ints, List.map_cons, List.map_nil] at HBS HB9 HNQ HSC
          obtain ⟨k0, k1, k2, k3, k4, k5, k6, k7, k8, k9, k10, k11⟩ := cells12 HB9.out
          obtain ⟨m0, m1, m2, m3, m4, m5, m6, m7, m8, m9, m10, m11⟩ := cells12 HBS.out
          clear HCD HQ HPB HRB hs
          have hg3 : w3.heap.size < wo.heap.size := HB9.out.lt
          have hg7 : w7.heap.size < wo.heap.size := HBS.out.lt
          clear HBS
          go_upto_region 27 with fail
          have HSB := Lib.hid (show ∀ w', Below wo.drew.heap.size wo.drew w' → (w'.cell? ⟨w3.heap.size, 0, none⟩ = some (.int .i64 x0) ∧ w'.cell? ⟨w3.heap.size, 1, none⟩ = some (.int .i64 x1) ∧ w'.cell? ⟨w3.heap.size, 2, none⟩ = some (.int .i64 x2) ∧ w'.cell? ⟨w3.heap.size, 3, none⟩ = some (.int .i64 x3) ∧ w'.cell? ⟨w3.heap.size, 4, none⟩ = some (.int .i64 x4) ∧ w'.cell? ⟨w3.heap.size, 5, none⟩ = some (.int .i64 x5) ∧ w'.cell? ⟨w3.heap.size, 6, none⟩ = some (.int .i64 x6) ∧ w'.cell? ⟨w3.heap.size, 7, none⟩ = some (.int .i64 x7) ∧ w'.cell? ⟨w3.heap.size, 8, none⟩ = some (.int .i64 x8) ∧ w'.cell? ⟨w3.heap.size, 9, none⟩ = some (.int .i64 x9) ∧ w'.cell? ⟨w3.heap.size, 10, none⟩ = some (.int .i64 x10) ∧ w'.cell? ⟨w3.heap.size, 11, none⟩ = some (.int .i64 x11) ∧ w'.cell? ⟨w7.heap.size, 0, none⟩ = some (.int .i64 x0) ∧ w'.cell? ⟨w7.heap.size, 1, none⟩ = some (.int .i64 x1) ∧ w'.cell? ⟨w7.heap.size, 2, none⟩ = some (.int .i64 x2) ∧ w'.cell? ⟨w7.heap.size, 3, none⟩ = some (.int .i64 x3) ∧ w'.cell? ⟨w7.heap.size, 4, none⟩ = some (.int .i64 x4) ∧ w'.cell? ⟨w7.heap.size, 5, none⟩ = some (.int .i64 x5) ∧ w'.cell? ⟨w7.heap.size, 6, none⟩ = some (.int .i64 x6) ∧ w'.cell? ⟨w7.heap.size, 7, none⟩ = some (.int .i64 x7) ∧ w'.cell? ⟨w7.heap.size, 8, none⟩ = some (.int .i64 x8) ∧ w'.cell? ⟨w7.heap.size, 9, none⟩ = some (.int .i64 x9) ∧ w'.cell? ⟨w7.heap.size, 10, none⟩ = some (.int .i64 x10) ∧ w'.cell? ⟨w7.heap.size, 11, none⟩ = some (.int .i64 x11)) from fun w' hb2 => by
            have hcc : ∀ o, w'.cell? ⟨w3.heap.size, o, none⟩ = wo.cell? ⟨w3.heap.size, o, none⟩ := fun o => hb2.cell (p := ⟨w3.heap.size, o, none⟩) hg3
            have hcd : ∀ o, w'.cell? ⟨w7.heap.size, o, none⟩ = wo.cell? ⟨w7.heap.size, o, none⟩ := fun o => hb2.cell (p := ⟨w7.heap.size, o, none⟩) hg7
            simp only [hcc, hcd]
            exact ⟨k0, k1, k2, k3, k4, k5, k6, k7, k8, k9, k10, k11, m0, m1, m2, m3, m4, m5, m6, m7, m8, m9, m10, m11⟩)
          have HBD := Lib.hid (show ∀ w', Below wo.drew.heap.size wo.drew w' → Below wo.heap.size wo w' from fun w' hb2 => ⟨hb2.os, hb2.tape, hb2.output, hb2.size, hb2.block⟩)
          refine wp_region_held_drew (S := (fun w' => w'.cell? ⟨w3.heap.size, 0, none⟩ = some (.int .i64 x0) ∧ w'.cell? ⟨w3.heap.size, 1, none⟩ = some (.int .i64 x1) ∧ w'.cell? ⟨w3.heap.size, 2, none⟩ = some (.int .i64 x2) ∧ w'.cell? ⟨w3.heap.size, 3, none⟩ = some (.int .i64 x3) ∧ w'.cell? ⟨w3.heap.size, 4, none⟩ = some (.int .i64 x4) ∧ w'.cell? ⟨w3.heap.size, 5, none⟩ = some (.int .i64 x5) ∧ w'.cell? ⟨w3.heap.size, 6, none⟩ = some (.int .i64 x6) ∧ w'.cell? ⟨w3.heap.size, 7, none⟩ = some (.int .i64 x7) ∧ w'.cell? ⟨w3.heap.size, 8, none⟩ = some (.int .i64 x8) ∧ w'.cell? ⟨w3.heap.size, 9, none⟩ = some (.int .i64 x9) ∧ w'.cell? ⟨w3.heap.size, 10, none⟩ = some (.int .i64 x10) ∧ w'.cell? ⟨w3.heap.size, 11, none⟩ = some (.int .i64 x11) ∧ w'.cell? ⟨w7.heap.size, 0, none⟩ = some (.int .i64 x0) ∧ w'.cell? ⟨w7.heap.size, 1, none⟩ = some (.int .i64 x1) ∧ w'.cell? ⟨w7.heap.size, 2, none⟩ = some (.int .i64 x2) ∧ w'.cell? ⟨w7.heap.size, 3, none⟩ = some (.int .i64 x3) ∧ w'.cell? ⟨w7.heap.size, 4, none⟩ = some (.int .i64 x4) ∧ w'.cell? ⟨w7.heap.size, 5, none⟩ = some (.int .i64 x5) ∧ w'.cell? ⟨w7.heap.size, 6, none⟩ = some (.int .i64 x6) ∧ w'.cell? ⟨w7.heap.size, 7, none⟩ = some (.int .i64 x7) ∧ w'.cell? ⟨w7.heap.size, 8, none⟩ = some (.int .i64 x8) ∧ w'.cell? ⟨w7.heap.size, 9, none⟩ = some (.int .i64 x9) ∧ w'.cell? ⟨w7.heap.size, 10, none⟩ = some (.int .i64 x10) ∧ w'.cell? ⟨w7.heap.size, 11, none⟩ = some (.int .i64 x11))) (by kernel_rfl) (by exact ⟨k0, k1, k2, k3, k4, k5, k6, k7, k8, k9, k10, k11, m0, m1, m2, m3, m4, m5, m6, m7, m8, m9, m10, m11⟩) (fun hHeld => ?_)
          refine wpAnyH_take (i := 0) (v := ?_) rfl (by kernel_rfl) (by kernel_rfl) (by kernel_rfl) (fun _ _ _ h => h) (Or.inl ⟨by rfl, ?_⟩) (by assumption) ?_
          rotate_left
          · (intro w hSw; (try dsimp only at hSw); go_simp; (try with_reducible rfl))
          try simp only [List.getElem_toArray]
          try simp only [List.getElem_cons_succ]
          try simp only [List.getElem_cons_zero]
          try simp only [Act.put]
          try simp only [List.setIfInBounds_toArray]
          try simp only [List.set_cons_succ]
          try simp only [List.set_cons_zero]
          refine wpAnyH_take (i := 1) (v := ?_) rfl (by kernel_rfl) (by kernel_rfl) (by kernel_rfl) (fun _ _ _ h => h) (Or.inl ⟨by rfl, ?_⟩) (by assumption) ?_
          rotate_left
          · (intro w hSw; (try dsimp only at hSw); go_simp; (try with_reducible rfl))
          try simp only [List.getElem_toArray]
          try simp only [List.getElem_cons_succ]
          try simp only [List.getElem_cons_zero]
          try simp only [Act.put]
          try simp only [List.setIfInBounds_toArray]
          try simp only [List.set_cons_succ]
          try simp only [List.set_cons_zero]
          refine wpAnyH_take (i := 2) (v := ?_) rfl (by kernel_rfl) (by kernel_rfl) (by kernel_rfl) (fun _ _ _ h => h) (Or.inl ⟨by rfl, ?_⟩) (by assumption) ?_
          rotate_left
          · (intro w hSw; (try dsimp only at hSw); go_simp; (try with_reducible rfl))
          try simp only [List.getElem_toArray]
          try simp only [List.getElem_cons_succ]
          try simp only [List.getElem_cons_zero]
          try simp only [Act.put]
          try simp only [List.setIfInBounds_toArray]
          try simp only [List.set_cons_succ]
          try simp only [List.set_cons_zero]
          refine wpAnyH_take (i := 3) (v := ?_) rfl (by kernel_rfl) (by kernel_rfl) (by kernel_rfl) (fun _ _ _ h => h) (Or.inl ⟨by rfl, ?_⟩) (by assumption) ?_
          rotate_left
          · (intro w hSw; (try dsimp only at hSw); go_simp; (try with_reducible rfl))
          try simp only [List.getElem_toArray]
          try simp only [List.getElem_cons_succ]
          try simp only [List.getElem_cons_zero]
          try simp only [Act.put]
          try simp only [List.setIfInBounds_toArray]
          try simp only [List.set_cons_succ]
          try simp only [List.set_cons_zero]
          refine wpAnyH_take (i := 4) (v := ?_) rfl (by kernel_rfl) (by kernel_rfl) (by kernel_rfl) (fun _ _ _ h => h) (Or.inl ⟨by rfl, ?_⟩) (by assumption) ?_
          rotate_left
          · (intro w hSw; (try dsimp only at hSw); go_simp; (try with_reducible rfl))
          try simp only [List.getElem_toArray]
          try simp only [List.getElem_cons_succ]
          try simp only [List.getElem_cons_zero]
          try simp only [Act.put]
          try simp only [List.setIfInBounds_toArray]
          try simp only [List.set_cons_succ]
          try simp only [List.set_cons_zero]
          refine wpAnyH_ready (rs := [5]) (by kernel_rfl) (by simp) ?_
          refine AllReadyH.cons rfl (fun K hK => ?_) AllReadyH.nil
          go_simp
          go_at_call 26
          refine (HSC.out _).mono ?_
          rintro e w2 ⟨rfl, hb2⟩
          refine hK.out _ _ (HSB.out _ hb2) (fun hHeld => ?_)
          clear hK K
          try simp only [List.getElem_toArray]
          try simp only [List.getElem_cons_succ]
          try simp only [List.getElem_cons_zero]
          try simp only [Act.put]
          try simp only [List.setIfInBounds_toArray]
          try simp only [List.set_cons_succ]
          try simp only [List.set_cons_zero]
          refine wpAnyH_take (i := 6) (v := .bool false) rfl (by kernel_rfl) (by kernel_rfl) (by kernel_rfl) (fun _ _ _ h => h) (Or.inl ⟨by rfl, ?_⟩) (by assumption) ?_
          · (intro w _; have ha4 := arr4_same; go_simp)
          try simp only [List.getElem_toArray]
          try simp only [List.getElem_cons_succ]
          try simp only [List.getElem_cons_zero]
          try simp only [Act.put]
          try simp only [List.setIfInBounds_toArray]
          try simp only [List.set_cons_succ]
          try simp only [List.set_cons_zero]
          refine wpAnyH_take (i := 7) (v := ?_) rfl (by kernel_rfl) (by kernel_rfl) (by kernel_rfl) (fun _ _ _ h => h) (Or.inl ⟨by rfl, ?_⟩) (by assumption) ?_
          rotate_left
          · (intro w hSw; (try dsimp only at hSw); go_simp; (try with_reducible rfl))
          try simp only [List.getElem_toArray]
          try simp only [List.getElem_cons_succ]
          try simp only [List.getElem_cons_zero]
          try simp only [Act.put]
          try simp only [List.setIfInBounds_toArray]
          try simp only [List.set_cons_succ]
          try simp only [List.set_cons_zero]
          refine wpAnyH_take (i := 8) (v := ?_) rfl (by kernel_rfl) (by kernel_rfl) (by kernel_rfl) (fun _ _ _ h => h) (Or.inl ⟨by rfl, ?_⟩) (by assumption) ?_
          rotate_left
          · (intro w hSw; (try dsimp only at hSw); go_simp; (try with_reducible rfl))
          try simp only [List.getElem_toArray]
          try simp only [List.getElem_cons_succ]
          try simp only [List.getElem_cons_zero]
          try simp only [Act.put]
          try simp only [List.setIfInBounds_toArray]
          try simp only [List.set_cons_succ]
          try simp only [List.set_cons_zero]
          refine wpAnyH_take (i := 9) (v := ?_) rfl (by kernel_rfl) (by kernel_rfl) (by kernel_rfl) (fun _ _ _ h => h) (Or.inl ⟨by rfl, ?_⟩) (by assumption) ?_
          rotate_left
          · (intro w hSw; (try dsimp only at hSw); go_simp; (try with_reducible rfl))
          try simp only [List.getElem_toArray]
          try simp only [List.getElem_cons_succ]
          try simp only [List.getElem_cons_zero]
          try simp only [Act.put]
          try simp only [List.setIfInBounds_toArray]
          try simp only [List.set_cons_succ]
          try simp only [List.set_cons_zero]
          refine wpAnyH_take (i := 10) (v := ?_) rfl (by kernel_rfl) (by kernel_rfl) (by kernel_rfl) (fun _ _ _ h => h) (Or.inl ⟨by rfl, ?_⟩) (by assumption) ?_
          rotate_left
          · (intro w hSw; (try dsimp only at hSw); go_simp; (try with_reducible rfl))
          try simp only [List.getElem_toArray]
          try simp only [List.getElem_cons_succ]
          try simp only [List.getElem_cons_zero]
          try simp only [Act.put]
          try simp only [List.setIfInBounds_toArray]
          try simp only [List.set_cons_succ]
          try simp only [List.set_cons_zero]
          refine wpAnyH_take (i := 11) (v := ?_) rfl (by kernel_rfl) (by kernel_rfl) (by kernel_rfl) (fun _ _ _ h => h) (Or.inl ⟨by rfl, ?_⟩) (by assumption) ?_
          rotate_left
          · (intro w hSw; (try dsimp only at hSw); go_simp; (try with_reducible rfl))
          try simp only [List.getElem_toArray]
          try simp only [List.getElem_cons_succ]
          try simp only [List.getElem_cons_zero]
          try simp only [Act.put]
          try simp only [List.setIfInBounds_toArray]
          try simp only [List.set_cons_succ]
          try simp only [List.set_cons_zero]
          refine wpAnyH_take (i := 12) (v := ?_) rfl (by kernel_rfl) (by kernel_rfl) (by kernel_rfl) (fun _ _ _ h => h) (Or.inl ⟨by rfl, ?_⟩) (by assumption) ?_
          rotate_left
          · (intro w hSw; (try dsimp only at hSw); go_simp; (try with_reducible rfl))
          try simp only [List.getElem_toArray]
          try simp only [List.getElem_cons_succ]
          try simp only [List.getElem_cons_zero]
          try simp only [Act.put]
          try simp only [List.setIfInBounds_toArray]
          try simp only [List.set_cons_succ]
          try simp only [List.set_cons_zero]
          refine wpAnyH_done (by kernel_rfl) ?_ _
          go_wp2_with fail
          go_meet
          exact HBD.out _ hb2
      · have hqe := HQ.out
        rw [runT_none HPB.out hrun] at hqe
        injection hqe with e1 hqe
        injection hqe with e2 e3
        subst e1 e2 e3
        have hneq : ∀ w, (binOp .neq 36 (.agg #[.int .i64 0, .int .i64 0, .int .i64 0, .int .i64 0, .int .i64 0, .int .i64 0, .int .i64 0, .int .i64 0, .int .i64 0, .int .i64 0, .int .i64 0, .int .i64 0]) (.agg #[.int .i64 0, .int .i64 0, .int .i64 0, .int .i64 0, .int .i64 0, .int .i64 0, .int .i64 0, .int .i64 0, .int .i64 0, .int .i64 0, .int .i64 0, .int .i64 0])).run Try.prog w = .ok (.bool false) w := fun w => neq_st w zeroS rfl
        obtain ⟨k0, k1, k2, k3, k4, k5, k6, k7, k8, k9, k10, k11⟩ := cells12 (show Box wo w3.heap.size 36 #[.int .i64 0, .int .i64 0, .int .i64 0, .int .i64 0, .int .i64 0, .int .i64 0, .int .i64 0, .int .i64 0, .int .i64 0, .int .i64 0, .int .i64 0, .int .i64 0] from HB9.out)
        clear HCD HQ HPB HRB hrun
        go_wp2_with fail
        go_meet
        exact Below.refl _ _
    case rest =>
      clear HBS HCD HB9 HQ
      have HBV := Lib.hid (HBW.out.trans (hcut.mono HBW.out.size))
      have HRX := Lib.hid ((HR9.out.below hcut).more hcut.size)
      have HXS := Lib.hid (show stepS l o [0, 0, 0, 0] [] = (xs, xn) by have h := HX.out; rw [stepsT, if_pos HPB.out] at h; exact h)
      have HI := Lib.hid (H.out.below HBV.out)
      clear hcut HBW HR9 HX H HB7 HB
      have HA0 := Lib.hid (show Box (wc.alloc (.cells #[.int .i64 0, .int .i64 0, .int .i64 0, .int .i64 0] 34)) wc.heap.size 34 (ints [0, 0, 0, 0]).toArray from Box.new wc 34 #[.int .i64 0, .int .i64 0, .int .i64 0, .int .i64 0])
      have HB0 := Lib.hid ((Below.refl wc.heap.size wc).alloc (Nat.le_refl _) (.cells #[.int .i64 0, .int .i64 0, .int .i64 0, .int .i64 0] 34))
      obtain ⟨ga, hga⟩ : ∃ ga, ga = wc.heap.size := ⟨_, rfl⟩
      have HGA := Lib.hid hga
      go_upto_region 31 with fail
      rw [← hga] at HA0 ⊢
      clear hga
      generalize wc.alloc (.cells #[.int .i64 0, .int .i64 0, .int .i64 0, .int .i64 0] 34) = wd at *
      obtain ⟨i0, z0, hi0, hz0, hz1, hz2, hz3⟩ := pt_parts
      go_wp2_with fail
      go_loopg [21, 145] o.length (fun gk v i wr => ∃ (k : Nat) (s : List Int) (acc : List (Int × Int × Int)) (Aq : Option Addr) (cq : Nat), gk = o.length - k ∧ k ≤ o.length ∧ i = .int .i64 k ∧ v = .slice Aq acc.length cq ∧ Box wr ga 34 (ints s).toArray ∧ GoodA l s ∧ acc.length ≤ k ∧ OwnAt wr wc.heap.size 61 3 Aq acc.length cq (flat ptC acc) ∧ (xs, xn) = stepS l (o.drop k) s acc ∧ Below wc.heap.size wc wr)
      case atStart => exact ⟨0, [0, 0, 0, 0], [], none, 0, by omega, by omega, rfl, rfl, HA0.out, GoodA.zero hl4, by simp, OwnAt.nil, HXS.out.symm, HB0.out⟩
      case round =>
        clear HA0 HB0
        obtain ⟨k, s, acc, Aq, cq, hgk, hk, rfl, rfl, hba, hgood, hac, hown, hrun, hb⟩ := hrel
        have HK := Lib.hid hgk
        have HBA := Lib.hid hba
        have HG := Lib.hid hgood
        have HO := Lib.hid hown
        have HRUN := Lib.hid hrun
        have HB := Lib.hid hb
        have hs : s.length = 4 := hgood.len
        clear hgk hba hgood hown hrun
        by_cases hlt : k < o.length
        · obtain ⟨b, oo, rfl, hbl, hcx⟩ := ((HI.out.below hb).row).int hlt
          have HD := Lib.hid (stepS_drop (l := l) (at' := s) (acc := acc) hlt)
          obtain ⟨x, hx⟩ : ∃ x, o.getD k 0 = x := ⟨_, rfl⟩
          rw [hx] at hcx HD
          clear hx
          by_cases hbad : x < 0 ∨ (l.length : Int) ≤ x
          · have hN : (xs, xn) = ([], 1) := by rw [HRUN.out, HD.out, if_pos hbad]
            clear hb
            injection hN with hn1 hn2
            subst hn1 hn2
            by_cases h0 : x < 0
            · have d0 : decide (x < 0) = true := decide_eq_true h0
              clear hbad h0
              go_wp2_with fail
              go_ret
              exact ⟨rfl, HBV.out.trans (HB.out.mono HBV.out.size)⟩
            · have d0 : decide (x < 0) = false := decide_eq_false h0
              have d1 : decide ((l.length : Int) ≤ x) = true := decide_eq_true (by omega)
              clear hbad h0
              go_wp2_with fail
              go_ret
              exact ⟨rfl, HBV.out.trans (HB.out.mono HBV.out.size)⟩
          · obtain ⟨who, rfl⟩ : ∃ n : Nat, x = n := ⟨x.toNat, by omega⟩
            have hwl : who < l.length := by omega
            have hw4 : who < 4 := by omega
            have hw4i : (who : Int) < 4 := by omega
            have d0 : decide ((who : Int) < 0) = false := decide_eq_false (by omega)
            have d1 : decide ((l.length : Int) ≤ (who : Int)) = false := decide_eq_false (by omega)
            have d2 : decide (l.length ≤ who) = false := decide_eq_false (by omega)
            obtain ⟨a, hae, hal⟩ := HG.out.at' who hwl
            have HN1 := Lib.hid (show (xs, xn) = if (a : Int) = ((l.getD who []).length : Int) then ([], 8) else stepS l (o.drop (k + 1)) (s.set who ((a : Int) + 1)) (acc ++ [stepOf ((l.getD who []).getD a (0, 0, 0)) who]) by
              rw [HRUN.out, HD.out, if_neg hbad]
              simp only [Int.toNat_natCast, hae])
            obtain ⟨b3, o3, B3, dd, rfl, hbl3, hcell0, hrow, hd1, hd2, hd3⟩ := HI.out.pin.each who hwl
            have hcell := (hb.cell (p := ⟨b3, o3 + who, none⟩) hbl3).trans hcell0
            have HROW := Lib.hid hrow
            have HC0 := Lib.hid hcell0
            have HAE := Lib.hid hae
            have hca := box_at HBA.out (i := who) (by omega)
            rw [hae] at hca
            have HGN := Lib.hid (fun h => HG.out.next (a := a) hl4 hae hwl h)
            have hv0 := rowBad_row HRB.out hwl
            obtain ⟨row, hrw⟩ : ∃ row, l.getD who [] = row := ⟨_, rfl⟩
            rw [hrw] at hcell HROW HN1 hd1 hal hv0 HGN HC0
            have hmr : row.length ≤ 9223372036854775807 := by unfold maxLen at hd2; omega
            clear hbad HD hae hrow hrw hd3 hcell0
            by_cases hend : a = row.length
            · have q1' : ((a : Int) == (row.length : Int)) = true := by simp [hend]
              have q2' : (a == row.length) = true := by simp [hend]
              have hN : (xs, xn) = ([], 8) := by rw [HN1.out, if_pos (by omega)]
              injection hN with hn1 hn2
              subst hn1 hn2
              clear hend hb
              go_upto_region 36 with fail
              go_quiet (fail)
              go_wp2_with fail
              go_ret
              exact ⟨rfl, below_drewN (HBV.out.trans (HB.out.mono HBV.out.size)) _⟩
            have q1' : ((a : Int) == (row.length : Int)) = false := by simp; omega
            have q2' : (a == row.length) = false := by simpa using hend
            have hal2 : a < row.length := by omega
            have HN0 := Lib.hid (show (xs, xn) = stepS l (o.drop (k + 1)) (s.set who ((a : Int) + 1)) (acc ++ [stepOf (row.getD a (0, 0, 0)) who]) by rw [HN1.out, if_neg (by omega)])
            have HGN2 := Lib.hid (HGN.out hal2)
            obtain ⟨b2, o2, rfl, hb2, hc0, hc1, hc2⟩ := (Row.rd HROW.out (i := a) (by omega) (0, 0, 0))
            have hv2 := rowBad_ok hv0 hal2
            generalize row.getD a (0, 0, 0) = y at *
            obtain ⟨yk, yc, yb⟩ := y
            obtain ⟨⟨hk1, hk2⟩, ⟨hcl, hch⟩, _⟩ := doBad_ok hv2
            obtain ⟨n, rfl⟩ : ∃ n : Nat, yc = n := ⟨yc.toNat, by omega⟩
            dsimp only at hc0 hc1 hc2
            have hn4 : n < 4 := by omega
            have HSTEP0 := Lib.hid (fun w => stepR yk yb n who w hn4 ⟨hk1, hk2⟩)
            generalize stepOf (yk, (n : Int), yb) who = st at *
            obtain ⟨p0, p1, p2⟩ := st
            have HSTEP := Lib.hid (show ∀ w, Calls Try.prog 28 #[.agg #[.int .i64 yk, .int .i64 n, .int .i64 yb], .int .i64 who] w fun e w' => e = .returned (.agg #[.int .i64 p0, .int .i64 p1, .int .i64 p2]) ∧ Below w.heap.size w w' from HSTEP0.out)
            have HN := HN0
            have HSB := Lib.hid (show ∀ w', Below wc.heap.size wc w' → Box w' ga 34 (ints s).toArray → (w'.cell? ⟨b3, o3 + who, none⟩ = some (.slice (some ⟨b2, o2, none⟩) row.length dd) ∧ w'.cell? ⟨ga, who, none⟩ = some (.int .i64 a) ∧ w'.cell? ⟨b2, o2 + a * 3, none⟩ = some (.int .i64 yk) ∧ w'.cell? ⟨b2, o2 + a * 3 + 1, none⟩ = some (.int .i64 n) ∧ w'.cell? ⟨b2, o2 + a * 3 + 2, none⟩ = some (.int .i64 yb)) from fun w' hw hbx => by
              have h2 := box_at hbx (i := who) (by omega)
              rw [HAE.out] at h2
              exact ⟨(hw.cell (p := ⟨b3, o3 + who, none⟩) hbl3).trans HC0.out, h2, (hw.cell (p := ⟨b2, _, none⟩) hb2).trans hc0, (hw.cell (p := ⟨b2, _, none⟩) hb2).trans hc1, (hw.cell (p := ⟨b2, _, none⟩) hb2).trans hc2⟩)
            clear hend hv2 hv0 HN1 HGN HSTEP0 HN0 hb
            go_upto_region 36 with fail
            go_quiet (fail)
            have HB0 := Lib.hid (below_drewN HB.out nq)
            have HBA0 := Lib.hid (HBA.out.drewN nq)
            have HO0 := Lib.hid (HO.out.drewN nq)
            clear HB HBA HO hcell hca hcx hbl hbl3 hc0 hc1 hc2 hb2 HC0 HROW
            generalize wr.drewN nq = w0 at *
            go_upto_region 38 with fail
            have HDR := Lib.hid (show ∀ wa, Below w0.drew.heap.size w0.drew wa → Below wc.heap.size wc wa ∧ Box wa ga 34 (ints s).toArray ∧ OwnAt wa wc.heap.size 61 3 Aq acc.length cq (flat ptC acc) from fun wa h =>
              ⟨(below_drewN HB0.out 1).trans (h.mono HB0.out.size), HBA0.out.drew.below h HBA0.out.lt, HO0.out.drew.below h⟩)
            have HNX := Lib.hid (show ∀ wa wb, (Below wc.heap.size wc wa ∧ Box wa ga 34 (ints s).toArray ∧ OwnAt wa wc.heap.size 61 3 Aq acc.length cq (flat ptC acc)) → Below (wa.alloc (.cells #[.int .i64 p0, .int .i64 p1, .int .i64 p2] 56)).heap.size (wa.alloc (.cells #[.int .i64 p0, .int .i64 p1, .int .i64 p2] 56)) wb → Below wc.heap.size wc wb ∧ Box wb ga 34 (ints s).toArray ∧ OwnAt wb wc.heap.size 61 3 Aq acc.length cq (flat ptC acc) from fun wa wb hw h =>
              ⟨(hw.1.alloc hw.1.size _).trans (h.mono (hw.1.alloc hw.1.size _).size), (hw.2.1.alloc _).below h (hw.2.1.alloc _).lt, (hw.2.2.alloc _).below h⟩)
            have HAP := Lib.hid (show ∀ wb g7 o7 c7 w7, (Below wc.heap.size wc wb ∧ Box wb ga 34 (ints s).toArray ∧ OwnAt wb wc.heap.size 61 3 Aq acc.length cq (flat ptC acc)) → OwnAt w7 wc.heap.size 61 3 (some ⟨g7, o7, none⟩) (acc.length + 1) c7 (flat ptC acc ++ ptC (p0, p1, p2)) → wb.grownBy w7 (Aq.map (·.block)) → Below wc.heap.size wc w7 ∧ Box w7 ga 34 (ints s).toArray ∧ OwnAt w7 wc.heap.size 61 3 (some ⟨g7, o7, none⟩) (acc.length + 1) c7 (flat ptC (acc ++ [(p0, p1, p2)])) from fun wb g7 o7 c7 w7 hw h1 h2 =>
              ⟨hw.1.grown h2 hw.1.size (fun q hq => own_at_ge hw.2.2 hq), hw.2.1.grown h2 (fun e => own_at_map hw.2.2 hw.2.1 (by decide) e.symm), by rw [flat_append, flat_one]; exact h1⟩)
            have HMX := Lib.hid (show acc.length + 1 ≤ maxLen by unfold maxLen; omega)
            have HBY := Lib.hid (show (acc.length + 1) * 24 ≤ 140737488355328 by omega)
            refine wp_region_held_drew (S := (fun w' => w'.cell? ⟨b3, o3 + who, none⟩ = some (.slice (some ⟨b2, o2, none⟩) row.length dd) ∧ w'.cell? ⟨ga, who, none⟩ = some (.int .i64 a) ∧ w'.cell? ⟨b2, o2 + a * 3, none⟩ = some (.int .i64 yk) ∧ w'.cell? ⟨b2, o2 + a * 3 + 1, none⟩ = some (.int .i64 n) ∧ w'.cell? ⟨b2, o2 + a * 3 + 2, none⟩ = some (.int .i64 yb))) (by kernel_rfl) (by exact HSB.out _ (below_drewN HB0.out 1) HBA0.out.drew) (fun hHeld => ?_)
            refine wpAnyH_take (i := 0) (v := ?_) rfl (by kernel_rfl) (by kernel_rfl) (by kernel_rfl) (fun _ _ _ h => h) (Or.inl ⟨by rfl, ?_⟩) (by assumption) ?_
            rotate_left
            · (intro w hSw; (try dsimp only at hSw); go_simp; (try with_reducible rfl))
            try simp only [List.getElem_toArray]
            try simp only [List.getElem_cons_succ]
            try simp only [List.getElem_cons_zero]
            try simp only [Act.put]
            try simp only [List.setIfInBounds_toArray]
            try simp only [List.set_cons_succ]
            try simp only [List.set_cons_zero]
            refine wpAnyH_take (i := 1) (v := ?_) rfl (by kernel_rfl) (by kernel_rfl) (by kernel_rfl) (fun _ _ _ h => h) (Or.inl ⟨by rfl, ?_⟩) (by assumption) ?_
            rotate_left
            · (intro w hSw; (try dsimp only at hSw); go_simp; (try with_reducible rfl))
            try simp only [List.getElem_toArray]
            try simp only [List.getElem_cons_succ]
            try simp only [List.getElem_cons_zero]
            try simp only [Act.put]
            try simp only [List.setIfInBounds_toArray]
            try simp only [List.set_cons_succ]
            try simp only [List.set_cons_zero]
            refine wpAnyH_take (i := 2) (v := ?_) rfl (by kernel_rfl) (by kernel_rfl) (by kernel_rfl) (fun _ _ _ h => h) (Or.inl ⟨by rfl, ?_⟩) (by assumption) ?_
            rotate_left
            · (intro w hSw; (try dsimp only at hSw); go_simp; (try with_reducible rfl))
            try simp only [List.getElem_toArray]
            try simp only [List.getElem_cons_succ]
            try simp only [List.getElem_cons_zero]
            try simp only [Act.put]
            try simp only [List.setIfInBounds_toArray]
            try simp only [List.set_cons_succ]
            try simp only [List.set_cons_zero]
            refine wpAnyH_take (i := 3) (v := ?_) rfl (by kernel_rfl) (by kernel_rfl) (by kernel_rfl) (fun _ _ _ h => h) (Or.inl ⟨by rfl, ?_⟩) (by assumption) ?_
            rotate_left
            · (intro w hSw; (try dsimp only at hSw); go_simp; (try with_reducible rfl))
            try simp only [List.getElem_toArray]
            try simp only [List.getElem_cons_succ]
            try simp only [List.getElem_cons_zero]
            try simp only [Act.put]
            try simp only [List.setIfInBounds_toArray]
            try simp only [List.set_cons_succ]
            try simp only [List.set_cons_zero]
            refine wpAnyH_take (i := 4) (v := ?_) rfl (by kernel_rfl) (by kernel_rfl) (by kernel_rfl) (fun _ _ _ h => h) (Or.inl ⟨by rfl, ?_⟩) (by assumption) ?_
            rotate_left
            · (intro w hSw; (try dsimp only at hSw); go_simp; (try with_reducible rfl))
            try simp only [List.getElem_toArray]
            try simp only [List.getElem_cons_succ]
            try simp only [List.getElem_cons_zero]
            try simp only [Act.put]
            try simp only [List.setIfInBounds_toArray]
            try simp only [List.set_cons_succ]
            try simp only [List.set_cons_zero]
            refine wpAnyH_take (i := 5) (v := ?_) rfl (by kernel_rfl) (by kernel_rfl) (by kernel_rfl) (fun _ _ _ h => h) (Or.inl ⟨by rfl, ?_⟩) (by assumption) ?_
            rotate_left
            · (intro w hSw; (try dsimp only at hSw); go_simp; (try with_reducible rfl))
            try simp only [List.getElem_toArray]
            try simp only [List.getElem_cons_succ]
            try simp only [List.getElem_cons_zero]
            try simp only [Act.put]
            try simp only [List.setIfInBounds_toArray]
            try simp only [List.set_cons_succ]
            try simp only [List.set_cons_zero]
            refine wpAnyH_take (i := 6) (v := ?_) rfl (by kernel_rfl) (by kernel_rfl) (by kernel_rfl) (fun _ _ _ h => h) (Or.inl ⟨by rfl, ?_⟩) (by assumption) ?_
            rotate_left
            · (intro w hSw; (try dsimp only at hSw); go_simp; (try with_reducible rfl))
            try simp only [List.getElem_toArray]
            try simp only [List.getElem_cons_succ]
            try simp only [List.getElem_cons_zero]
            try simp only [Act.put]
            try simp only [List.setIfInBounds_toArray]
            try simp only [List.set_cons_succ]
            try simp only [List.set_cons_zero]
            refine wpAnyH_take (i := 7) (v := ?_) rfl (by kernel_rfl) (by kernel_rfl) (by kernel_rfl) (fun _ _ _ h => h) (Or.inl ⟨by rfl, ?_⟩) (by assumption) ?_
            rotate_left
            · (intro w hSw; (try dsimp only at hSw); go_simp; (try with_reducible rfl))
            try simp only [List.getElem_toArray]
            try simp only [List.getElem_cons_succ]
            try simp only [List.getElem_cons_zero]
            try simp only [Act.put]
            try simp only [List.setIfInBounds_toArray]
            try simp only [List.set_cons_succ]
            try simp only [List.set_cons_zero]
            refine wpAnyH_take (i := 8) (v := ?_) rfl (by kernel_rfl) (by kernel_rfl) (by kernel_rfl) (fun _ _ _ h => h) (Or.inl ⟨by rfl, ?_⟩) (by assumption) ?_
            rotate_left
            · (intro w hSw; (try dsimp only at hSw); go_simp; (try with_reducible rfl))
            try simp only [List.getElem_toArray]
            try simp only [List.getElem_cons_succ]
            try simp only [List.getElem_cons_zero]
            try simp only [Act.put]
            try simp only [List.setIfInBounds_toArray]
            try simp only [List.set_cons_succ]
            try simp only [List.set_cons_zero]
            refine wpAnyH_take (i := 9) (v := ?_) rfl (by kernel_rfl) (by kernel_rfl) (by kernel_rfl) (fun _ _ _ h => h) (Or.inl ⟨by rfl, ?_⟩) (by assumption) ?_
            rotate_left
            · (intro w hSw; (try dsimp only at hSw); go_simp; (try with_reducible rfl))
            try simp only [List.getElem_toArray]
            try simp only [List.getElem_cons_succ]
            try simp only [List.getElem_cons_zero]
            try simp only [Act.put]
            try simp only [List.setIfInBounds_toArray]
            try simp only [List.set_cons_succ]
            try simp only [List.set_cons_zero]
            refine wpAnyH_take (i := 10) (v := ?_) rfl (by kernel_rfl) (by kernel_rfl) (by kernel_rfl) (fun _ _ _ h => h) (Or.inl ⟨by rfl, ?_⟩) (by assumption) ?_
            rotate_left
            · (intro w hSw; (try dsimp only at hSw); go_simp; (try with_reducible rfl))
            try simp only [List.getElem_toArray]
            try simp only [List.getElem_cons_succ]
            try simp only [List.getElem_cons_zero]
            try simp only [Act.put]
            try simp only [List.setIfInBounds_toArray]
            try simp only [List.set_cons_succ]
            try simp only [List.set_cons_zero]
            refine wpAnyH_ready (rs := [11]) (by kernel_rfl) (by simp) ?_
            refine AllReadyH.cons rfl (fun K hK => ?_) AllReadyH.nil
            go_simp
            go_at_call 28
            refine (HSTEP.out _).mono ?_
            rintro e wa ⟨rfl, hba⟩
            have HWA := HDR.out wa hba
            clear hba
            refine hK.out _ _ (HSB.out _ HWA.1 HWA.2.1) (fun hHeld => ?_)
            clear hK K
            try simp only [List.getElem_toArray]
            try simp only [List.getElem_cons_succ]
            try simp only [List.getElem_cons_zero]
            try simp only [Act.put]
            try simp only [List.setIfInBounds_toArray]
            try simp only [List.set_cons_succ]
            try simp only [List.set_cons_zero]
            refine wpAnyH_ready (rs := [12]) (by kernel_rfl) (by simp) ?_
            refine AllReadyH.cons rfl (fun K hK => ?_) AllReadyH.nil
            go_simp
            refine hK.out _ _ ?_ (fun hHeld => ?_)
            · exact HSB.out _ (HWA.1.alloc HWA.1.size _) (HWA.2.1.alloc _)
            clear hK K
            try simp only [List.getElem_toArray]
            try simp only [List.getElem_cons_succ]
            try simp only [List.getElem_cons_zero]
            try simp only [Act.put]
            try simp only [List.setIfInBounds_toArray]
            try simp only [List.set_cons_succ]
            try simp only [List.set_cons_zero]
            refine wpAnyH_ready (rs := [13]) (by kernel_rfl) (by simp) ?_
            refine AllReadyH.cons rfl (fun K hK => ?_) AllReadyH.nil
            go_simp
            go_at_call 27
            refine (stepsC (some ⟨wa.heap.size, 0, none⟩) 1 [(p0, p1, p2)] _ (pt_row wa p0 p1 p2) (by simp)).mono ?_
            rintro e wb ⟨v, rfl, hownb, hbb⟩
            obtain ⟨A6, c6, rfl, hownc⟩ := OwnAt.of_own hownb
            obtain ⟨g6, o6, rfl, _⟩ := hownc.some_of (by simp)
            have HWB := HNX.out wa wb HWA hbb
            clear hownb hbb HWA
            refine hK.out _ _ (HSB.out _ HWB.1 HWB.2.1) (fun hHeld => ?_)
            clear hK K
            try simp only [List.getElem_toArray]
            try simp only [List.getElem_cons_succ]
            try simp only [List.getElem_cons_zero]
            try simp only [Act.put]
            try simp only [List.setIfInBounds_toArray]
            try simp only [List.set_cons_succ]
            try simp only [List.set_cons_zero]
            refine wpAnyH_ready (rs := [14]) (by kernel_rfl) (by simp) ?_
            refine AllReadyH.cons rfl (fun K hK => ?_) AllReadyH.nil
            refine step_append_q rfl (.tmp 180) (.tmp 193) 44 rfl wc.heap.size 61 i0 z0 3 24 Try.underlying44 hi0 hz0 hz1 hz2 hz3 (by decide) Aq acc.length cq (flat ptC acc) rfl HWB.2.2 ⟨g6, o6, none⟩ 1 c6 (ptC (p0, p1, p2)) rfl rfl (own_cells hownc) (pt_one _) HMX.out HBY.out HWB.1.size (by decide) ?_
            intro g7 o7 c7 w7' h71 h72 h73
            have HW7 := HAP.out wb g7 o7 c7 w7' HWB h71 h72
            refine hK.out _ _ (HSB.out _ HW7.1 HW7.2.1) (fun hHeld => ?_)
            clear hK K
            try simp only [List.getElem_toArray]
            try simp only [List.getElem_cons_succ]
            try simp only [List.getElem_cons_zero]
            try simp only [Act.put]
            try simp only [List.setIfInBounds_toArray]
            try simp only [List.set_cons_succ]
            try simp only [List.set_cons_zero]
            refine wpAnyH_take (i := 15) (v := ?_) rfl (by kernel_rfl) (by kernel_rfl) (by kernel_rfl) (fun _ _ _ h => h) (Or.inl ⟨by rfl, ?_⟩) (by assumption) ?_
            rotate_left
            · (intro w hSw; (try dsimp only at hSw); go_simp; (try with_reducible rfl))
            try simp only [List.getElem_toArray]
            try simp only [List.getElem_cons_succ]
            try simp only [List.getElem_cons_zero]
            try simp only [Act.put]
            try simp only [List.setIfInBounds_toArray]
            try simp only [List.set_cons_succ]
            try simp only [List.set_cons_zero]
            refine wpAnyH_done (by kernel_rfl) ?_ _
            have HBA7 := Lib.hid HW7.2.1
            have hb7 := HW7.1
            have ho7 := HW7.2.2
            clear HWB HW7 h71 h72 h73 hownc
            have hca7 := box_at HBA7.out (i := who) (by omega)
            rw [HAE.out] at hca7
            have fa7 := HBA7.out.frozen who
            have HBA8 := Lib.hid (box_put HBA7.out who ((a : Int) + 1))
            have HB8 := Lib.hid (hb7.setCell (p := ⟨ga, who, none⟩) (Nat.le_of_eq HGA.out.symm) (.int .i64 ((a : Int) + 1)))
            have HO8 := Lib.hid (ho7.far (p := ⟨ga, who, none⟩) (fun g o e => by injection e with e; injection e with e1 e2; subst e1; exact own_at_ne ho7 HBA7.out (by decide)) (.int .i64 ((a : Int) + 1)))
            clear hb7 ho7
            go_wp2_with fail
            go_roundg (o.length - (k + 1))
            case measure => have := HK.out; omega
            case rel => exact ⟨k + 1, _, acc ++ [(p0, p1, p2)], some ⟨g7, o7, none⟩, c7, rfl, by omega, by go_num, by rw [List.length_append]; rfl, HBA8.out, HGN2.out, by simp; omega, by simpa using HO8.out, HN.out, HB8.out⟩
        · obtain rfl : k = o.length := by omega
          have hN : (xs, xn) = (acc, 0) := by rw [HRUN.out, List.drop_length]; rfl
          injection hN with hn1 hn2
          subst hn1 hn2
          have HE := Lib.hid (equal_pt A5 Aq c5 cq xs xs _ _ wr (HRX.out.below hb) HO.out.row (by unfold maxLen; omega) (by unfold maxLen; omega))
          rw [show decide (xs = xs) = true from decide_eq_true rfl] at HE
          clear hb
          go_wp2_with fail
          refine HE.out.mono ?_
          rintro e wz ⟨rfl, nz, rfl⟩
          go_wp2_with fail
          go_ret
          exact ⟨rfl, below_drewN (HBV.out.trans (HB.out.mono HBV.out.size)) _⟩
end Go.Proofs.Ytcmkkfpcdebfkaa
