
/-
  roadref3.Matches, whatever it is handed.
-/
import Derived.Test.YtdjahlkjfpbifaaPk3
namespace Go.Proofs.Ytdjahlkjfpbifaa
open Go.RowKit Go.Maps

theorem names_keepS {w w' : World} {base g N : Nat} {S S' : Nat → Prop} {A : Option Addr} {c : Nat} {l : List VC} {vs : List Val} (h : NamesAt w base g S N A c l vs) (hS' : ∀ b, S' b → b < base) (ho : Only (fun b => b = g ∨ A.map (·.block) = some b) w w') : ∀ q : Addr, S' q.block ∧ q.block < w.heap.size → w'.cell? q = w.cell? q :=
  fun q hq => only_cell ho hq.2 fun e => by
    have h2 := hS' _ hq.1
    rcases e with e | e
    · have := h.le; omega
    · have := (h.made.lt_block e).1; omega
theorem lit_post {w wm : World} {base g N : Nat} {S : Nat → Prop} {A : Option Addr} {c : Nat} {l : List VC} {vs : List Val} (h : NamesAt w base g S N A c l vs) (hb : Below w.heap.size w wm) (q : Bool) : MatchPost w A base g N S vs (if q = true then some [] else none) (.returned (.bool q)) wm := by
  refine ⟨q, A, c, l, vs, rfl, by cases q <;> rfl, h.below hb, fun xs e => ?_, Only.of_below hb, fun b hb => .inl hb⟩
  cases q
  · cases e
  · injection e with e
    subst e
    simp
def kindP (k : Int) : Int := if k = 6 then 5 else if k = 5 then 4 else if k = 4 then 3 else if k = 3 then 2 else 0

set_option maxRecDepth 100000 in
set_option maxHeartbeats 4000000 in
theorem matches_any : ∀ n, MatchesAt n
  | 0 => fun _ _ _ _ _ _ _ _ _ _ _ _ _ _ _ h => h.elim
  | n + 1 => by
    intro x y p v w base g N M Sp Sv A c l vs hx hy hSp hSv hbase hN hnm hM hM2
    by_cases h2 : p.kind = 2
    · have hr : bindN (n + 1) p v = some [v] := by unfold bindN; rw [if_neg (by omega), if_pos h2]
      rw [hr]
      exact matches_name n x y p v w base g N M Sp Sv A c l vs hx hy hSv hbase hN hnm hM hM2 h2
    have hx := hx.lt
    have hy := hy.lt
    obtain ⟨k1, m1, t1, A1, len1, cap1⟩ := x
    obtain ⟨k2, m2, t2, A2, len2, cap2⟩ := y
    obtain ⟨l1, rfl, hr1⟩ := row_of_VIn hx
    obtain ⟨l2, rfl, hr2⟩ := row_of_VIn hy
    have ek1 : k1 = p.kind := hx.1.1
    have em1 : m1 = p.num := hx.1.2.1
    have et1 : t1 = p.text := hx.1.2.2.1
    have ek2 : k2 = v.kind := hy.1.1
    have em2 : m2 = v.num := hy.1.2.1
    have et2 : t2 = v.text := hy.1.2.2.1
    have HI64 := Lib.hid (show I64 k1 from hx.1.2.2.2.2.2.1)
    have HNM := Lib.hid hnm
    have HIH := Lib.hid (matches_any n)
    have HR1 := Lib.hid hr1
    have HR2 := Lib.hid hr2
    have HSP := Lib.hid hSp
    have HSV := Lib.hid hSv
    have hcm1 := hr1.2.2.2.2.1
    have hlc1 := hr1.2.2.2.1
    have HL1 := Lib.hid hr1.1
    have HL2 := Lib.hid hr2.1
    unfold maxLen at hcm1
    have hps := size_pos p
    have hgl := hnm.box.lt
    have b2 : (k1 == 2) = false := by simp [ek1, h2]
    have HE := Lib.hid (show k1 = p.kind ∧ m1 = p.num ∧ t1 = p.text ∧ k2 = v.kind ∧ m2 = v.num ∧ t2 = v.text from ⟨ek1, em1, et1, ek2, em2, et2⟩)
    clear hx hy hnm hr1 hr2 hSp hSv ek1 em1 et1 ek2 em2 et2
    obtain ⟨R, hR⟩ : ∃ R, bindN (n + 1) p v = R := ⟨_, rfl⟩
    rw [hR]
    unfold bindN at hR
    rw [if_neg h2] at hR
    have HR := Lib.hid hR
    clear hR h2
    unfold valV at *
    go_enter Try.func17, Try.ntmps17
    go_upto_region 3 with fail
    have hb1 : Below w.heap.size w ((w.alloc (.cells #[.int .i64 k1, .int .i64 m1, .string t1, .slice A1 l1.length cap1] 32)).alloc (.cells #[.int .i64 k2, .int .i64 m2, .string t2, .slice A2 l2.length cap2] 28)) := ((Below.refl _ _).alloc (Nat.le_refl _) _).alloc (by simp) _
    have hbx0 := (Box.new w 32 #[.int .i64 k1, .int .i64 m1, .string t1, .slice A1 l1.length cap1]).alloc (.cells #[.int .i64 k2, .int .i64 m2, .string t2, .slice A2 l2.length cap2] 28)
    have hbx1 := Box.new (w.alloc (.cells #[.int .i64 k1, .int .i64 m1, .string t1, .slice A1 l1.length cap1] 32)) 28 #[.int .i64 k2, .int .i64 m2, .string t2, .slice A2 l2.length cap2]
    rw [show (w.alloc (.cells #[.int .i64 k1, .int .i64 m1, .string t1, .slice A1 l1.length cap1] 32)).heap.size = w.heap.size + 1 by simp] at hbx1
    generalize (w.alloc (.cells #[.int .i64 k1, .int .i64 m1, .string t1, .slice A1 l1.length cap1] 32)).alloc (.cells #[.int .i64 k2, .int .i64 m2, .string t2, .slice A2 l2.length cap2] 28) = w5 at *
    obtain ⟨m1', m2', m3', m4, z1, z2, z3, z4, hb4, hlk⟩ := map4 w5 3 2 4 3 5 4 6 5 (by unfold I64; omega) (by unfold I64; omega) (by unfold I64; omega) (by unfold I64; omega)
    have hlk2 := hlk k1 HI64.out
    have hmm := @run_makeMap_plain Try.prog
    have HX := Lib.hid (hbx0.below hb4 hbx0.lt)
    have HY := Lib.hid (hbx1.below hb4 hbx1.lt)
    have hv5 : w.heap.size + 1 < w5.heap.size := hbx1.lt
    have hsz4 : w.heap.size + 2 ≤ m4.heap.size := by have := hb4.size; omega
    have HB := Lib.hid (hb1.trans (hb4.mono (by omega)))
    obtain ⟨u0, u1, u2, u3, _⟩ := own_cells4 HX.out
    have hki : (if k1 = 6 then (5 : Int) else if k1 = 5 then 4 else if k1 = 4 then 3 else if k1 = 3 then 2 else 0) = kindP k1 := rfl
    rw [hki] at hlk2
    obtain ⟨ki, hkk⟩ : ∃ ki, kindP k1 = ki := ⟨_, rfl⟩
    rw [hkk] at hlk2
    have HKI := Lib.hid hkk
    clear hlk hb4 hb1 hbx0 hbx1 hki hkk
    go_upto_region 4 with fail
    clear z1 z2 z3 z4 hlk2 hmm hv5
    obtain ⟨v0, v1, v2, v3, _⟩ := own_cells4 HY.out
    have HP := Lib.hid (fun q => lit_post HNM.out HB.out q)
    by_cases h1 : k1 = 1
    · have hR := HR.out
      rw [if_pos (by rw [← HE.out.1]; exact h1)] at hR
      subst hR
      have b1 : (k1 == 1) = true := by simp [h1]
      clear HKI h1
      go_wp2_with fail
      go_ret
      exact HP.out true
    have b1 : (k1 == 1) = false := by simp [h1]
    have hR := HR.out
    rw [if_neg (by rw [← HE.out.1]; exact h1)] at hR
    have HR := Lib.hid hR
    clear hR h1
    have hlit : ∀ q, litF p v = q → k1 ≠ 6 → R = if q = true then some [] else none := fun q hq hk => by
      rw [← HR.out, if_neg (by rw [← HE.out.1]; exact hk), hq]
    by_cases h3 : k1 = 3
    · have hki : ki = 2 := by rw [← HKI.out, h3]; rfl
      have b3 : (k1 == 3) = true := by simp [h3]
      have hl := hlit ((k2 == 2) && (m2 == m1)) (by unfold litF; rw [if_pos (by rw [← HE.out.1]; exact h3), HE.out.2.1, HE.out.2.2.2.1, HE.out.2.2.2.2.1]) (by omega)
      subst hki
      clear hlit
      obtain ⟨Q, hQ⟩ : ∃ Q, ((k2 == 2) && (m2 == m1)) = Q := ⟨_, rfl⟩
      rw [hQ] at hl
      clear HKI h3
      cases Q with
      | true =>
        obtain ⟨hq, hq2⟩ := (Bool.and_eq_true _ _).mp hQ
        rw [if_pos rfl] at hl
        subst hl
        clear hQ
        go_wp2_with fail
        go_ret
        exact HP.out true
      | false =>
        rw [if_neg (by decide)] at hl
        subst hl
        cases hq : (k2 == 2)
        · clear hQ
          go_wp2_with fail
          go_ret
          exact HP.out false
        · have hq2 : (m2 == m1) = false := by rw [hq, Bool.true_and] at hQ; exact hQ
          clear hQ
          go_wp2_with fail
          go_ret
          exact HP.out false
    have b3 : (k1 == 3) = false := by simp [h3]
    by_cases h4 : k1 = 4
    · have hki : ki = 3 := by rw [← HKI.out, h4]; rfl
      have b4 : (k1 == 4) = true := by simp [h4]
      have hl := hlit ((k2 == 3) && (m2 == m1)) (by unfold litF; rw [if_neg (by rw [← HE.out.1]; exact h3), if_pos (by rw [← HE.out.1]; exact h4), HE.out.2.1, HE.out.2.2.2.1, HE.out.2.2.2.2.1]) (by omega)
      subst hki
      clear hlit
      obtain ⟨Q, hQ⟩ : ∃ Q, ((k2 == 3) && (m2 == m1)) = Q := ⟨_, rfl⟩
      rw [hQ] at hl
      clear HKI h4 h3
      cases Q with
      | true =>
        obtain ⟨hq, hq2⟩ := (Bool.and_eq_true _ _).mp hQ
        rw [if_pos rfl] at hl
        subst hl
        clear hQ
        go_wp2_with fail
        go_ret
        exact HP.out true
      | false =>
        rw [if_neg (by decide)] at hl
        subst hl
        cases hq : (k2 == 3)
        · clear hQ
          go_wp2_with fail
          go_ret
          exact HP.out false
        · have hq2 : (m2 == m1) = false := by rw [hq, Bool.true_and] at hQ; exact hQ
          clear hQ
          go_wp2_with fail
          go_ret
          exact HP.out false
    have b4 : (k1 == 4) = false := by simp [h4]
    by_cases h5 : k1 = 5
    · have hki : ki = 4 := by rw [← HKI.out, h5]; rfl
      have b5 : (k1 == 5) = true := by simp [h5]
      have hl := hlit ((k2 == 4) && (t2.toList == t1.toList)) (by unfold litF; rw [if_neg (by rw [← HE.out.1]; exact h3), if_neg (by rw [← HE.out.1]; exact h4), if_pos (by rw [← HE.out.1]; exact h5), HE.out.2.2.1, HE.out.2.2.2.1, HE.out.2.2.2.2.2]) (by omega)
      subst hki
      clear hlit
      obtain ⟨Q, hQ⟩ : ∃ Q, ((k2 == 4) && (t2.toList == t1.toList)) = Q := ⟨_, rfl⟩
      rw [hQ] at hl
      clear HKI h5 h3 h4
      cases Q with
      | true =>
        obtain ⟨hq, hq2⟩ := (Bool.and_eq_true _ _).mp hQ
        rw [if_pos rfl] at hl
        subst hl
        clear hQ
        go_wp2_with fail
        go_ret
        exact HP.out true
      | false =>
        rw [if_neg (by decide)] at hl
        subst hl
        cases hq : (k2 == 4)
        · clear hQ
          go_wp2_with fail
          go_ret
          exact HP.out false
        · have hq2 : (t2.toList == t1.toList) = false := by rw [hq, Bool.true_and] at hQ; exact hQ
          clear hQ
          go_wp2_with fail
          go_ret
          exact HP.out false
    have b5 : (k1 == 5) = false := by simp [h5]
    by_cases h6 : k1 = 6
    case neg =>
      have b6 : (k1 == 6) = false := by simp [h6]
      have hl := hlit false (by unfold litF; rw [if_neg (by rw [← HE.out.1]; exact h3), if_neg (by rw [← HE.out.1]; exact h4), if_neg (by rw [← HE.out.1]; exact h5)]) h6
      clear hlit
      subst hl
      clear HKI h6 h3 h4 h5
      go_wp2_with fail
      go_ret
      exact HP.out false
    have b6 : (k1 == 6) = true := by simp [h6]
    have hki : ki = 5 := by rw [← HKI.out, h6]; rfl
    subst hki
    have hmkF : mkF p v = ((k2 == 5) && (t2.toList == t1.toList) && (l2.length == l1.length)) := by
      unfold mkF
      rw [← HE.out.2.2.1, ← HE.out.2.2.2.1, ← HE.out.2.2.2.2.2, ← HL1.out, ← HL2.out]
    have hR := HR.out
    rw [if_pos (by rw [← HE.out.1]; exact h6), hmkF] at hR
    have HR := Lib.hid hR
    clear hR h6 h5 h4 h3 hlit HKI hmkF HE HP
    generalize hQ : ((k2 == 5) && (t2.toList == t1.toList) && (l2.length == l1.length)) = Q at *
    have HQ := Lib.hid hQ
    clear hQ
    go_upto_region 14 with fail
    go_cut [8] from 61 to 80 (fun q wx => q = .bool Q ∧ m4 = wx)
    case first =>
      cases hq : (k2 == 5) with
      | false =>
        have hQ : Q = false := by rw [← HQ.out, hq]; rfl
        subst hQ
        go_wp2_with fail
        go_meet
        exact ⟨rfl, rfl⟩
      | true =>
        cases hq2 : (t2.toList == t1.toList) with
        | false =>
          have hQ : Q = false := by rw [← HQ.out, hq, hq2]; rfl
          subst hQ
          go_wp2_with fail
          go_meet
          exact ⟨rfl, rfl⟩
        | true =>
          have hbl : ((l2.length : Int) == (l1.length : Int)) = Q := by
            rw [← HQ.out, hq, hq2, Bool.true_and, Bool.true_and, Bool.eq_iff_iff, beq_iff_eq, beq_iff_eq]
            omega
          have hbl2 : (l2.length == l1.length) = Q := by
            rw [← HQ.out, hq, hq2]
            simp
          go_wp2_with fail
          go_meet
          exact ⟨by simp, rfl⟩
    case rest =>
    obtain ⟨rfl, rfl⟩ := hcut
    have HQL := Lib.hid (show Q = true → l2.length = l1.length from fun h => by
      have := HQ.out
      rw [h] at this
      simp at this
      omega)
    clear u0 u1 u2 u3 v0 v1 v2 v3
    have HON0 := Lib.hid (show Only (fun b => b = g ∨ A.map (·.block) = some b) w m4 from Only.of_below HB.out)
    have HNM0 := Lib.hid (HNM.out.below HB.out)
    go_wp2_with fail
    go_loopg [8, 9] l1.length (fun gk qv iv wr => ∃ (k : Nat) (q : Bool) (Ak : Option Addr) (ck : Nat) (lk : List VC) (vk : List Val), gk = l1.length - k ∧ k ≤ l1.length ∧ iv = .int .i64 k ∧ qv = .bool q ∧ NamesAt wr base g Sv N Ak ck lk vk ∧ (q = false → R = none) ∧ (q = true → Q = true ∧ ∃ xs, bindL (bindN n) p.args v.args k = some xs ∧ vk = vs ++ xs) ∧ (∀ b, Ak.map (·.block) = some b → A.map (·.block) = some b ∨ w.heap.size + 2 ≤ b) ∧
      Box wr w.heap.size 32 #[.int .i64 k1, .int .i64 m1, .string t1, .slice A1 l1.length cap1] ∧ Box wr (w.heap.size + 1) 28 #[.int .i64 k2, .int .i64 m2, .string t2, .slice A2 l2.length cap2] ∧ Only (fun b => b = g ∨ A.map (·.block) = some b) w wr ∧ w.heap.size + 2 ≤ wr.heap.size)
    case atStart => exact ⟨0, Q, A, c, l, vs, by omega, by omega, rfl, rfl, HNM0.out, (fun h => by rw [← HR.out, h]; rfl), (fun h => ⟨h, [], rfl, by simp⟩), fun b hb => .inl hb, HX.out, HY.out, HON0.out, hsz4⟩
    case round =>
      obtain ⟨k, q, Ak, ck, lk, vk, hgk, hk, rfl, rfl, hnk, hqf, hqt, hAk, B1, B2, hon, hsz⟩ := hrel
      have HG := Lib.hid hgk
      have HNK := Lib.hid hnk
      have HQF := Lib.hid hqf
      have HQT := Lib.hid hqt
      have HAK := Lib.hid hAk
      have HON := Lib.hid hon
      clear hgk hnk hqf hqt hAk hon HX HY HNM0 HON0
      obtain ⟨u0, u1, u2, u3, _⟩ := own_cells4 B1
      obtain ⟨v0, v1, v2, v3, _⟩ := own_cells4 B2
      have HAF := Lib.hid (show ∀ b, Ak.map (·.block) = some b → A.map (·.block) = some b ∨ w.heap.size ≤ b from fun b hb => (HAK.out b hb).imp_right fun h => by omega)
      cases q with
      | false =>
        have HRN := Lib.hid (HQF.out rfl)
        go_wp2_with fail
        go_ret
        exact ⟨false, Ak, ck, lk, vk, rfl, by rw [HRN.out]; rfl, HNK.out, (fun xs h => by rw [HRN.out] at h; cases h), HON.out, HAF.out⟩
      | true =>
        obtain ⟨hQt, xs, hxs, rfl⟩ := HQT.out rfl
        have HXS := Lib.hid hxs
        clear hxs
        have HLL := Lib.hid (HQL.out hQt)
        by_cases hlt : k < l1.length
        · have hrw1 := HR1.out.keep (names_keepS HNM.out HSP.out HON.out) (fun _ h => h)
          have hrw2 := HR2.out.keep (names_keepS HNM.out HSV.out HON.out) (fun _ h => h)
          have HV1 := Lib.hid (hrw1.2.2.1 k hlt)
          have hlt3 : k < l2.length := by have := HLL.out; omega
          have HV2 := Lib.hid (hrw2.2.2.1 k hlt3)
          have HKP := Lib.hid (show k < p.args.length by rw [← HL1.out]; exact hlt)
          have HRM := Lib.hid (bind_room HKP.out HXS.out)
          have HLK := Lib.hid (show lk.length = l.length + xs.length by rw [HNK.out.made.1, List.length_append, HNM.out.made.1])
          have HSOME := Lib.hid (fun ys => bindL_some (ys := ys) HXS.out)
          have HSTOP := Lib.hid (show bindN n (p.args.getD k val0) (v.args.getD k val0) = none → R = none from fun h => by rw [← HR.out, if_pos hQt]; exact bindL_stop h p.args.length HKP.out)
          obtain ⟨p1, o1, rfl, _, hc0, hc1, hc2, hc3⟩ := hrw1.2.1.all.val hlt vc0
          obtain ⟨p2, o2, rfl, hp2, hd0, hd1, hd2, hd3⟩ := hrw2.2.1.all.val hlt3 vc0
          clear hrw1 hrw2
          generalize l1.getD k vc0 = x at *
          generalize l2.getD k vc0 = y at *
          generalize p.args.getD k val0 = p' at *
          generalize v.args.getD k val0 = v' at *
          have hlt2 : (k : Int) < (l2.length : Int) := by omega
          have HT := Lib.hid (HIH.out x y p' v' wr.drew base g N M Sp Sv Ak ck lk (vs ++ xs) (HV1.out.keep (fun _ _ => rfl) fun _ hb => hb.1).drew (HV2.out.keep (fun _ _ => rfl) fun _ hb => hb.1).drew HSP.out HSV.out (by simp; omega) (by omega) (HNK.out.below (below_drewN (Below.refl _ _) 1)) (by have := HRM.out; have := HLK.out; omega) hM2)
          unfold MatchPost valV at HT
          have HQT2 := Lib.hid hQt
          clear hQt HV1 HV2
          go_upto_region 18 with fail
          go_region_law ((go_simp; go_at_call 17; refine HT.out.mono ?_; rintro e w2 ⟨q, A', c', l', vk, rfl, hq, hn2, hv2, ho2, hA2⟩))
          all_goals (
            have HON2 := Lib.hid (only_after HON.out ((Only.refl _ wr).drew.trans ho2) fun b hb => by
              rcases hb with h | h
              · exact .inl (.inl h)
              · rcases HAK.out b h with h | h
                · exact .inl (.inr h)
                · right; omega)
            have HB12 := Lib.hid (ho2.box B1.drew fun e => by
              rcases e with e | e
              · omega
              · rcases HAK.out _ e with h | h
                · have := (HNM.out.made.lt_block h).2; omega
                · omega)
            have HB22 := Lib.hid (ho2.box B2.drew fun e => by
              rcases e with e | e
              · omega
              · rcases HAK.out _ e with h | h
                · have := (HNM.out.made.lt_block h).2; omega
                · omega)
            have hsz2 : w.heap.size + 2 ≤ w2.heap.size := Nat.le_trans hsz ho2.size
            have HN2 := Lib.hid hn2
            have HV2 := Lib.hid hv2
            have HA2 := Lib.hid (show ∀ b, A'.map (·.block) = some b → A.map (·.block) = some b ∨ w.heap.size + 2 ≤ b from fun b hb => by
              rcases hA2 b hb with h | h
              · exact HAK.out b h
              · right
                have : wr.heap.size ≤ b := h
                omega)
            clear hn2 hq hv2 ho2 hA2 B1 B2 u0 u1 u2 u3 v0 v1 v2 v3
            simp only [List.getElem_toArray, List.getElem_cons_succ, List.getElem_cons_zero]
            go_frame
            go_wp2_with fail
            go_roundg (l1.length - (k + 1))
            case measure => have := HG.out; omega
            case rel =>
              refine ⟨k + 1, (bindN n p' v').isSome, A', c', l', vk, rfl, by omega, by go_num, rfl, HN2.out, (fun h => HSTOP.out ?_), (fun h => ?_), HA2.out, HB12.out, HB22.out, HON2.out, hsz2⟩
              · exact Option.not_isSome_iff_eq_none.mp (by rw [h]; decide)
              · obtain ⟨ys, hys⟩ := Option.isSome_iff_exists.mp h
                exact ⟨HQT2.out, xs ++ ys, HSOME.out ys hys, by rw [HV2.out ys hys, List.append_assoc]⟩)
        · obtain rfl : k = l1.length := by omega
          have HRS := Lib.hid (show R = some xs by
            rw [← HR.out, if_pos hQt, ← HL1.out]
            exact HXS.out)
          clear hQt
          go_wp2_with fail
          go_ret
          exact ⟨true, Ak, ck, lk, vs ++ xs, rfl, by rw [HRS.out]; rfl, HNK.out, (fun ys h => by rw [HRS.out] at h; injection h with h; rw [h]), HON.out, HAF.out⟩
end Go.Proofs.Ytdjahlkjfpbifaa
