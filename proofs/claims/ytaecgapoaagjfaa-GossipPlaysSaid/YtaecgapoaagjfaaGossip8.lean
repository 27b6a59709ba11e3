/-
  Whether a gossip tells what the reference tells; the law's small functions.
-/
import Derived.Test.YtaecgapoaagjfaaGossip7
namespace Go.Proofs.Ytaecgapoaagjfaa
open Go.RowKit

set_option maxHeartbeats 400000 in
theorem at_any (A : Option Addr) (n c : Nat) (xs : List Int) (i : Int) (B : Nat) (w : World) (h : Row w B A (ints xs)) (hn : xs.length = n) (hm : n ≤ maxLen) (hi : 0 ≤ i) :
    Calls Try.prog 33 #[.slice A n c, .int .i64 i] w fun e w' => e = .returned (.int .i64 (xs.getD i.toNat 0)) ∧ w = w' := by
  obtain ⟨k, rfl⟩ := Int.eq_ofNat_of_zero_le hi
  rw [Int.toNat_natCast]
  subst hn
  unfold maxLen at hm
  by_cases hk : k < xs.length
  · obtain ⟨b, o, rfl, _, hc⟩ := h.int hk
    generalize xs.getD k 0 = z at *
    go_enter Try.func33, Try.ntmps33
    go_wp2
    go_ret
    exact ⟨rfl, rfl⟩
  · have hz : xs.getD k 0 = 0 := by simp [List.getD_eq_getElem?_getD, List.getElem?_eq_none (show xs.length ≤ k by omega)]
    rw [hz]
    clear hz
    go_enter Try.func33, Try.ntmps33
    go_wp2
    go_ret
    exact ⟨rfl, rfl⟩


/-- One row appended, in a region that draws its order. -/
theorem step_push_gr {ops : Array Oper} {o : Oper} {a : Act} {w : World} {K : Act → World → Prop} {Q : Exit → Act → World → Prop} {E : Prop} (hgd : o.guard = none) (s x : Operand)
    (ho : o.op = .call { callee := .builtin .append, args := #[s, x], argTypes := #[52, 52] })
    (base : Nat) (A : Option Addr) (c n : Nat) (zs : List RowT) (hn : zs.length = n) (hs : a.eval s = .slice A n c) (hown : OwnAt w base 54 3 A n c (flat grC zs)) (g : Nat) (y : RowT) (hx : a.eval x = .slice (some ⟨g, 0, none⟩) 1 1) (hy : ∀ j u, (grC y)[j]? = some u → w.cell? ⟨g, j, none⟩ = some u)
    (hb : (n + 1) * 24 ≤ 140737488355328) (hbase : base ≤ w.heap.size)
    (h : ∀ A' c' w', OwnAt w' base 54 3 A' (n + 1) c' (flat grC (zs ++ [y])) → Below base w w' → K (a.put o.dst (.slice A' (n + 1) c')) w') :
    if Region.wanted o (yielded ops a.tmps) = true then Oper.wp Try.prog o a w K Q else E := by
  obtain ⟨i0, z0, hi0, hz0, hz1, hz2, hz3⟩ := gr_parts
  refine step_append_q hgd s x _ ho base 54 i0 z0 3 24 Try.underlying52 hi0 hz0 hz1 hz2 hz3 (by decide) A n c (flat grC zs) hs hown ⟨g, 0, none⟩ 1 1 (grC y) hx rfl ?_ (gr_one y) (by unfold maxLen; omega) hb hbase (by decide) ?_
  · intro j u hu
    rw [addr_add, Nat.zero_add]
    exact hy j u hu
  · intro g' o' c' w' h1 h2 h3
    refine h _ c' w' (by rw [flat_append, flat_one]; exact h1) ?_
    refine (Below.refl base w).grown h2 hbase fun k hk => ?_
    rcases hown.form with ⟨rfl, _⟩ | ⟨g1, o1, rfl⟩
    · cases hk
    · simp at hk; subst hk; exact hown.lt.1
theorem gr_new1 (w : World) (y : RowT) (j : Nat) (u : Value) (h : (grC y)[j]? = some u) :
    (w.alloc (.cells #[.int .i64 y.1, .int .i64 y.2.1, .int .i64 y.2.2] 54)).cell? ⟨w.heap.size, j, none⟩ = some u := by
  rw [(Box.new w 54 #[.int .i64 y.1, .int .i64 y.2.1, .int .i64 y.2.2]).cell j, ← h]
  simp [grC]

set_option maxRecDepth 100000 in
set_option maxHeartbeats 4000000 in
theorem gossipTells_any (g m me : Nat) (ticks last last' : Int) (P : Nat → Option Nat) (G : GS) (V W : Nat → Int) (w : World) (hx : GossipAt w g me ticks last G V) (hm : RefAt w m me ticks last' P G W) (h0 : G.K 0 = false) :
    Calls Try.prog 40 #[.pointer (some ⟨g, 0, none⟩), .pointer (some ⟨m, 0, none⟩)] w fun e w' => e = .returned (.bool true) ∧ Below w.heap.size w w' := by
  have HX := Lib.hid hx
  have HM := Lib.hid hm
  have H0 := Lib.hid h0
  clear hx hm h0
  go_enter Try.func40, Try.ntmps40
  go_wp2_with fail
  go_loopg [5, 10] 10 (fun gk ov i wr => ∃ (k j : Nat) (Ao : Option Addr) (co : Nat), gk = 10 - k ∧ k ≤ 10 ∧ i = .int .i64 k ∧ j = (if k ≤ 9 then k else 9) ∧ ov = .slice Ao (rowsOf G j).length co ∧ OwnAt wr w.heap.size 54 3 Ao (rowsOf G j).length co (flat grC (rowsOf G j)) ∧ Below w.heap.size w wr)
  case atStart => exact ⟨0, 0, none, 0, by omega, by omega, rfl, by simp, rfl, OwnAt.nil, Below.refl _ _⟩
  case round =>
    obtain ⟨k, j, Ao, co, hgk, hk, rfl, hj, rfl, hown, hb⟩ := hrel
    have HK := Lib.hid hgk
    have HJ := Lib.hid hj
    have HOW := Lib.hid hown
    clear hgk hj hown
    by_cases hlt : k < 10
    · have hjk : j = k := by rw [HJ.out, if_pos (by omega)]
      subst hjk
      have hx := HX.out.below hb
      have hmm := HM.out.below hb
      have HSY := Lib.hid (says_g g me ticks last G V j wr hx)
      by_cases h9 : j = 9
      · have hkn : kn G j = false := by unfold kn isN; rw [show decide (1 ≤ (j : Int) ∧ (j : Int) ≤ 8) = false by simp; omega]; rfl
        rw [hkn] at HSY
        have d8 : decide ((8 : Int) < (j : Int)) = true := by simp; omega
        have d8' : decide (8 < j) = true := by simp; omega
        simp only [Bool.false_eq_true, if_false] at HSY
        have H9 := Lib.hid h9
        clear hkn h9
        go_wp2_with fail
        refine HSY.out.mono ?_
        rintro e w' ⟨rfl, rfl⟩
        go_wp2_with fail
        go_roundg (10 - (j + 1))
        case measure => have := HK.out; omega
        case rel => exact ⟨j + 1, j, Ao, co, rfl, by omega, by go_num, by have := H9.out; split <;> omega, rfl, HOW.out, hb⟩
      · have hj9 : j < 9 := by omega
        have hp := hmm.p j hj9
        have hKj := hmm.k j hj9
        have hRj := hmm.r j hj9
        have d8 : decide ((8 : Int) < (j : Int)) = false := by simp; omega
        have d8' : decide (8 < j) = false := by simp; omega
        have hj1 : (j : Int) < 9 := by omega
        have HRO := Lib.hid (show rowsOf G (j + 1) = rowsOf G j ++ (if G.K j then [((j : Int), G.T j, G.S j)] else []) from rfl)
        have hlen := rowsOf_len G j
        have hbs := hb.size
        have HBE := Lib.hid hb
        have hbk : ((rowsOf G j).length + 1) * 24 ≤ 140737488355328 := by omega
        cases hPj : P j with
        | none =>
          rw [hPj] at hp hKj
          simp only [Option.map_none] at hp
          have hkn : kn G j = false := by unfold kn; rw [Int.toNat_natCast, hKj]; simp
          rw [hkn] at HSY
          rw [hKj] at HRO
          simp only [Option.isSome_none, Bool.false_eq_true, if_false, List.append_nil] at HRO HSY
          clear hkn hKj hRj hPj h9 hlen
          go_wp2_with fail
          refine HSY.out.mono ?_
          rintro e w' ⟨rfl, rfl⟩
          go_wp2_with fail
          go_roundg (10 - (j + 1))
          case measure => have := HK.out; omega
          case rel => exact ⟨j + 1, j + 1, Ao, co, rfl, by omega, by go_num, by split <;> omega, by rw [HRO.out], by rw [HRO.out]; exact HOW.out, hb⟩
        | some b =>
          rw [hPj] at hp hKj
          simp only [Option.map_some] at hp
          simp only [Option.isSome_some] at hKj
          have hj0 : 1 ≤ j := by
            rcases Nat.eq_zero_or_pos j with rfl | h
            · rw [H0.out] at hKj; cases hKj
            · exact h
          have hkn : kn G j = true := by unfold kn isN; rw [Int.toNat_natCast, hKj, show decide (1 ≤ (j : Int) ∧ (j : Int) ≤ 8) = true by simp; omega]; rfl
          rw [hkn] at HSY
          rw [hKj] at HRO
          simp only [if_true, Int.toNat_natCast] at HRO HSY
          have hB := hRj b hPj
          have b1 := hB.cell 1
          have b2 := hB.cell 2
          simp only [List.getElem?_toArray, List.getElem?_cons_zero, List.getElem?_cons_succ] at b1 b2
          have hbw : b < w.heap.size := (HM.out.r j hj9 b hPj).lt
          have q1 := (HM.out.r j hj9 b hPj).cell 1
          have q2 := (HM.out.r j hj9 b hPj).cell 2
          simp only [List.getElem?_toArray, List.getElem?_cons_zero, List.getElem?_cons_succ] at q1 q2
          have HSK := Lib.hid (show ∀ w', Below w.heap.size w w' → Below w.heap.size w w' ∧ w'.cell? ⟨b, 1, none⟩ = some (.int .i64 (G.T j)) ∧ w'.cell? ⟨b, 2, none⟩ = some (.int .i64 (G.S j)) from fun w' h => ⟨h, (h.cell (p := ⟨b, 1, none⟩) hbw).trans q1, (h.cell (p := ⟨b, 2, none⟩) hbw).trans q2⟩)
          clear q1 q2
          generalize G.T j = Tj at *
          generalize G.S j = Sj at *
          clear hkn hKj hRj hPj h9 hlen hB
          go_wp2_with fail
          refine HSY.out.mono ?_
          rintro e w' ⟨rfl, rfl⟩
          go_wp2_with fail
          have HOW2 := Lib.hid (HOW.out.below (below_drewN ((Below.refl wr.heap.size wr).alloc (Nat.le_refl _) (.cells #[.int .i64 (j : Int), .int .i64 Tj, .int .i64 Sj] 54)) 1))
          have HSZ := Lib.hid hbs
          go_region_held3 (fun w' => Below w.heap.size w w' ∧ w'.cell? ⟨b, 1, none⟩ = some (.int .i64 Tj) ∧ w'.cell? ⟨b, 2, none⟩ = some (.int .i64 Sj))
            ((first
              | exact HSK.out _ (below_drewN HBE.out 1)
              | exact HSK.out _ (below_drewN (HBE.out.alloc HSZ.out _) 1)
              | exact HSK.out _ hbk5
              | go_keep))
            ((refine step_push_gr rfl (.tmp 52) (.tmp 63) rfl w.heap.size Ao co (rowsOf G j).length (rowsOf G j) rfl rfl HOW2.out wr.heap.size ((j : Int), Tj, Sj) rfl (gr_new1 wr ((j : Int), Tj, Sj)) hbk (show Below w.heap.size w _ ∧ _ by assumption).1.size ?_; intro A' c' w5 hown5 hb5; have hbk5 := (show Below w.heap.size w _ ∧ _ by assumption).1.trans hb5))
          have HO5 := Lib.hid hown5
          have HB5 := Lib.hid hbk5
          clear hown5 hbk5 hb5
          go_wp2_with fail
          go_roundg (10 - (j + 1))
          case measure => have := HK.out; omega
          case rel => exact ⟨j + 1, j + 1, A', c', rfl, by omega, by go_num, by split <;> omega, by rw [HRO.out]; simp, by rw [HRO.out]; simpa using HO5.out, HB5.out⟩
    · have hk10 : k = 10 := by omega
      have hj9 : j = 9 := by rw [HJ.out, hk10]; rfl
      subst hj9
      have HST := Lib.hid (state_g g me ticks last G V wr (HX.out.below hb) H0.out)
      have hlen := rowsOf_len G 9
      generalize rowsOf G 9 = R at *
      clear HJ hk10
      go_wp2_with fail
      refine HST.out.mono ?_
      rintro e w2 ⟨v2, rfl, hown2, hb2⟩
      obtain ⟨A2, c2, rfl, hr2, _⟩ := row_of_own_any hown2
      have HEQ := Lib.hid (equal_gr A2 Ao c2 co R R _ _ w2 hr2 (OwnAt.row (HOW.out.below hb2)) (by unfold maxLen; omega) (by unfold maxLen; omega))
      have HB2 := Lib.hid (hb.trans (hb2.mono hb.size))
      clear hown2 hb2 hr2 HST
      go_wp2_with fail
      refine HEQ.out.mono ?_
      rintro e w3 ⟨rfl, nn, rfl⟩
      simp only [decide_true]
      go_wp2_with fail
      go_ret
      exact ⟨rfl, below_drewN HB2.out _⟩

set_option maxRecDepth 100000 in
theorem pick_any (A : Option Addr) (c n : Nat) (i : Int) (w : World) (hn : n ≤ maxLen) (R : Value → Prop) (h0 : R (.slice none 0 0)) (h : 0 < n → ∃ b o, A = some ⟨b, o, none⟩ ∧ ∀ k, k < n → ∃ v, w.cell? ⟨b, o + k, none⟩ = some v ∧ R v) :
    Calls Try.prog 34 #[.slice A n c, .int .i64 i] w fun e w' => ∃ v, e = .returned v ∧ R v ∧ w = w' := by
  unfold maxLen at hn
  have HR0 := Lib.hid h0
  by_cases hz : n = 0
  · subst hz
    clear h h0
    go_enter Try.func34, Try.ntmps34
    go_wp2_with fail
    go_ret
    exact ⟨_, rfl, HR0.out, rfl⟩
  · obtain ⟨b, o, rfl, hk⟩ := h (by omega)
    have HKK := Lib.hid hk
    have bn : ((n : Int) == 0) = false := by simp; omega
    have bn' : (n == 0) = false := by simp; omega
    have hw0 : 0 ≤ IntKind.u64.wrap i := by
      simp only [IntKind.wrap, IntKind.signed, IntKind.bits]
      simp
      omega
    have hnp : (0 : Int) < (n : Int) := by omega
    obtain ⟨k, hke⟩ := Int.eq_ofNat_of_zero_le (show 0 ≤ (IntKind.u64.wrap i).tmod (n : Int) from Int.tmod_nonneg _ hw0)
    have hlt : (k : Int) < (n : Int) := by rw [← hke]; exact Int.tmod_lt_of_pos _ hnp
    have hlt' : k < n := by omega
    obtain ⟨v, hv, hRv⟩ := HKK.out k hlt'
    have HRV := Lib.hid hRv
    clear h h0 hk hRv HKK hw0
    go_enter Try.func34, Try.ntmps34
    go_wp2_with fail
    go_ret
    exact ⟨_, rfl, HRV.out, rfl⟩
end Go.Proofs.Ytaecgapoaagjfaa
