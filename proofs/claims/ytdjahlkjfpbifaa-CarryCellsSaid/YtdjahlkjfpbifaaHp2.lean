
/-
  The words of an object (heap.words).
-/
import Derived.Test.YtdjahlkjfpbifaaHp1
import Derived.Laws.BitsAllLaws
import Derived.Laws.IdiomStrings
import Derived.Deep.DeepCutAuto
import Derived.Deep.CutBlock
namespace Go.Proofs.Ytdjahlkjfpbifaa
open Go.RowKit

/-- Words of the call's own. -/
abbrev UOwn (w : World) (base : Nat) (v : Value) (zs : List Nat) : Prop := w.ownsRow base 90 1 v zs.length (flat huC zs)
theorem UOwn.one {w : World} {base : Nat} (h : base ≤ w.heap.size) (n : Nat) : UOwn (w.alloc (.cells #[.int .u64 (n : Int)] 90)) base (.slice (some ⟨w.heap.size, 0, none⟩) 1 1) [n] :=
  World.ownsRow_lit w #[.int .u64 (n : Int)] 1 h (by decide) rfl
theorem hu_new1 (w : World) (n : Nat) : ∀ j u, (huC n)[j]? = some u → (w.alloc (.cells #[.int .u64 (n : Int)] 90)).cell? ⟨w.heap.size, j, none⟩ = some u := by
  intro j u hu
  match j, hu with
  | 0, hu =>
    injection hu with hu
    subst hu
    exact (Box.new w 90 #[.int .u64 (n : Int)]).cell 0
theorem UOwn.far {w : World} {base g : Nat} {v : Value} {zs : List Nat} (h : UOwn w base v zs) (hg : g < base) : some g ≠ v.ownBlock := fun e => by
  have := (World.ownsRow.lt h g e.symm).1
  omega
theorem UOwn.form {w : World} {base : Nat} {v : Value} {zs : List Nat} (h : UOwn w base v zs) (hn : 0 < zs.length) : ∃ g c, v = .slice (some ⟨g, 0, none⟩) zs.length c ∧ base ≤ g := by
  rcases h.2 with ⟨_, h0⟩ | ⟨g, cap, cur, hv, hb, hg, _⟩
  · omega
  · exact ⟨g, cap, hv, hb⟩
theorem UOwn.lower {w : World} {base base' : Nat} {v : Value} {zs : List Nat} (h : UOwn w base v zs) (hb : base' ≤ base) : UOwn w base' v zs := by
  refine ⟨h.1, ?_⟩
  rcases h.2 with h0 | ⟨g, cap, cur, hv, hg, r⟩
  · exact .inl h0
  · exact .inr ⟨g, cap, cur, hv, Nat.le_trans hb hg, r⟩
/-- One word appended inside a region that draws. -/
theorem step_push_hu {w : World} {ops : Array Oper} {o : Oper} {a : Act} {K : Act → World → Prop} {Q : Exit → Act → World → Prop} {E : Prop} (hgd : o.guard = none) (s x : Operand)
    (ho : o.op = .call { callee := .builtin .append, args := #[s, x], argTypes := #[88, 88] })
    (base : Nat) (v : Value) (zs : List Nat) (hs : a.eval s = v) (hown : UOwn w base v zs) (g : Nat) (y : Nat) (hx : a.eval x = .slice (some ⟨g, 0, none⟩) 1 1) (hy : ∀ j u, (huC y)[j]? = some u → w.cell? ⟨g, j, none⟩ = some u)
    (hb : (zs.length + 1) * 8 ≤ 140737488355328) (hbase : base ≤ w.heap.size)
    (h : ∀ v' w', UOwn w' base v' (zs ++ [y]) → w.grownBy w' v.ownBlock → K (a.put o.dst v') w') :
    if Region.wanted o (yielded ops a.tmps) = true then Oper.wp Try.prog o a w K Q else E := by
  have hw : Region.wanted o (yielded ops a.tmps) = true := by simp [Region.wanted, hgd]
  rw [if_pos hw]
  obtain ⟨i0, z0, hi0, hz0, hz1, hz2, hz3⟩ := hu_parts
  refine wp_append_own w s x _ ho base 90 i0 z0 1 8 Try.underlying88 hi0 hz0 hz1 hz2 hz3 (by decide) v zs.length (flat huC zs) hs hown ⟨g, 0, none⟩ 1 1 (huC y) hx rfl ?_ (hu_one y) (by unfold maxLen; omega) hb hbase ?_
  · intro j u hu
    rw [addr_add, Nat.zero_add]
    exact hy j u hu
  · intro v' w' h1 h2 _
    refine h v' w' ?_ h2
    unfold UOwn
    rw [List.length_append, flat_append, flat_one]
    exact h1
theorem flat_last (Z : List Nat) (l : Nat) : (flat huC (Z ++ [l]))[Z.length]? = some (.int .u64 (l : Int)) := by
  rw [flat_append, List.getElem?_append_right (by rw [flat_len huC_len]; omega), flat_len huC_len, Nat.mul_one, Nat.sub_self]
  rfl
theorem flat_set_last (Z : List Nat) (l m : Nat) : (flat huC (Z ++ [l])).set Z.length (.int .u64 (m : Int)) = flat huC (Z ++ [m]) := by
  rw [flat_append, flat_append, List.set_append_right _ _ (by rw [flat_len huC_len]; omega), flat_len huC_len, Nat.mul_one, Nat.sub_self]
  rfl
theorem UOwn.cast {w : World} {base : Nat} {v : Value} {a b : List Nat} (h : UOwn w base v a) (e : a = b) : UOwn w base v b := e ▸ h

/-- An object's block. -/
abbrev ObBox (w : World) (g : Nat) (o1 k o3 : Int) (tx : List UInt8) (A : Option Addr) (n c : Nat) : Prop := Box w g 113 #[.int .i64 o1, .int .i64 k, .int .i64 o3, .string ⟨tx.toArray⟩, .slice A n c]
theorem ObBox.cells {w : World} {g : Nat} {o1 k o3 : Int} {tx : List UInt8} {A : Option Addr} {n c : Nat} (h : ObBox w g o1 k o3 tx A n c) :
    w.cell? ⟨g, 0, none⟩ = some (.int .i64 o1) ∧ w.cell? ⟨g, 1, none⟩ = some (.int .i64 k) ∧ w.cell? ⟨g, 2, none⟩ = some (.int .i64 o3) ∧ w.cell? ⟨g, 3, none⟩ = some (.string ⟨tx.toArray⟩) ∧ w.cell? ⟨g, 4, none⟩ = some (.slice A n c) :=
  ⟨h.cell 0, h.cell 1, h.cell 2, h.cell 3, h.cell 4⟩

theorem wrap_u64 (n : Int) : IntKind.u64.wrap n = n % 18446744073709551616 := by rfl

theorem pow_eight (r : Nat) : 2 ^ (8 * r) = 256 ^ r := by rw [Nat.pow_mul]
theorem or_step (l b r : Nat) (hl : l < 256 ^ r) (hb : b < 256) (hr : r < 8) : bits BinOp.or IntKind.u64 (l : Int) (IntKind.u64.wrap (IntKind.u64.wrap (b : Int) * 2 ^ (8 * r))) = ((l + 256 ^ r * b : Nat) : Int) := by
  have e1 : IntKind.u64.wrap (b : Int) = (b : Int) := by rw [wrap_u64]; omega
  have hp : 256 ^ r * 256 ≤ 18446744073709551616 := by
    rw [← Nat.pow_succ]
    exact Nat.le_trans (Nat.pow_le_pow_right (by decide) (show r + 1 ≤ 8 by omega)) (by decide)
  have hm : 256 ^ r * b ≤ 256 ^ r * 255 := Nat.mul_le_mul_left _ (by omega)
  have hq : 256 ^ r * 256 = 256 ^ r * 255 + 256 ^ r := by rw [show (256 : Nat) = 255 + 1 from rfl, Nat.mul_succ]
  have e2 : IntKind.u64.wrap ((b : Int) * 2 ^ (8 * r)) = ((256 ^ r * b : Nat) : Int) := by
    have e3 : (b : Int) * 2 ^ (8 * r) = ((256 ^ r * b : Nat) : Int) := by
      rw [← pow_eight]
      simp [Int.mul_comm]
    rw [e3, wrap_u64]
    omega
  rw [e1, e2, u64_or_nat _ _ (by omega) (by omega), Nat.or_comm, ← pow_eight, ← Nat.two_pow_add_eq_or_of_lt (by rw [pow_eight]; exact hl), Nat.add_comm]

theorem take_push (tx : List UInt8) {j : Nat} (h : j < tx.length) : tx.take (j + 1) = tx.take j ++ [tx.getD j 0] := by
  rw [List.take_succ_eq_append_getElem h, List.getD_eq_getElem?_getD, List.getElem?_eq_getElem h]
  rfl

theorem headW_int (o : Ob) (h : 1 ≤ o.kind) : o.kind + (o.text.length : Int) * 256 + (o.parts.length : Int) * 1048576 = (headW o : Int) := by
  unfold headW
  omega

set_option maxRecDepth 100000 in
set_option maxHeartbeats 4000000 in
theorem words_any (x : OC) (w : World) (hok : OkO x.o) (hr : Row w w.heap.size x.A (flat huC x.o.parts)) (hn : x.A = none → x.c = 0) : Calls Try.prog 169 #[ocV x] w (huPost (wordsF x.o) w) := by
  have hk1 := hok.1
  have hk5 := hok.2.1
  have ht := hok.2.2.1
  have hp := hok.2.2.2.1
  have HH := Lib.hid (headW_int x.o hk1)
  have HW := Lib.hid (show wordsF x.o = headW x.o :: (numW x.o ++ packs (x.o.text.take x.o.text.length) ++ x.o.parts) by rw [List.take_length]; rfl)
  have HNW := Lib.hid (show numW x.o = if isNum x.o.kind = true then [(x.o.num % 18446744073709551616).toNat] else [] from rfl)
  have hnl := numW_le x.o
  clear hok
  obtain ⟨⟨o1, k, o3, tx, ps⟩, A, c⟩ := x
  unfold ocV
  dsimp only at *
  generalize headW ⟨o1, k, o3, tx, ps⟩ = H at *
  generalize numW ⟨o1, k, o3, tx, ps⟩ = NW at *
  generalize wordsF ⟨o1, k, o3, tx, ps⟩ = R at *
  have HR := Lib.hid hr
  have HN := Lib.hid hn
  have HB := Lib.hid ((Below.refl w.heap.size w).alloc (Nat.le_refl _) (.cells #[.int .i64 o1, .int .i64 k, .int .i64 o3, .string ⟨tx.toArray⟩, .slice A ps.length c] 113))
  have hbx := Box.new w 113 #[.int .i64 o1, .int .i64 k, .int .i64 o3, .string ⟨tx.toArray⟩, .slice A ps.length c]
  have hsz : (w.alloc (.cells #[.int .i64 o1, .int .i64 k, .int .i64 o3, .string ⟨tx.toArray⟩, .slice A ps.length c] 113)).heap.size = w.heap.size + 1 := by simp
  have HHN := Lib.hid (hasNum_any k)
  clear hr hn
  go_enter Try.func169, Try.ntmps169
  go_upto_if 23 with (go_at_call 167; refine (HHN.out _).mono ?_; rintro e wk ⟨rfl, rfl⟩)
  rw [HH.out]
  have hb1 := HB.out
  generalize hw1 : w.alloc (.cells #[.int .i64 o1, .int .i64 k, .int .i64 o3, .string ⟨tx.toArray⟩, .slice A ps.length c] 113) = w1 at *
  clear hw1 HB
  have HO1 := Lib.hid (UOwn.one (w := w1) (base := w.heap.size + 1) (by omega) H)
  rw [hsz] at HO1
  have hb2 := hb1.alloc (by omega) (.cells #[.int .u64 (H : Int)] 90)
  have hbx2 := hbx.alloc (.cells #[.int .u64 (H : Int)] 90)
  have hsz2 : (w1.alloc (.cells #[.int .u64 (H : Int)] 90)).heap.size = w.heap.size + 2 := by simp [hsz]
  generalize w1.alloc (.cells #[.int .u64 (H : Int)] 90) = w2 at *
  clear hb1 hbx hsz HHN
  have hg0 : w.heap.size < w2.heap.size := by omega
  go_cut [3] (fun v wx => UOwn wx (w.heap.size + 1) v (H :: NW) ∧ Below w.heap.size w wx ∧ w.heap.size + 1 ≤ wx.heap.size ∧ Box wx w.heap.size 113 #[.int .i64 o1, .int .i64 k, .int .i64 o3, .string ⟨tx.toArray⟩, .slice A ps.length c])
  case first =>
    have hNW := HNW.out
    cases hN : isNum k with
    | true =>
      rw [hN, if_pos rfl] at hNW
      obtain ⟨c0, c1, c2, c3, c4⟩ := ObBox.cells hbx2
      have hy0 := hu_new1 w2 (o3 % 18446744073709551616).toNat
      rw [show (((o3 % 18446744073709551616).toNat : Nat) : Int) = IntKind.u64.wrap o3 by rw [wrap_u64]; omega, hsz2] at hy0
      have HY := Lib.hid hy0
      clear hy0
      go_wp2_with (at_builtin; refine wpList_push_hu rfl (.tmp 24) (.tmp 28) rfl (w.heap.size + 1) _ [H] rfl (HO1.out.alloc _) (w.heap.size + 2) (o3 % 18446744073709551616).toNat rfl HY.out (by simp) (by simp; omega) ?_; intro v' w3 hown' hg')
      go_meet
      subst hNW
      exact ⟨hown', (hb2.alloc (by omega) _).grown hg' (by simp; omega) (fun q hq => by have := (HO1.out.lt q hq).1; omega), by have := hg'.size; simp at this; omega, (hbx2.alloc _).grown hg' (show some w.heap.size ≠ some (w.heap.size + 1) by simp)⟩
    | false =>
      rw [hN, if_neg (by decide)] at hNW
      subst hNW
      go_wp2_with fail
      go_meet
      exact ⟨HO1.out, hb2, by omega, hbx2⟩
  obtain ⟨hown, hb, hsz, hbx⟩ := hcut
  have HO := Lib.hid hown
  have HB := Lib.hid hb
  have HBX := Lib.hid hbx
  obtain ⟨c0, c1, c2, c3, c4⟩ := ObBox.cells hbx
  clear HO1 hb2 hbx2 hsz2 hg0 hown hb hbx HNW
  go_wp2_with fail
  clear c0 c1 c2 c3 c4
  go_loopg [3, 33] tx.length (fun gk v i wr => ∃ j : Nat, gk = tx.length - j ∧ j ≤ tx.length ∧ i = .int .i64 j ∧ UOwn wr (w.heap.size + 1) v (H :: NW ++ packs (tx.take j)) ∧ Below w.heap.size w wr ∧ w.heap.size + 1 ≤ wr.heap.size ∧ ObBox wr w.heap.size o1 k o3 tx A ps.length c)
  case atStart => exact ⟨0, by omega, by omega, rfl, HO.out.cast (by simp [packs]), HB.out, hsz, HBX.out⟩
  case round =>
    clear HO HB HBX hsz
    obtain ⟨j, hgk, hj, rfl, hown, hb, hsz, hbx⟩ := hrel
    have HGK := Lib.hid hgk
    clear hgk
    obtain ⟨c0, c1, c2, c3, c4⟩ := ObBox.cells hbx
    by_cases hlt : j < tx.length
    · have hown1 := hown
      go_upto_if 38 with fail
      go_cut [3] (fun v wx => ∃ Z l, UOwn wx (w.heap.size + 1) v (Z ++ [l]) ∧ l < 256 ^ (j % 8) ∧ Z.length ≤ 20 ∧ H :: NW ++ packs (tx.take (j + 1)) = Z ++ [l + 256 ^ (j % 8) * (tx.getD j 0).toNat] ∧ Below w.heap.size w wx ∧ w.heap.size + 1 ≤ wx.heap.size ∧ ObBox wx w.heap.size o1 k o3 tx A ps.length c)
      case first =>
        have htk : (tx.take j).length = j := by rw [List.length_take]; omega
        have hlen : (H :: NW ++ packs (tx.take j)).length ≤ 20 := by simp only [List.length_append, List.length_cons, packs_len, htk]; omega
        have HB := Lib.hid hb
        have HX := Lib.hid hbx
        by_cases h8 : j % 8 = 0
        · have d1 : ((j : Int) % 8 == 0) = true := by simp; omega
          have d2 : (j % 8 == 0) = true := by simp; omega
          have HT := Lib.hid (show H :: NW ++ packs (tx.take (j + 1)) = (H :: NW ++ packs (tx.take j)) ++ [0 + 256 ^ (j % 8) * (tx.getD j 0).toNat] by
            rw [take_push tx hlt, packs_new _ _ (by rw [htk]; exact h8), h8]
            simp)
          clear h8 htk hb hbx
          go_wp2_with (at_builtin; go_loud (refine wpList_push_hu rfl (.tmp 39) (.tmp 40) rfl (w.heap.size + 1) _ _ rfl (hown1.alloc _) wr.heap.size 0 rfl (hu_new1 wr 0) (by omega) (by simp; omega) ?_; intro v' w3 hown' hg'))
          go_meet
          exact ⟨_, 0, hown', Nat.pow_pos (by decide), hlen, HT.out, (HB.out.alloc (by omega) _).grown hg' (by simp; omega) (fun q hq => by have := (hown1.lt q hq).1; omega), by have := hg'.size; simp at this; omega, (HX.out.alloc _).grown hg' (UOwn.far hown1 (by omega))⟩
        · have d1 : ((j : Int) % 8 == 0) = false := by simp; omega
          have d2 : (j % 8 == 0) = false := by simp; omega
          obtain ⟨Z, l, hz1, hz2, hz3⟩ := packs_on (tx.take j) (tx.getD j 0) (by rw [htk]; exact h8)
          rw [htk] at hz2 hz3
          rw [hz1] at hown1 hlen
          have HO1 := Lib.hid (show UOwn wr (w.heap.size + 1) _ ((H :: NW ++ Z) ++ [l]) from hown1.cast (by simp))
          have HT := Lib.hid (show H :: NW ++ packs (tx.take (j + 1)) = (H :: NW ++ Z) ++ [l + 256 ^ (j % 8) * (tx.getD j 0).toNat] by
            rw [take_push tx hlt, hz3]
            simp)
          have HL := Lib.hid hz2
          have hlen2 : (H :: NW ++ Z).length ≤ 20 := by simp at hlen ⊢; omega
          clear h8 htk hb hbx hz1 hz2 hz3 hown hown1
          go_wp2_with fail
          go_meet
          exact ⟨_, l, HO1.out, HL.out, hlen2, HT.out, HB.out, hsz, HX.out⟩
      obtain ⟨Z, l, hown, hl, hZ, hE, hb, hsz, hbx⟩ := hcut
      have HE := Lib.hid hE
      have HB := Lib.hid hb
      have HL := Lib.hid hl
      have HBX := Lib.hid hbx
      clear hE hb hl
      have hzl : (Z ++ [l]).length = Z.length + 1 := by simp
      obtain ⟨g2, cc, hv, hg2⟩ := UOwn.form hown (by omega)
      subst hv
      have hcl := hown.cellAt Z.length (by omega)
      have hfr := hown.frozenAt Z.length
      rw [flat_last] at hcl
      unfold UOwn at hown
      rw [hzl] at hown ⊢
      obtain ⟨c0, c1, c2, c3, c4⟩ := ObBox.cells hbx
      go_wp2_with fail
      go_region
      rw [or_step l _ _ HL.out (UInt8.toNat_lt _) (by omega)]
      obtain ⟨b, hbv⟩ : ∃ b : Nat, b = ((⟨tx.toArray⟩ : ByteArray)[j]'hlt).toNat := ⟨_, rfl⟩
      have hbe : (tx.getD j 0).toNat = b := by
        rw [hbv]
        simp [List.getD_eq_getElem?_getD, hlt]
        rfl
      rw [hbe] at HE
      rw [← hbv]
      clear hbv hbe
      obtain ⟨hst, hgr⟩ := World.ownsRow.stored hown Z.length (.int .u64 ((l + 256 ^ (j % 8) * b : Nat) : Int))
      rw [flat_set_last] at hst
      have HO5 := Lib.hid (show UOwn ((wc.setCell ⟨g2, Z.length, none⟩ (.int .u64 ((l + 256 ^ (j % 8) * b : Nat) : Int))).drew) (w.heap.size + 1) (.slice (some ⟨g2, 0, none⟩) (Z.length + 1) cc) (Z ++ [l + 256 ^ (j % 8) * b]) from by
        unfold UOwn
        rw [show (Z ++ [l + 256 ^ (j % 8) * b]).length = Z.length + 1 by simp]
        exact World.ownsRow.drew hst)
      have HB5 := Lib.hid (show Below w.heap.size w (wc.setCell ⟨g2, Z.length, none⟩ (.int .u64 ((l + 256 ^ (j % 8) * b : Nat) : Int))).drew from below_drewN (HB.out.grown hgr (by omega) (fun q hq => by injection hq with hq; omega)) 1)
      have HX5 := Lib.hid (Box.drew (HBX.out.grown hgr (by simp; omega)))
      have hs5 : w.heap.size + 1 ≤ ((wc.setCell ⟨g2, Z.length, none⟩ (.int .u64 ((l + 256 ^ (j % 8) * b : Nat) : Int))).drew).heap.size := by simp [World.drew]; omega
      generalize (wc.setCell ⟨g2, Z.length, none⟩ (.int .u64 ((l + 256 ^ (j % 8) * b : Nat) : Int))).drew = w5 at *
      clear hst hgr hown hcl hfr c0 c1 c2 c3 c4 hbx
      rw [← HE.out] at HO5
      go_wp2_with fail
      go_roundg (tx.length - (j + 1))
      case measure => have := HGK.out; omega
      case rel => exact ⟨j + 1, rfl, by omega, by go_num, HO5.out, HB5.out, hs5, HX5.out⟩
    · obtain rfl : j = tx.length := by omega
      have HLEN := Lib.hid (show (H :: NW ++ packs (tx.take tx.length)).length ≤ 20 by simp only [List.length_append, List.length_cons, packs_len, List.length_take]; omega)
      go_wp2_with (at_builtin; refine wpList_append_hu rfl (.tmp 60) (.tmp 62) 88 88 rfl Try.underlying88 Try.underlying88 (w.heap.size + 1) _ _ rfl hown A c w.heap.size ps rfl (HR.out.below hb) HN.out (by have := HLEN.out; omega) (by omega) ?_; intro v' w3 hown' hg')
      go_ret
      refine ⟨v', rfl, ?_, hb.grown hg' (by omega) (fun q hq => by have := (hown.lt q hq).1; omega)⟩
      rw [HW.out]
      exact UOwn.lower hown' (by omega)
end Go.Proofs.Ytdjahlkjfpbifaa
