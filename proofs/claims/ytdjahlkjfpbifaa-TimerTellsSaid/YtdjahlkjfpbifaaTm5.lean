
/-
  Dues of the call's own: those of one taken out (slices.DeleteFunc by timer.Set's predicate).
-/
import Derived.Test.YtdjahlkjfpbifaaTm1
import Derived.IntWalk
namespace Go.Proofs.Ytdjahlkjfpbifaa
open Go.RowKit

theorem OwnAt.putD {α : Type} {ec : α → List Value} {size : Nat} (hs : ∀ x, (ec x).length = size) {w : World} {base : Nat} {e : TypeId} {n cap g o : Nat} {l : List α} (h : OwnAt w base e size (some ⟨g, o, none⟩) n cap (flat ec l)) {i j : Nat} {x : α} (u : Value) (hx : l[i]? = some x) (hj : j < size) (y : α) (hy : ec y = (ec x).set j u) :
    OwnAt (w.setCell ⟨g, o + i * size + j, none⟩ u) base e size (some ⟨g, o, none⟩) n cap (flat ec (l.set i y)) := by
  have h1 := h.set (j := i * size + j) u
  rw [flat_set hs l u hx hj y hy, ← Nat.add_assoc] at h1
  exact h1
theorem Only.cell {S : Nat → Prop} {w w' : World} (h : Only S w w') {p : Addr} {v : Value} (hc : w.cell? p = some v) (hS : ¬ S p.block) : w'.cell? p = some v := by
  have := h.block p.block (lt_of_cell hc) hS
  unfold World.cell? at hc ⊢
  rw [this]
  exact hc
/-- One due set. -/
theorem OwnAt.putDu {w : World} {base g o n cap : Nat} {l : List Du} (h : OwnAt w base 139 2 (some ⟨g, o, none⟩) n cap (flat duC l)) {i : Nat} (hi : i < l.length) (y : Du) :
    OwnAt ((w.setCell ⟨g, o + i * 2, none⟩ (.int .i64 y.t)).setCell ⟨g, o + i * 2 + 1, none⟩ (.int .i64 y.id)) base 139 2 (some ⟨g, o, none⟩) n cap (flat duC (l.set i y)) := by
  have h1 := h.putD duC_len (i := i) (j := 0) (x := l[i]) (.int .i64 y.t) (List.getElem?_eq_getElem hi) (by decide) ⟨y.t, l[i].id⟩ rfl
  have h2 := h1.putD duC_len (i := i) (j := 1) (x := ⟨y.t, l[i].id⟩) (.int .i64 y.id) (by simp [hi]) (by decide) y rfl
  rwa [List.set_set] at h2
theorem zeroCells_du (m : Nat) : (Builtin.zeroCells (Value.agg #[.int .i64 0, .int .i64 0]).cells m).toList.length = m * 2 := by
  unfold Builtin.zeroCells; simp [Value.cells]
theorem zeroCells_du_one (m : Nat) : ∀ u ∈ (Builtin.zeroCells (Value.agg #[.int .i64 0, .int .i64 0]).cells m).toList, u.oneCell' = true := by
  unfold Builtin.zeroCells
  intro u hu
  simp only [Array.toList_map, List.mem_map, Value.cells] at hu
  obtain ⟨i, _, rfl⟩ := hu
  have h2 : i % 2 = 0 ∨ i % 2 = 1 := by omega
  rcases h2 with h2 | h2 <;> simp [h2] <;> rfl
theorem run_clear_many (w : World) (ty : TypeId) (g o c m : Nat) (hm : 0 < m) (hc : ∀ j, j < m * 2 → (w.cell? ⟨g, o + j, none⟩).isSome = true) (hf : ∀ j, j < m * 2 → w.frozen? ⟨g, o + j, none⟩ = false) :
    (Builtin.clear_ #[126] ty #[.slice (some ⟨g, o, none⟩) m c]).run Try.prog w = .ok (.tuple #[]) (w.setCells g o (Builtin.zeroCells (Value.agg #[.int .i64 0, .int .i64 0]).cells m).toList) := by
  have hst := run_storeCells_cells (P := Try.prog) g o (Builtin.zeroCells (Value.agg #[.int .i64 0, .int .i64 0]).cells m).toList 0 w (by rw [zeroCells_du]; simpa using hc) (by rw [zeroCells_du]; simpa using hf) (zeroCells_du_one m)
  simp only [Nat.add_zero] at hst
  obtain ⟨k, rfl⟩ : ∃ k, m = k + 1 := ⟨m - 1, by omega⟩
  have hz := zero_du w
  unfold duV at hz
  simp only [Builtin.clear_, List.getElem?_toArray, List.getElem?_cons_zero]
  simp [run_underlying Try.underlying126, hz, du0, hst]

/-- Those not of one. -/
def notId (id : Int) (x : Du) : Bool := !isId id x
theorem restD_eq (l : List Du) (id : Int) : restD l id = l.filter (notId id) := rfl
theorem filt_idx (id : Int) : ∀ (l : List Du) (k : Int) {i : Nat}, 0 ≤ k → idxAt (isId id) l k = k + i → i < l.length → (l.take (i + 1)).filter (notId id) = l.take i
  | [], _, _, _, _, h => by simp at h
  | x :: r, k, i, hk, h, hi => by
    unfold idxAt at h
    by_cases hx : isId id x = true
    · rw [if_pos hx] at h
      have : i = 0 := by omega
      subst this
      simp [notId, hx]
    · rw [if_neg hx] at h
      have hx' : isId id x = false := by simpa using hx
      cases i with
      | zero =>
        rcases duAt_cases id r (k + 1) (by omega) with ⟨h1, _⟩ | ⟨m, h1, _⟩ <;> (rw [h1] at h; omega)
      | succ i =>
        have := filt_idx id r (k + 1) (i := i) (by omega) (by rw [h]; omega) (by simpa using hi)
        rw [List.take_succ_cons, List.filter_cons, if_pos (by simp [notId, hx']), this, List.take_succ_cons]
theorem filt_next (id : Int) (l : List Du) {j : Nat} (hj : j < l.length) : (l.take (j + 1)).filter (notId id) = if isId id (l.getD j du0) then (l.take j).filter (notId id) else (l.take j).filter (notId id) ++ [l.getD j du0] := by
  have h1 : l.take (j + 1) = l.take j ++ [l.getD j du0] := by
    rw [List.take_add_one, List.getElem?_eq_getElem hj]; simp [List.getD, List.getElem?_eq_getElem hj]
  rw [h1, List.filter_append]
  generalize l.getD j du0 = y
  by_cases h : isId id y = true
  · rw [if_pos h]; simp [notId, h]
  · rw [if_neg h]; simp [notId, h]

set_option maxRecDepth 100000 in
set_option maxHeartbeats 2000000 in
theorem deleteFunc_any (id : Int) (gc base cap : Nat) (A : Option Addr) (Y : List Du) (w : World) (hk : w.cell? ⟨gc, 0, none⟩ = some (.int .i64 id)) (hown : OwnAt w base 139 2 A Y.length cap (flat duC Y)) (hgk : A.map (·.block) ≠ some gc) (hsmall : Y.length ≤ 1000) :
    Calls Try.prog 104 #[.slice A Y.length cap, .func (.func 105) #[] #[.pointer (some ⟨gc, 0, none⟩)]] w fun e w' =>
      e = .returned (.slice A (restD Y id).length cap) ∧ OwnAt w' base 139 2 A (restD Y id).length cap (flat duC (restD Y id)) ∧ Only (fun b => A.map (·.block) = some b) w w' := by
  have hlk := lt_of_cell hk
  dsimp only at hlk
  have hcap := hown.cap_le
  unfold maxLen at hcap
  have hx := indexFunc_du A cap Y 105 #[.pointer (some ⟨gc, 0, none⟩)] (isId id) w.heap.size (fun u => Below w.heap.size w u) w enters_tmset (by unfold maxLen; omega)
    (fun u hu => (hown.row.below hu))
    (fun x _ u hu => (tmset1_any x id gc u ((hu.cell (p := ⟨gc, 0, none⟩) hlk).trans hk)).mono fun e w' ⟨h1, h2⟩ => ⟨h1, hu.trans (h2.mono hu.size)⟩) (Below.refl _ _)
  have HX := Lib.hid hx
  have HO := Lib.hid hown
  have HKC := Lib.hid hk
  have HGK := Lib.hid hgk
  clear hx hown hk hgk
  rcases duAt_cases id Y 0 (by omega) with ⟨h1, h2⟩ | ⟨i, h1, h2, h3, _⟩
  · rw [h1] at HX
    have HR := Lib.hid (restD_none h2)
    clear h1 h2
    go_enter Try.func104, Try.ntmps104
    go_wp2_with fail
    refine HX.out.mono ?_
    rintro e w1 ⟨rfl, hw1⟩
    go_wp2_with fail
    go_ret
    rw [HR.out]
    exact ⟨rfl, HO.out.below hw1, Only.of_below hw1⟩
  have h0 := filt_idx id Y 0 (by omega) h1 h2
  rw [h1, Int.zero_add] at HX
  clear h1 h3
  obtain ⟨g, o, rfl, _⟩ := HO.out.some_of (by omega)
  have hgk' : gc ≠ g := fun e => HGK.out (by rw [e]; rfl)
  have HF0 := Lib.hid h0
  clear h0
  have hi1 : ((i : Int) == -1) = false := by simp
  have hi2 : decide ((i : Int) = -1) = false := by simp
  go_enter Try.func104, Try.ntmps104
  go_wp2_with fail
  refine HX.out.mono ?_
  rintro e w1 ⟨rfl, hw1⟩
  have HB1 := Lib.hid (Only.of_below (S := (· = g)) hw1)
  have HO1 := Lib.hid (HO.out.below hw1)
  clear hw1 HX
  go_wp2_with fail
  clear hi1 hi2
  go_loopg [5, 6] (Y.length - (i + 1)) (fun gc' vi vj wr => ∃ (p j : Nat) (Z : List Du), gc' = Y.length - j ∧ p < j ∧ j ≤ Y.length ∧ vi = .int .i64 p ∧ vj = .int .i64 j ∧ Hid (Z.length = Y.length ∧ Z.take p = (Y.take j).filter (notId id) ∧ Z.drop j = Y.drop j) ∧ OwnAt wr base 139 2 (some ⟨g, o, none⟩) Y.length cap (flat duC Z) ∧ Only (· = g) w wr)
  case atStart => exact ⟨i, i + 1, Y, rfl, by omega, by omega, rfl, by go_num, ⟨rfl, HF0.out.symm, rfl⟩, HO1.out, HB1.out⟩
  case round =>
    obtain ⟨p, j, Z, hgj, hpj, hj, rfl, rfl, HZ, ho, hb⟩ := hrel
    have HK := Lib.hid hgj
    have HB := Lib.hid hb
    have HW := Lib.hid ho
    clear hgj hb ho HO1 HB1
    have hzl := HZ.out.1
    by_cases hlt : j < Y.length
    · obtain ⟨b, o', he, hbl, c0, c1⟩ := (HW.out.row).du (show j < Z.length by omega) du0
      injection he with he
      injection he with e1 e2
      subst e1 e2
      have hgd : Z.getD j du0 = Y.getD j du0 := by
        have h1 := drop_getD Z du0 (show j < Z.length by omega)
        rw [HZ.out.2.2, drop_getD Y du0 hlt] at h1
        injection h1 with h1 _
        exact h1.symm
      have HFN := Lib.hid (filt_next id Y hlt)
      rw [hgd] at c0 c1
      clear hgd
      generalize Y.getD j du0 = y at *
      obtain ⟨y0, y1⟩ := y
      dsimp only at c0 c1
      have hkw : wr.cell? ⟨gc, 0, none⟩ = some (.int .i64 id) := HB.out.cell HKC.out hgk'
      have hal := (Below.refl wr.heap.size wr).alloc (Nat.le_refl _) (.cells #[.int .i64 y0, .int .i64 y1] 139)
      have HC := Lib.hid (tmset1_any ⟨y0, y1⟩ id gc _ ((hal.cell (p := ⟨gc, 0, none⟩) (lt_of_cell hkw)).trans hkw))
      have HAL := Lib.hid hal
      have hjl : (j : Int) < (Y.length : Int) := by omega
      clear hkw hal
      by_cases hq : isId id ⟨y0, y1⟩ = true
      · rw [hq] at HC
        have HN := Lib.hid (show (Y.take (j + 1)).filter (notId id) = (Y.take j).filter (notId id) by rw [HFN.out, if_pos hq])
        clear hq HFN
        go_wp2_with fail
        refine HC.out.mono ?_
        rintro e w2 ⟨rfl, hb2⟩
        have hbb := HAL.out.trans (hb2.mono HAL.out.size)
        have HW2 := Lib.hid (HW.out.below hbb)
        have HB2 := Lib.hid (HB.out.below hbb)
        clear hb2 hbb
        go_wp2_with fail
        go_roundg (Y.length - (j + 1))
        case measure => have := HK.out; omega
        case rel => exact ⟨p, j + 1, Z, rfl, by omega, by omega, rfl, by go_num, ⟨hzl, by rw [HN.out]; exact HZ.out.2.1, by rw [← List.drop_drop, HZ.out.2.2, List.drop_drop]⟩, HW2.out, HB2.out⟩
      · have hq' : isId id ⟨y0, y1⟩ = false := by simpa using hq
        rw [hq'] at HC
        have HN := Lib.hid (show (Y.take (j + 1)).filter (notId id) = (Y.take j).filter (notId id) ++ [⟨y0, y1⟩] by rw [HFN.out, if_neg hq])
        clear hq hq' HFN
        go_wp2_with fail
        refine HC.out.mono ?_
        rintro e w2 ⟨rfl, hb2⟩
        have hbb := HAL.out.trans (hb2.mono HAL.out.size)
        have hv0 : w2.cell? ⟨wr.heap.size, 0, none⟩ = some (.int .i64 y0) := (hb2.cell (p := ⟨wr.heap.size, 0, none⟩) (by simp)).trans ((Box.new wr _ _).cell 0)
        have hv1 : w2.cell? ⟨wr.heap.size, 1, none⟩ = some (.int .i64 y1) := (hb2.cell (p := ⟨wr.heap.size, 1, none⟩) (by simp)).trans ((Box.new wr _ _).cell 1)
        have hw2 := HW.out.below hbb
        obtain ⟨b, o', he, _, d0, d1⟩ := (hw2.row).du (show p < Z.length by omega) du0
        injection he with he
        injection he with e1 e2
        subst e1 e2
        have hf0 := hw2.frozen (o + p * 2)
        have hf1 := hw2.frozen (o + p * 2 + 1)
        have HW2 := Lib.hid (hw2.putDu (show p < Z.length by omega) ⟨y0, y1⟩)
        have HB2 := Lib.hid (((HB.out.below hbb).set (p := ⟨g, o + p * 2, none⟩) rfl (.int .i64 y0)).set (p := ⟨g, o + p * 2 + 1, none⟩) rfl (.int .i64 y1))
        have hpl : (p : Int) < (Y.length : Int) := by omega
        have hp0 : (0 : Int) ≤ (p : Int) := by omega
        clear hb2 hbb hw2
        go_wp2_with fail
        go_roundg (Y.length - (j + 1))
        case measure => have := HK.out; omega
        case rel =>
          refine ⟨p + 1, j + 1, Z.set p ⟨y0, y1⟩, rfl, by omega, by omega, by go_num, by go_num, ⟨by rw [List.length_set]; exact hzl, ?_, ?_⟩, HW2.out, HB2.out⟩
          · rw [HN.out, ← HZ.out.2.1, List.take_add_one, List.take_set_of_le (Nat.le_refl _), List.getElem?_set]
            simp [show p < Z.length by omega]
          · rw [List.drop_set_of_lt (by omega), ← List.drop_drop, HZ.out.2.2, List.drop_drop]
    · obtain rfl : Y.length = j := by omega
      have hfin : Z.take p = restD Y id := by rw [HZ.out.2.1, List.take_length]; rfl
      have hpl : (restD Y id).length = p := by rw [← hfin, List.length_take]; omega
      have hsh := HW.out.shrinkD (k := p) (by omega)
      rw [← flat_take duC_len, hfin] at hsh
      have HSH := Lib.hid hsh
      have HFR := Lib.hid (fun j => HW.out.frozen j)
      have hq1 : (p : Int) ≤ (Y.length : Int) := by omega
      have hq2 : (0 : Int) ≤ (p : Int) := by omega
      have hq3 : p ≤ cap := by omega
      have hq4 : (p : Int) ≤ (cap : Int) := by omega
      have HCL := Lib.hid (fun ty => run_clear_many wr ty g (o + p * 2) (cap - p) (Y.length - p) (by omega) (fun j hj => by rw [Nat.add_assoc]; exact HW.out.room (by omega)) (fun j _ => HFR.out _))
      have hcl := HCL.out
      have HPL := Lib.hid hpl
      clear hpl
      go_wp2_with fail
      go_ret
      rw [HPL.out]
      exact ⟨rfl, OwnAt.setsPastD _ _ _ (Nat.le_refl _) HSH.out, (Only.setsD (S := (· = g)) rfl _ _ _ HB.out).more (fun i hi => by rw [hi]; rfl)⟩
end Go.Proofs.Ytdjahlkjfpbifaa
