
/-
  Links: Add.
-/
import Derived.Test.YtgjimjpbogadjaaLk4
namespace Go.Proofs.Ytgjimjpbogadjaa
open Go.RowKit

theorem getD_ins {α : Type} (d x : α) : ∀ (l : List α) (i j : Nat), i ≤ l.length → (l.take i ++ x :: l.drop i).getD j d = if j < i then l.getD j d else if j = i then x else l.getD (j - 1) d
  | l, 0, j, _ => by
    cases j with
    | zero => simp
    | succ j => simp
  | [], i + 1, j, h => absurd h (by simp)
  | y :: r, i + 1, j, h => by
    cases j with
    | zero => simp
    | succ j =>
      have ih := getD_ins d x r i j (by simpa using h)
      simp only [List.take_succ_cons, List.drop_succ_cons, List.cons_append, List.getD_cons_succ, ih]
      rcases Nat.lt_trichotomy j i with h1 | h1 | h1
      · rw [if_pos h1, if_pos (show j + 1 < i + 1 by omega)]
      · subst h1
        rw [if_neg (Nat.lt_irrefl _), if_pos rfl, if_neg (Nat.lt_irrefl _), if_pos rfl]
      · rw [if_neg (show ¬ j < i by omega), if_neg (show ¬ j = i by omega), if_neg (show ¬ j + 1 < i + 1 by omega), if_neg (show ¬ j + 1 = i + 1 by omega)]
        cases j with
        | zero => omega
        | succ j => simp
theorem getD_del {α : Type} (d : α) : ∀ (l : List α) (i j : Nat), i < l.length → (l.take i ++ l.drop (i + 1)).getD j d = if j < i then l.getD j d else l.getD (j + 1) d
  | y :: r, 0, j, _ => by simp
  | [], i, j, h => absurd h (by simp)
  | y :: r, i + 1, j, h => by
    cases j with
    | zero => simp
    | succ j =>
      have ih := getD_del d r i j (by simpa using h)
      simp only [List.take_succ_cons, List.drop_succ_cons, List.cons_append, List.getD_cons_succ, ih]
      by_cases h1 : j < i
      · rw [if_pos h1, if_pos (show j + 1 < i + 1 by omega)]
      · rw [if_neg h1, if_neg (show ¬ j + 1 < i + 1 by omega)]

/-- A row of the call's own whose elements read as they should. -/
theorem lkRow.of_own {w : World} {base : Nat} {A : Option Addr} {c : Nat} {l : List LkC} {vs : List Lk} (h1 : l.length = vs.length) (ho : OwnAt w base 114 3 A l.length c (flat lkC l)) (hp : ∀ i, i < l.length → LkIn w (· < w.heap.size) 0 (l.getD i lkc0) (vs.getD i lk0)) (hm : l.length * 56 ≤ reachBytes) : lkRow w (· < w.heap.size) 0 A c l vs := by
  refine ⟨h1, ?_, hp, ?_, ?_, ?_, hm⟩
  · intro hq
    obtain ⟨b, o, e, _, hc⟩ := ho.row hq
    subst e
    exact ⟨b, o, rfl, ho.lt.2, hc⟩
  · rcases ho.2 with ⟨_, h0, h1⟩ | ⟨_, _, _, _, _, _, h3, _⟩
    · omega
    · exact h3
  · rcases ho.2 with ⟨_, _, h1⟩ | ⟨_, _, _, _, _, _, _, h4, _⟩
    · rw [h1]; exact Nat.zero_le _
    · exact h4
  · intro e
    rcases ho.form with ⟨_, _, h0⟩ | ⟨g, o, h0⟩
    · exact h0
    · rw [h0] at e; cases e
/-- The elements of rows of the call's own still read, where only the rows' own block has turned. -/
theorem OwnLks.keepE {w w' : World} {base : Nat} {A : Option Addr} {c : Nat} {l : List LkC} {vs : List Lk} (h : OwnLks w base A c l vs) (ho : Only (fun b => blkS A b) w w') : ∀ i, i < l.length → LkIn w' (· < w'.heap.size) 0 (l.getD i lkc0) (vs.getD i lk0) := fun i hi =>
  (((h.each i hi).only ho (fun b hb => h.off i hi b hb)).iin).all

theorem putLk_at (x : Lk) : ∀ (l : List Lk) (k : Nat), k ≤ l.length → (∀ j, j < k → (l.getD j lk0).ref < x.ref) → (k < l.length → ¬ (l.getD k lk0).ref < x.ref) → putLk x l = l.take k ++ x :: l.drop k
  | [], k, hk, _, _ => by
    obtain rfl : k = 0 := by simpa using hk
    rfl
  | y :: r, 0, _, _, h => by
    have h0 : ¬ y.ref < x.ref := h (by simp)
    unfold putLk
    rw [if_neg h0]
    rfl
  | y :: r, k + 1, hk, h1, h2 => by
    have h0 : y.ref < x.ref := h1 0 (by omega)
    unfold putLk
    rw [if_pos h0, putLk_at x r k (by simpa using hk) (fun j hj => by simpa using h1 (j + 1) (by omega)) (fun hl => by simpa using h2 (by simpa using hl))]
    rfl
/-- In rows in order a number is there just where it would be put. -/
theorem lkAt_there {l : List Lk} (hs : l.Pairwise (fun a b => a.ref < b.ref)) {n : Int} {k : Nat} (hk : k ≤ l.length) (h1 : ∀ j, j < k → (l.getD j lk0).ref < n) (h2 : k < l.length → ¬ (l.getD k lk0).ref < n) : (0 ≤ lkAt l n) ↔ (k < l.length ∧ (l.getD k lk0).ref = n) := by
  have h3 := idxAt_any (isLk n) l 0 (by omega)
  have h4 : (0 ≤ lkAt l n) ↔ l.any (isLk n) = true := by
    rw [← h3, decide_eq_true_iff]
    rfl
  rw [h4, List.any_eq_true]
  constructor
  · rintro ⟨x, hx, hxn⟩
    have hxn' : x.ref = n := by simpa [isLk] using hxn
    obtain ⟨j, hj, rfl⟩ := List.mem_iff_getElem.1 hx
    have hg : ∀ i (hi : i < l.length), l.getD i lk0 = l[i] := fun i hi => by simp [List.getD_eq_getElem?_getD, List.getElem?_eq_getElem hi]
    have hjk : ¬ j < k := fun h => by
      have := h1 j h
      rw [hg j hj] at this
      omega
    have hkl : k < l.length := by omega
    have h5 := h2 hkl
    rcases Nat.lt_or_ge k j with h6 | h6
    · have := List.pairwise_iff_getElem.1 hs k j hkl hj h6
      rw [hg k hkl] at h5
      omega
    · obtain rfl : j = k := by omega
      exact ⟨hj, by rw [hg j hj]; exact hxn'⟩
  · rintro ⟨hk1, he⟩
    exact ⟨l.getD k lk0, getD_mem lk0 hk1, by unfold isLk; rw [he]; exact beq_self_eq_true n⟩

set_option maxRecDepth 100000 in
set_option maxHeartbeats 2000000 in
theorem lkadd_any (A : Option Addr) (c : Nat) (l : List LkC) (vs : List Lk) (n : Int) (w : World) (hin : lkRow w (· < w.heap.size) 0 A c l vs) :
    Calls Try.prog 45 #[.slice A l.length c, .int .i64 n] w fun e w' => LkRes (addF vs n) w e w' := by
  have HIN := Lib.hid (fun (w' : World) (hb : Below w.heap.size w w') => (hin.below hb (fun _ h => h)).keep (w' := w') (S' := (· < w'.heap.size)) (fun _ _ => rfl) (fun b h => Nat.lt_of_lt_of_le h hb.size))
  have HLV := Lib.hid hin.1
  have HCK := Lib.hid (lkcheck_any A c l vs w hin)
  have hlm : l.length ≤ 2 ^ 63 - 1 := Nat.le_trans hin.2.2.2.1 hin.2.2.2.2.1
  have HFF : Hid (addF vs n = if lkF vs ≠ 0 then (lkF vs, []) else if addE vs n ≠ 0 then (addE vs n, []) else (0, putLk ⟨n, [], []⟩ vs)) := rfl
  have HOK := Lib.hid (fun (h : lkF vs = 0) => lkF_ok h)
  generalize addF vs n = F at *
  generalize lkF vs = R at *
  clear hin
  go_enter Try.func45, Try.ntmps45
  go_wp2_with fail
  refine HCK.out.mono ?_
  rintro e w1 ⟨rfl, hb1⟩
  have HB1 := Lib.hid hb1
  clear hb1 HCK
  by_cases hR : R = 0
  case neg =>
    have HF := Lib.hid (show F = (R, []) by rw [HFF.out, if_pos hR])
    have b1 : (R != 0) = true := by simpa using hR
    clear hR HFF
    go_wp2_with fail
    go_ret2
    rw [HF.out]
    exact LkRes.err rfl HB1.out
  subst hR
  have hok := HOK.out rfl
  have hl100 : l.length ≤ 100 := by rw [HLV.out]; exact hok.len
  have HS := Lib.hid hok
  rw [if_neg (by simp)] at HFF
  clear HOK hok hlm
  go_wp2_with fail
  go_loopg [7] l.length (fun gk i wr => ∃ k : Nat, gk = l.length - k ∧ k ≤ l.length ∧ i = .int .i64 k ∧ Hid (∀ j, j < k → (vs.getD j lk0).ref < n) ∧ w1 = wr)
  case atStart => exact ⟨0, by omega, by omega, rfl, Lib.hid (fun j hj => by omega), rfl⟩
  case round =>
    obtain ⟨k, hgk, hk, rfl, HJ, rfl⟩ := hrel
    have HK := Lib.hid hgk
    clear hgk
    obtain ⟨q, hq⟩ : ∃ q : Bool, q = decide (k < l.length ∧ (vs.getD k lk0).ref < n) := ⟨_, rfl⟩
    have HQ := Lib.hid hq
    clear hq
    go_upto_region 5 with fail
    go_cut [25] from 13 to 25 (fun v wx => v = .bool q ∧ w1 = wx)
    case first =>
      by_cases hlt : k < l.length
      · obtain ⟨b, o, rfl, _, c0, _⟩ := (HIN.out w1 HB1.out).at hlt
        have d1 : decide ((k : Int) < (l.length : Int)) = true := decide_eq_true (by omega)
        have d1' : decide (k < l.length) = true := decide_eq_true hlt
        have hkl : (k : Int) < (l.length : Int) := by omega
        have HQ2 := Lib.hid (show q = decide ((vs.getD k lk0).ref < n) by rw [HQ.out]; exact decide_eq_decide.2 ⟨fun h => h.2, fun h => ⟨hlt, h⟩⟩)
        generalize (vs.getD k lk0).ref = u at *
        have hqq : decide (u < n) = q := HQ2.out.symm
        clear HQ
        go_wp2_with fail
        go_meet
        exact ⟨rfl, rfl⟩
      · have d1 : decide ((k : Int) < (l.length : Int)) = false := decide_eq_false (by omega)
        have d1' : decide (k < l.length) = false := decide_eq_false hlt
        obtain rfl : q = false := by rw [HQ.out]; exact decide_eq_false (fun h => hlt h.1)
        clear HQ hlt
        go_wp2_with fail
        go_meet
        exact ⟨rfl, rfl⟩
    case rest =>
    obtain ⟨rfl, rfl⟩ := hcut
    cases q
    case true =>
      obtain ⟨h1, h2⟩ := of_decide_eq_true HQ.out.symm
      have HJ2 : Hid (∀ j, j < k + 1 → (vs.getD j lk0).ref < n) := fun j hj => by
        rcases Nat.lt_or_ge j k with h | h
        · exact HJ.out j h
        · obtain rfl : j = k := by omega
          exact h2
      clear h2
      go_wp2_with fail
      go_roundg (l.length - (k + 1))
      case measure => have := HK.out; omega
      case rel => exact ⟨k + 1, rfl, by omega, by go_num, HJ2, rfl⟩
    have HNK := Lib.hid (show k < vs.length → ¬ (vs.getD k lk0).ref < n from fun h h2 => (of_decide_eq_false HQ.out.symm) ⟨by rw [HLV.out]; exact h, h2⟩)
    have HTH := Lib.hid (lkAt_there HS.out.sort (by rw [← HLV.out]; exact hk) HJ.out HNK.out)
    have HPU := Lib.hid (putLk_at ⟨n, [], []⟩ vs k (by rw [← HLV.out]; exact hk) HJ.out HNK.out)
    have HAE : Hid (addE vs n = if n < 1 then 1 else if 0 ≤ lkAt vs n then 5 else if vs.length = 100 then 6 else 0) := rfl
    clear HQ HNK HJ HK
    by_cases hn1 : n < 1
    · have d1 : decide (n < 1) = true := decide_eq_true hn1
      have HE := Lib.hid (show addE vs n = 1 by rw [HAE.out, if_pos hn1])
      have HF := Lib.hid (show F = (1, []) by rw [HFF.out, HE.out]; rfl)
      clear hn1
      go_wp2_with fail
      go_ret2
      rw [HF.out]
      exact LkRes.err rfl HB1.out
    have d1 : decide (n < 1) = false := decide_eq_false hn1
    rw [if_neg hn1] at HAE
    clear hn1
    obtain ⟨th, hth⟩ : ∃ th : Bool, th = decide (0 ≤ lkAt vs n) := ⟨_, rfl⟩
    have HT := Lib.hid hth
    clear hth
    go_upto_region 9 with fail
    go_cut [31] from 31 to 44 (fun v wx => v = .bool th ∧ w1 = wx)
    case first =>
      by_cases hlt : k < l.length
      · obtain ⟨b, o, rfl, _, c0, _⟩ := (HIN.out w1 HB1.out).at hlt
        have e1 : decide ((k : Int) < (l.length : Int)) = true := decide_eq_true (by omega)
        have e1' : decide (k < l.length) = true := decide_eq_true hlt
        have hkl : (k : Int) < (l.length : Int) := by omega
        have HQ2 := Lib.hid (show th = decide ((vs.getD k lk0).ref = n) by rw [HT.out]; exact decide_eq_decide.2 ⟨fun h => (HTH.out.1 h).2, fun h => HTH.out.2 ⟨by rw [← HLV.out]; exact hlt, h⟩⟩)
        generalize (vs.getD k lk0).ref = u at *
        by_cases hu : u = n
        · have e2 : (u == n) = true := by simpa using hu
          obtain rfl : th = true := by rw [HQ2.out]; exact decide_eq_true hu
          clear hu HQ2 HT
          go_wp2_with fail
          go_meet
          exact ⟨rfl, rfl⟩
        · have e2 : (u == n) = false := by simpa using hu
          obtain rfl : th = false := by rw [HQ2.out]; exact decide_eq_false hu
          clear hu HQ2 HT
          go_wp2_with fail
          go_meet
          exact ⟨rfl, rfl⟩
      · have e1 : decide ((k : Int) < (l.length : Int)) = false := decide_eq_false (by omega)
        have e1' : decide (k < l.length) = false := decide_eq_false hlt
        obtain rfl : th = false := by rw [HT.out]; exact decide_eq_false (fun h => hlt (by rw [HLV.out]; exact (HTH.out.1 h).1))
        clear HT hlt
        go_wp2_with fail
        go_meet
        exact ⟨rfl, rfl⟩
    case rest =>
    obtain ⟨rfl, rfl⟩ := hcut
    cases th
    case true =>
      have HE := Lib.hid (show addE vs n = 5 by rw [HAE.out, if_pos (of_decide_eq_true HT.out.symm)])
      have HF := Lib.hid (show F = (5, []) by rw [HFF.out, HE.out]; rfl)
      go_wp2_with fail
      go_ret2
      rw [HF.out]
      exact LkRes.err rfl HB1.out
    rw [if_neg (of_decide_eq_false HT.out.symm)] at HAE
    clear HT HTH
    by_cases hfull : l.length = 100
    · have b2 : ((l.length : Int) == 100) = true := by simp; omega
      have b2' : (l.length == 100) = true := by simp; omega
      have HE := Lib.hid (show addE vs n = 6 by rw [HAE.out, if_pos (by rw [← HLV.out]; exact hfull)])
      have HF := Lib.hid (show F = (6, []) by rw [HFF.out, HE.out]; rfl)
      clear hfull
      go_wp2_with fail
      go_ret2
      rw [HF.out]
      exact LkRes.err rfl HB1.out
    have b2 : ((l.length : Int) == 100) = false := by simp; omega
    have b2' : (l.length == 100) = false := by simp; omega
    have HE := Lib.hid (show addE vs n = 0 by rw [HAE.out, if_neg (by rw [← HLV.out]; exact hfull)])
    have HF := Lib.hid (show F = (0, vs.take k ++ ⟨n, [], []⟩ :: vs.drop k) by rw [HFF.out, HE.out, HPU.out]; rfl)
    have hl99 : l.length ≤ 99 := by omega
    have HCP := Lib.hid (lkcopy_any A c l vs w1 (HIN.out w1 HB1.out) hl100)
    clear hfull HE HFF HPU HAE b2 b2' d1
    go_wp2_with fail
    refine HCP.out.mono ?_
    rintro e w2 ⟨A', c', l', rfl, hl', ho, hb2⟩
    have HB2 := Lib.hid (HB1.out.trans (hb2.mono HB1.out.size))
    have hs12 : w1.heap.size ≤ (w2.alloc (.cells #[.int .i64 n, .slice none 0 0, .slice none 0 0] 114)).heap.size := Nat.le_trans hb2.size (by simp)
    have HO := Lib.hid (ho.below ((Below.refl w2.heap.size w2).alloc (Nat.le_refl _) (.cells #[.int .i64 n, .slice none 0 0, .slice none 0 0] 114)))
    have HL := Lib.hid hl'
    have hkl' : k ≤ l'.length := by omega
    have his := insert_lk w1.heap.size c' k w2.heap.size A' l' ⟨n, bc0, bc0⟩ (w2.alloc (.cells #[.int .i64 n, .slice none 0 0, .slice none 0 0] 114)) HO.out.row hkl' (Box.new w2 114 #[.int .i64 n, .slice none 0 0, .slice none 0 0]) (fun h => by have := (blkS_lt ho.row h).2; omega) hs12 (by omega)
    rw [hl'] at his
    have HIS := Lib.hid his
    clear ho his hb2 hl' HCP
    go_wp2_with fail
    refine HIS.out.mono ?_
    rintro e w3 ⟨g', o', cap', he, hown, hon, _⟩
    have hzl : (l'.take k ++ (⟨n, bc0, bc0⟩ : LkC) :: l'.drop k).length = l.length + 1 := by
      have := HL.out
      simp only [List.length_append, List.length_take, List.length_cons, List.length_drop]
      omega
    rw [hzl] at he
    have HZL := Lib.hid hzl
    subst he
    clear hzl
    have HON := Lib.hid hon
    have HOW := Lib.hid hown
    clear hon hown HIS
    go_wp2_with fail
    go_ret2
    rw [HF.out]
    have hz : (l'.take k ++ ⟨n, bc0, bc0⟩ :: l'.drop k).length = (vs.take k ++ ⟨n, [], []⟩ :: vs.drop k).length := by
      have := HO.out.len
      simp only [List.length_append, List.length_take, List.length_cons, List.length_drop]
      omega
    refine ⟨some ⟨g', o', none⟩, cap', l'.take k ++ ⟨n, bc0, bc0⟩ :: l'.drop k, by rw [← hz, HZL.out]; rfl, hz, lkRow.of_own hz HOW.out (fun j hj => ?_) ?_, ?_⟩
    · have hvk : k ≤ vs.length := by rw [← HO.out.len]; exact hkl'
      rw [getD_ins lkc0 ⟨n, bc0, bc0⟩ l' k j hkl', getD_ins lk0 ⟨n, [], []⟩ vs k j hvk]
      rw [List.length_append, List.length_take, List.length_cons, List.length_drop] at hj
      by_cases h1 : j < k
      · rw [if_pos h1, if_pos h1]
        exact HO.out.keepE HON.out j (by omega)
      · rw [if_neg h1, if_neg h1]
        by_cases h2 : j = k
        · rw [if_pos h2, if_pos h2]
          exact ⟨rfl, IIn.none, IIn.none⟩
        · rw [if_neg h2, if_neg h2]
          exact HO.out.keepE HON.out (j - 1) (by omega)
    · rw [List.length_append, List.length_take, List.length_cons, List.length_drop]
      have := HL.out
      unfold reachBytes
      omega
    · exact (HB2.out.alloc HB2.out.size _).trans (HON.out.to_below (Below.refl _ _) (Nat.le_trans HB1.out.size hs12) (fun i hi => Nat.le_trans HB1.out.size (blkS_lt HO.out.row hi).1))
end Go.Proofs.Ytgjimjpbogadjaa
