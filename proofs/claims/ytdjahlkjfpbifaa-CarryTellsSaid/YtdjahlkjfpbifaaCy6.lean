
/-
  A value copied from one heap to another (carry.Over).
-/
import Derived.Test.YtdjahlkjfpbifaaCy3
import Derived.Test.YtdjahlkjfpbifaaInsAny
import Derived.Deep.QuietTactic
import Derived.BigQuiet
namespace Go.Proofs.Ytdjahlkjfpbifaa
open Go.RowKit

def cs0 (h : List Nat) : CSt := ⟨h, fun _ => none, []⟩
/-- What copying gives: what is left, the other heap, the word. -/
def overF (g h : List Nat) (u : Nat) : Except Int (List Nat × List Nat × Nat) :=
  if (allR g).2 ≠ 0 then .error (allR g).2
  else if (allR h).2 ≠ 0 then .error (allR h).2
  else match carF g 40 u (cs0 h) with
    | .error e => .error e
    | .ok (x, s') => .ok (stampF (fun z => s'.cs.contains z) g, s'.h, x)
theorem allR_len {h : List Nat} (e : (allR h).2 = 0) : h.length ≤ 4000 := by
  unfold allR at e
  by_cases h1 : 4000 < h.length
  · rw [if_pos h1] at e; cases e
  · omega
theorem CInv.start {g h : List Nat} (hl : h.length ≤ 4000) (hf : ∀ x ∈ h, x < 18446744073709551616) : CInv g (cs0 h) :=
  ⟨hl, hf, (fun n c e => by cases e), (fun n e => by cases e), Nat.zero_le _⟩
theorem allR_err {h : List Nat} : (allR h).2 ≠ 0 → (allR h).2 ≠ 0 := id

theorem flat_hu (l : List Nat) : flat huC l = l.map fun y : Nat => Value.int .u64 (y : Int) := by
  unfold flat huC
  induction l with
  | nil => rfl
  | cons a l ih => simp only [List.flatMap_cons, List.map_cons]; rw [ih]; rfl
theorem splice_two {l : List Nat} {k : Nat} (hk : k + 1 < l.length) : splice (flat huC l) k [.int .u64 1, .int .u64 0] = flat huC ((l.set k 1).set (k + 1) 0) := by
  rw [flat_hu, flat_hu]
  unfold splice
  apply List.ext_getElem
  · simp; omega
  · intro i h1 h2
    simp only [List.getElem_map, List.getElem_set]
    have hi : i < l.length := by simpa using h2
    by_cases e1 : i < k
    · rw [List.getElem_append_left (by simp; omega), if_neg (by omega), if_neg (by omega)]
      simp
    · rw [List.getElem_append_right (by simp; omega)]
      have hm : min k l.length = k := by omega
      simp only [List.length_take, List.length_map, hm]
      by_cases e2 : i = k
      · subst e2
        rw [if_neg (by omega), if_pos rfl]
        simp
      · by_cases e3 : i = k + 1
        · subst e3
          rw [if_pos rfl]
          simp
        · rw [if_neg (by omega), if_neg (by omega)]
          rw [List.getElem_append_right (by simp; omega)]
          simp only [List.length_cons, List.length_nil, List.getElem_drop, List.getElem_map]
          congr 2
          congr 1
          omega
/-- What is left when the first j cells were struck. -/
theorem stamp_next {g : List Nat} {s : CSt} (hi : CInv g s) {j k : Nat} (hj : j < s.cs.length) (hk : s.cs.getD j 0 = (k : Int)) : ((stampF (fun z => (s.cs.take j).contains z) g).set k 1).set (k + 1) 0 = stampF (fun z => (s.cs.take (j + 1)).contains z) g := by
  have hm : s.cs.getD j 0 ∈ s.cs := by rw [List.getD_eq_getElem?_getD, List.getElem?_eq_getElem hj]; exact List.getElem_mem hj
  refine stampF_add ?_ (fun z => ?_)
  · by_cases e : ((s.cs.take j).contains ((k : Int) + 1)) = true
    · have h1 : (k : Int) + 1 ∈ s.cs := List.mem_of_mem_take (List.contains_iff_mem.1 e)
      exact absurd rfl (hi.apart (hk ▸ hm) h1)
    · simpa using e
  · rw [List.take_succ_eq_append_getElem hj]
    have e : s.cs[j] = (k : Int) := by rw [← hk, List.getD_eq_getElem?_getD, List.getElem?_eq_getElem hj]; rfl
    rw [e]
    simp only [List.contains_eq_mem, List.mem_append, List.mem_cons, List.not_mem_nil, or_false, Bool.decide_or]
    rfl

/-- How a pair of heaps, a word and an error are handed back. -/
def OverPost (r : Except Int (List Nat × List Nat × Nat)) (w : World) (e : Ending) (w' : World) : Prop :=
  Below w.heap.size w w' ∧ match r with
    | .error er => e = .returned (.tuple #[.slice none 0 0, .slice none 0 0, .int .u64 0, .int .i64 er])
    | .ok (l, h, x) => ∃ A c B d, e = .returned (.tuple #[.slice A l.length c, .slice B h.length d, .int .u64 (x : Int), .int .i64 0]) ∧ HpIn w' A c l ∧ HpIn w' B d h
theorem OverPost.err {r : Except Int (List Nat × List Nat × Nat)} {w w' : World} {er : Int} (hr : r = .error er) (hb : Below w.heap.size w w') : OverPost r w (.returned (.tuple #[.slice none 0 0, .slice none 0 0, .int .u64 0, .int .i64 er])) w' := by
  subst hr
  exact ⟨hb, rfl⟩
theorem ob10 : OkO ⟨0, 1, 0, [], []⟩ := by unfold OkO; decide
theorem ob10_words : wordsF ⟨0, 1, 0, [], []⟩ = [1, 0] := by decide

theorem stampF_fit {P : Int → Bool} {g : List Nat} (hg : ∀ x ∈ g, x < 18446744073709551616) : ∀ x ∈ stampF P g, x < 18446744073709551616 := by
  intro x hx
  unfold stampF at hx
  rw [List.mem_map] at hx
  obtain ⟨i, hi, rfl⟩ := hx
  rw [List.mem_range] at hi
  split
  · decide
  · split
    · decide
    · rw [List.getD_eq_getElem?_getD, List.getElem?_eq_getElem hi]
      exact hg _ (List.getElem_mem hi)
/-- What is put where a cell went. -/
theorem put_gone (w : World) : Calls Try.prog 93 #[.slice none 0 0, .agg #[.int .i64 0, .int .i64 1, .int .i64 0, .string ⟨#[]⟩, .slice none 0 0]] w fun e w' => ∃ g7 o7 c7, e = .returned (.tuple #[.slice (some ⟨g7, o7, none⟩) 2 c7, .int .i64 0, .int .i64 0]) ∧ OwnAt w' w.heap.size 90 1 (some ⟨g7, o7, none⟩) 2 c7 [.int .u64 1, .int .u64 0] ∧ Below w.heap.size w w' := by
  refine (put_room none 0 [] ⟨0, 1, 0, [], []⟩ none 0 0 w.heap.size w ⟨Row.nil, fun _ => rfl, Nat.le_refl _, Nat.zero_le _, fun x hx => by cases hx⟩ (by decide) OwnAt.nil rfl ob10 (by rw [ob10_words]; decide)).mono ?_
  rintro e w' ⟨A', c', rfl, ho, hb⟩
  rw [ob10_words] at ho ⊢
  rcases ho.form with ⟨_, h2, _⟩ | ⟨g7, o7, rfl⟩
  · cases h2
  · exact ⟨g7, o7, c', rfl, ho, hb⟩
/-- The transfer as it begins. -/
theorem TSt.start {base : Nat} {w : World} {Af At : Option Addr} {cf ct : Nat} {g h : List Nat} {b1 b2 : Nat} (h1 : OwnAt w b1 90 1 Af g.length cf (flat huC g)) (h2 : OwnAt w b2 90 1 At h.length ct (flat huC h)) (hg : ∀ x ∈ g, x < 18446744073709551616) (hh : ∀ x ∈ h, x < 18446744073709551616) (hl : h.length ≤ 4000) (hb : base ≤ w.heap.size) :
    TSt base ((w.alloc (.map #[] 0)).alloc (.cells #[.slice Af g.length cf, .slice At h.length ct, .map (some w.heap.size), .slice none 0 0] 186)) (w.alloc (.map #[] 0)).heap.size w.heap.size Af cf g At ct none 0 (cs0 h) := by
  have hsz : (w.alloc (.map #[] 0)).heap.size = w.heap.size + 1 := by simp
  have hbl : Below w.heap.size w ((w.alloc (.map #[] 0)).alloc (.cells #[.slice Af g.length cf, .slice At h.length ct, .map (some w.heap.size), .slice none 0 0] 186)) := ((Below.refl _ _).alloc (Nat.le_refl _) _).alloc (by rw [hsz]; omega) _
  have hfar : ∀ b, b < w.heap.size → ¬ tfB (w.alloc (.map #[] 0)).heap.size w.heap.size none b ∧ b < ((w.alloc (.map #[] 0)).alloc (.cells #[.slice Af g.length cf, .slice At h.length ct, .map (some w.heap.size), .slice none 0 0] 186)).heap.size := fun b hb => ⟨fun e => by
    rcases e with e | e | e
    · omega
    · omega
    · exact blkO_none b e, Nat.lt_of_lt_of_le hb hbl.size⟩
  refine ⟨Box.new _ _ _, (HpIn.own h1 hg).below hbl, (HpIn.own h2 hh).below hbl, ((MapV.made w).mono (Nat.zero_le _)).alloc _, OwnAt.nil, CInv.start hl hh, by rw [hsz]; omega, hb, by rw [hsz]; omega, fun b hb => hfar b (blkO_own h1 hb).2, fun b hb => hfar b (blkO_own h2 hb).2, blkO_none _, blkO_none _⟩
theorem two_oneY : ∀ u ∈ [Value.int .u64 1, Value.int .u64 0], u.oneCell' = true := by
  intro u hu
  simp only [List.mem_cons, List.not_mem_nil, or_false] at hu
  rcases hu with rfl | rfl <;> rfl
theorem own_cells2Y {w : World} {g : Nat} {e : TypeId} {c0 c1 : Value} (h : Box w g e #[c0, c1]) :
    w.cell? ⟨g, 0, none⟩ = some c0 ∧ w.cell? ⟨g, 1, none⟩ = some c1 ∧ w.frozen? ⟨g, 0, none⟩ = false := ⟨h.cell 0, h.cell 1, h.frozen 0⟩
set_option maxRecDepth 100000 in
set_option maxHeartbeats 8000000 in
theorem over_any (Af : Option Addr) (cf : Nat) (g : List Nat) (At : Option Addr) (ct : Nat) (h : List Nat) (u : Nat) (W : World) (hf : HpIn W Af cf g) (ht : HpIn W At ct h) (hu : u < 18446744073709551616) :
    Calls Try.prog 38 #[.slice Af g.length cf, .slice At h.length ct, .int .u64 (u : Int)] W (OverPost (overF g h u) W) := by
  have HF := Lib.hid hf
  have HT := Lib.hid ht
  have HOG := Lib.hid (fun (w' : World) (hb : Below W.heap.size W w') => objects_any Af cf g w' (hf.below hb))
  have HOH := Lib.hid (fun (w' : World) (hb : Below W.heap.size W w') => objects_any At ct h w' (ht.below hb))
  have HR : Hid (overF g h u = if (allR g).2 ≠ 0 then .error (allR g).2 else if (allR h).2 ≠ 0 then .error (allR h).2 else match carF g 40 u (cs0 h) with
    | .error e => .error e
    | .ok (x, s') => .ok (stampF (fun z => s'.cs.contains z) g, s'.h, x)) := Lib.hid rfl
  generalize overF g h u = r at *
  have HB1 := Lib.hid ((Below.refl W.heap.size W).alloc (Nat.le_refl _) (.cells #[.slice Af g.length cf, .slice At h.length ct] 89))
  have HX1 := Lib.hid (Box.new W 89 #[.slice Af g.length cf, .slice At h.length ct])
  clear hf ht
  go_enter Try.func38, Try.ntmps38
  go_upto_region 2 with fail
  obtain ⟨w1, hw1⟩ : ∃ w1, w1 = W.alloc (.cells #[.slice Af g.length cf, .slice At h.length ct] 89) := ⟨_, rfl⟩
  rw [← hw1] at HB1 HX1 ⊢
  clear hw1
  have hgl := HX1.out.lt
  obtain ⟨gl, hgl2⟩ : ∃ gl, W.heap.size = gl := ⟨_, rfl⟩
  rw [hgl2] at HX1 ⊢
  clear hgl2 hgl
  go_loopg [26] 2 (fun gk iv wr => ∃ k : Nat, gk = 2 - k ∧ k ≤ 2 ∧ iv = .int .i64 k ∧ Hid (0 < k → (allR g).2 = 0) ∧ Hid (1 < k → (allR h).2 = 0) ∧ Below W.heap.size W wr ∧ Box wr gl 89 #[.slice Af g.length cf, .slice At h.length ct])
  case atStart => exact ⟨0, rfl, by omega, rfl, Lib.hid (fun h => absurd h (by omega)), Lib.hid (fun h => absurd h (by omega)), HB1.out, HX1.out⟩
  case round =>
    obtain ⟨k, hgk, hk, rfl, HG, HH, hbr, hxr⟩ := hrel
    have HK := Lib.hid hgk
    have HBR := Lib.hid hbr
    have HXR := Lib.hid hxr
    obtain ⟨l0, l1, _⟩ := own_cells2Y hxr
    clear hgk hbr hxr HB1 HX1
    by_cases hk2 : k < 2
    · have hki : (k : Int) < 2 := by omega
      have hk0 : (0 : Int) ≤ (k : Int) := by omega
      rcases (show k = 0 ∨ k = 1 by omega) with rfl | rfl
      · have HC := Lib.hid (HOG.out wr HBR.out)
        clear HOG HOH
        go_upto_region 5 with (go_at_call 91; refine HC.out.mono ?_; rintro e w2 ⟨hb2, A, n, c, ys, er, rfl, _, _, hr2⟩; have HB2 := Lib.hid (HBR.out.trans (hb2.mono HBR.out.size)); have HX2 := Lib.hid (HXR.out.below hb2 HXR.out.lt); have HE := Lib.hid hr2; clear hb2 hr2)
        by_cases her : er = 0
        · subst her
          have HG2 : Hid (0 < 0 + 1 → (allR g).2 = 0) := Lib.hid (fun _ => by rw [HE.out])
          go_wp2_with fail
          go_roundg 1
          case measure => have := HK.out; omega
          case rel => exact ⟨0 + 1, rfl, by omega, rfl, HG2, Lib.hid (fun h => absurd h (by omega)), HB2.out, HX2.out⟩
        · have b3 : (er != 0) = true := by simpa using her
          have HRR := Lib.hid (show r = .error er by rw [HR.out, HE.out]; dsimp only; rw [if_pos her])
          clear her
          go_wp2_with fail
          refine bodyPost_ret (v := .tuple #[.slice none 0 0, .slice none 0 0, .int .u64 0, .int .i64 er]) (by simp [results, Try.results38, go_sem]) rfl ?_
          exact OverPost.err HRR.out HB2.out
      · have HC := Lib.hid (HOH.out wr HBR.out)
        clear HOG HOH
        go_upto_region 5 with (go_at_call 91; refine HC.out.mono ?_; rintro e w2 ⟨hb2, A, n, c, ys, er, rfl, _, _, hr2⟩; have HB2 := Lib.hid (HBR.out.trans (hb2.mono HBR.out.size)); have HX2 := Lib.hid (HXR.out.below hb2 HXR.out.lt); have HE := Lib.hid hr2; clear hb2 hr2)
        by_cases her : er = 0
        · subst her
          have HH2 : Hid (1 < 1 + 1 → (allR h).2 = 0) := Lib.hid (fun _ => by rw [HE.out])
          have HG2 : Hid (0 < 1 + 1 → (allR g).2 = 0) := Lib.hid (fun _ => HG.out (by omega))
          go_wp2_with fail
          go_roundg 0
          case measure => have := HK.out; omega
          case rel => exact ⟨1 + 1, rfl, by omega, rfl, HG2, HH2, HB2.out, HX2.out⟩
        · have b3 : (er != 0) = true := by simpa using her
          have HRR := Lib.hid (show r = .error er by rw [HR.out, HG.out (by omega), if_neg (by simp), HE.out]; dsimp only; rw [if_pos her])
          clear her
          go_wp2_with fail
          refine bodyPost_ret (v := .tuple #[.slice none 0 0, .slice none 0 0, .int .u64 0, .int .i64 er]) (by simp [results, Try.results38, go_sem]) rfl ?_
          exact OverPost.err HRR.out HB2.out
    · obtain rfl : k = 2 := by omega
      have hge := HG.out (by omega)
      have hhe := HH.out (by omega)
      have hgl4 := allR_len hge
      have hhl4 := allR_len hhe
      have HR2 := Lib.hid (show r = match carF g 40 u (cs0 h) with
        | .error e => .error e
        | .ok (x, s') => .ok (stampF (fun z => s'.cs.contains z) g, s'.h, x) by rw [HR.out, if_neg (by simpa using hge), if_neg (by simpa using hhe)])
      have HCF := Lib.hid (clone_hu Af cf g W.heap.size wr (HF.out.row.below HBR.out) HF.out.none (by omega))
      have HCT := Lib.hid (fun (w' : World) (hb : Below W.heap.size W w') => clone_hu At ct h W.heap.size w' (HT.out.row.below hb) HT.out.none (by omega))
      clear hge hhe HG HH HR HK HOG HOH l0 l1 hk hk2 HXR
      have hmm := @run_makeMap Try.prog
      go_wp2_with fail
      refine HCF.out.mono ?_
      rintro e w3 ⟨v3, rfl, hown3, hb3⟩
      obtain ⟨A3, c3, rfl, hoa3⟩ := OwnAt.of_own hown3
      have HB3 := Lib.hid (HBR.out.trans (hb3.mono HBR.out.size))
      have HA3 := Lib.hid hoa3
      have HC4 := Lib.hid (HCT.out w3 HB3.out)
      clear hown3 hoa3 hb3 HCF HCT
      go_wp2_with fail
      refine HC4.out.mono ?_
      rintro e w4 ⟨v4, rfl, hown4, hb4⟩
      obtain ⟨A4, c4, rfl, hoa4⟩ := OwnAt.of_own hown4
      have HB4 := Lib.hid (HB3.out.trans (hb4.mono HB3.out.size))
      have HA34 := Lib.hid (HA3.out.below hb4)
      have HA4 := Lib.hid hoa4
      have hst := TSt.start (base := W.heap.size) HA34.out hoa4 HF.out.fit HT.out.fit hhl4 HB4.out.size
      rw [show (w4.alloc (.map #[] 0)).heap.size = w4.heap.size + 1 by simp] at hst
      have hbl : Below W.heap.size W ((w4.alloc (.map #[] 0)).alloc (.cells #[.slice A3 g.length c3, .slice A4 h.length c4, .map (some w4.heap.size), .slice none 0 0] 186)) := (HB4.out.alloc HB4.out.size _).alloc (Nat.le_trans HB4.out.size (by simp)) _
      have hal : Below w4.heap.size w4 ((w4.alloc (.map #[] 0)).alloc (.cells #[.slice A3 g.length c3, .slice A4 h.length c4, .map (some w4.heap.size), .slice none 0 0] 186)) := ((Below.refl _ _).alloc (Nat.le_refl _) _).alloc (by simp) _
      have HST5 := Lib.hid hst
      have HB5 := Lib.hid hbl
      have HA35 := Lib.hid ((HA34.out.below hal).lower (base' := W.heap.size) HBR.out.size)
      have hlt3 : ∀ b, blkO A3 b → W.heap.size ≤ b ∧ b < w3.heap.size := fun b hb => by have h1 := blkO_own HA3.out hb; have h2 := HBR.out.size; omega
      have hlt4 : ∀ b, blkO A4 b → w3.heap.size ≤ b := fun b hb => (blkO_own HA4.out hb).1
      have HL3 := Lib.hid hlt3
      have HL4 := Lib.hid hlt4
      have hs45 := hal.size
      have hs34 := hb4.size
      clear hown4 hoa4 hb4 hst hbl hal hlt3 hlt4 HC4 HA34
      go_upto_region 9 with fail
      generalize (w4.alloc (.map #[] 0)).alloc (.cells #[.slice A3 g.length c3, .slice A4 h.length c4, .map (some w4.heap.size), .slice none 0 0] 186) = w5 at *
      obtain ⟨gt, hgt⟩ : ∃ gt, w4.heap.size + 1 = gt := ⟨_, rfl⟩
      rw [hgt] at HST5 ⊢
      obtain ⟨gm, hgm⟩ : ∃ gm, w4.heap.size = gm := ⟨_, rfl⟩
      rw [hgm] at HST5
      have hs3m : w3.heap.size ≤ gm := by omega
      have hs3t : w3.heap.size ≤ gt := by omega
      have hcall := copies_any 40 W.heap.size u (cs0 h) gt gm A3 c3 g A4 c4 none 0 1 w5 hu HST5.out (by decide) (by decide) HB5.out.size
      unfold CyPost at hcall
      have hmm2 := hmm
      clear hgt hgm hmm hmm2
      rcases hrc : carF g 40 u (cs0 h) with er | ⟨x, s'⟩
      · rw [hrc] at hcall
        dsimp only at hcall
        have HC := Lib.hid hcall
        have hne := carF_err g 40 u (cs0 h) er hrc
        have b3 : (er != 0) = true := by simp [hne]
        have HRR := Lib.hid (show r = .error er by rw [HR2.out, hrc])
        clear hcall hrc hne
        go_upto_region 10 with (go_at_call 92; refine HC.out.mono ?_; rintro e w6 ⟨ho6, rfl⟩)
        have hb6 : Below W.heap.size W w6 := ho6.to_below HB5.out HB5.out.size (fun b hb => (HST5.out.lt b hb).1)
        clear ho6
        go_wp2_with fail
        refine bodyPost_ret (v := .tuple #[.slice none 0 0, .slice none 0 0, .int .u64 0, .int .i64 er]) (by simp [results, Try.results38, go_sem]) rfl ?_
        exact OverPost.err HRR.out hb6
      · rw [hrc] at hcall
        dsimp only at hcall
        have HC := Lib.hid hcall
        have HRR := Lib.hid (show r = .ok (stampF (fun z => s'.cs.contains z) g, s'.h, x) by rw [HR2.out, hrc])
        clear hcall hrc
        go_upto_region 10 with (go_at_call 92; refine HC.out.mono ?_; rintro e w6 ⟨ho6, rfl, A6, c6, Ac, cc, hst6, hA6, _⟩; have HO6 := Lib.hid ho6; have HST6 := Lib.hid hst6; have HA6 := Lib.hid hA6; clear ho6 hst6 hA6)
        have HB6 : Hid (Below W.heap.size W w6) := Lib.hid (HO6.out.to_below HB5.out HB5.out.size (fun b hb => (HST5.out.lt b hb).1))
        have HA36 := Lib.hid (HA35.out.only HO6.out (fun b hb => (HST5.out.ff b hb).1))
        have HN46 : Hid (∀ b, blkO A6 b → ¬ blkO A3 b) := Lib.hid (fun b hb e => by
          have h1 := (HL3.out b e).2
          rcases HA6.out b hb with e2 | e2
          · have := HL4.out b e2; omega
          · omega)
        clear HC HA35
        have HPG := Lib.hid (put_gone w6)
        go_upto_region 13 with (go_at_call 93; refine HPG.out.mono ?_; rintro e w7 ⟨g7, o7, c7, rfl, ho7, hb7⟩; have HO7 := Lib.hid ho7; have HB67 := Lib.hid hb7; clear ho7 hb7)
        have HST7 := Lib.hid (HST6.out.on HB67.out)
        have HA37 := Lib.hid (HA36.out.below HB67.out)
        have HB7 := Lib.hid (HB6.out.trans (HB67.out.mono HB6.out.size))
        have hs67 := HB67.out.size
        have hs56 := HO6.out.size
        have HN7 : Hid (¬ blkO A3 g7) := Lib.hid (fun e => by have h1 := (HL3.out _ e).2; have h2 := HO7.out.lt; omega)
        obtain ⟨l0, l1, l2, l3, _⟩ := own_cells4 HST7.out.bx
        clear HST6 HA36 HPG
        go_upto_region 14 with fail
        clear l0 l1 l2 l3
        have HS0 := Lib.hid (show stampF (fun z => (s'.cs.take 0).contains z) g = g from (stampF_congr (Q := fun _ => false) g (fun z => by rw [List.take_zero]; rfl)).trans (stampF_none g))
        have HA30 : Hid (OwnAt w7 W.heap.size 90 1 A3 g.length c3 (flat huC (stampF (fun z => (s'.cs.take 0).contains z) g))) := Lib.hid (by rw [HS0.out]; exact HA37.out)
        have HNT : Hid (∀ b, blkO A3 b → b ≠ gt ∧ ¬ blkO Ac b ∧ ¬ blkO A6 b) := Lib.hid (fun b hb => ⟨fun e => (HST7.out.ff b hb).1 (.inl e), fun e => (HST7.out.ff b hb).1 (.inr (.inr e)), fun e => HN46.out b e hb⟩)
        have HINV := Lib.hid HST7.out.inv
        obtain ⟨i0, z0, hi0, _, hz1, _, _⟩ := hu_parts
        go_loopg [66] s'.cs.length (fun gk iv wr => ∃ k : Nat, gk = s'.cs.length - k ∧ k ≤ s'.cs.length ∧ iv = .int .i64 k ∧ Only (fun b => blkO A3 b) w7 wr ∧ OwnAt wr W.heap.size 90 1 A3 g.length c3 (flat huC (stampF (fun z => (s'.cs.take k).contains z) g)))
        case atStart => exact ⟨0, by omega, by omega, rfl, Only.refl _ _, HA30.out⟩
        case round =>
          clear HA30 HS0 HA37
          obtain ⟨k, hgk, hk, rfl, hon, how⟩ := hrel
          have HK := Lib.hid hgk
          have HON := Lib.hid hon
          have HOW := Lib.hid how
          clear hgk hon how
          have HCL := Lib.hid HINV.out.cnt
          have HCL2 := Lib.hid HINV.out.len
          have hcl : s'.cs.length ≤ 4000 := by have h1 := HCL.out; have h2 := HCL2.out; omega
          obtain ⟨l0, l1, l2, l3, _⟩ := own_cells4 (HON.out.box HST7.out.bx (fun e => (HNT.out gt e).1 rfl))
          by_cases hlt : k < s'.cs.length
          · have hki : (k : Int) < (s'.cs.length : Int) := by omega
            have hk0 : (0 : Int) ≤ (k : Int) := by omega
            have hmem : s'.cs.getD k 0 ∈ s'.cs := by rw [List.getD_eq_getElem?_getD, List.getElem?_eq_getElem hlt]; exact List.getElem_mem hlt
            obtain ⟨q, hq1, hq2, _, _⟩ := HINV.out.cells _ hmem
            obtain ⟨b, o1, rfl, _, hcell⟩ := Row.int (HST7.out.oc.row.only (Nat.le_refl _) HON.out (fun a ha e => (HNT.out _ e).2.1 (by rw [ha]; rfl))) hlt
            rw [hq1] at hcell
            have HNX := Lib.hid (stamp_next HINV.out hlt hq1)
            rcases HOW.out.form with ⟨_, h0, _⟩ | ⟨g3, o3, rfl⟩
            · omega
            have hcap := HOW.out.cap_le
            have q1 : ¬ c3 = q := by omega
            have q2 : (q : Int) ≤ (g.length : Int) := by omega
            have q3 : (0 : Int) ≤ (q : Int) := by omega
            have q4 : q ≤ g.length := by omega
            have q5 : g.length ≤ c3 := hcap.1
            have q6 : (g.length : Int) ≤ (c3 : Int) := by omega
            have HO7R := Lib.hid (HO7.out.only HON.out (fun b hb e => HN7.out (by have h1 := blkO_some hb; dsimp only at h1; subst h1; exact e)))
            have HSRC : Hid (∀ j v, [Value.int .u64 1, .int .u64 0][j]? = some v → wr.cell? ((⟨g7, o7, none⟩ : Addr).add j) = some v) := Lib.hid (fun j v hv => by rw [addr_add]; exact HO7R.out.cells j v hv)
            have HLEN := Lib.hid hq2
            clear hcap hmem hq1 hq2
            go_wp2_with ((refine wpList_copy_at rfl (.tmp 75) (.tmp 76) 89 rfl W.heap.size 90 i0 1 Try.underlying89 hi0 hz1 g3 o3 g.length c3 _ HOW.out q (o3 + q) (g.length - q) (c3 - q) rfl ⟨g7, o7, none⟩ 2 c7 rfl rfl [.int .u64 1, .int .u64 0] ?_ ?_ HSRC.out two_oneY ?_); (have h1 := HLEN.out; simp only [Nat.min_def]; split <;> simp <;> omega); (have h1 := HLEN.out; simp; omega); intro w8 hw8 ho8; rw [splice_two (by rw [stampF_len]; exact HLEN.out), HNX.out] at hw8; have HW8 := Lib.hid hw8; have HO8 := Lib.hid (HON.out.trans (ho8.more (fun b hb => by rw [hb]; rfl))); clear hw8 ho8)
            go_roundg (s'.cs.length - (k + 1))
            case measure => have := HK.out; omega
            case rel => exact ⟨k + 1, rfl, by omega, by go_num, HO8.out, HW8.out⟩
          · obtain rfl : k = s'.cs.length := by omega
            go_wp2_with fail
            go_quiet (fail)
            go_wp2_with fail
            refine bodyPost_ret (v := .tuple #[.slice A3 g.length c3, .slice A6 s'.h.length c6, .int .u64 (x : Int), .int .i64 0]) (by simp [results, Try.results38, go_sem]) rfl ?_
            rw [HRR.out]
            have hdn : Only (fun b => blkO A3 b) w7 (wr.drewN nq) := HON.out.drewN nq
            refine ⟨below_drewN (HON.out.to_below HB7.out HB7.out.size (fun b hb => (HL3.out b hb).1)) nq, A3, c3, A6, c6, by rw [stampF_len], ?_, HST7.out.ht.only hdn (fun b hb e => HN46.out b hb e)⟩
            have how := HOW.out.drewN nq
            rw [List.take_length] at how
            exact HpIn.own (by rw [stampF_len]; exact how) (stampF_fit HF.out.fit)
end Go.Proofs.Ytdjahlkjfpbifaa
