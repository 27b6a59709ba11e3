
/-
  The law CarryTells: its walk.
-/
import Derived.Test.YtdjahlkjfpbifaaCy6
import Derived.Test.YtdjahlkjfpbifaaCy5
import Derived.Test.YtdjahlkjfpbifaaHp9
import Derived.Test.YtdjahlkjfpbifaaMapR
namespace Go.Proofs.Ytdjahlkjfpbifaa
open Go.RowKit

theorem rst_start {gc : Nat} {w : World} {Af At : Option Addr} {cf ct : Nat} {g h : List Nat} (hf : HpIn w Af cf g) (ht : HpIn w At ct h) (hl : h.length ≤ 4000) (hc : IntMap w gc 0 (fun _ => none)) (hfb : ∀ b, blkO Af b → b < gc) (htb : ∀ b, blkO At b → b < gc) :
    RSt (w.alloc (.map #[] 0)) w.heap.size gc Af cf g At ct (cs0 h) := by
  have hgc := hc.lt
  have hbl : Below w.heap.size w (w.alloc (.map #[] 0)) := (Below.refl _ _).alloc (Nat.le_refl _) _
  refine ⟨hf.below hbl, ht.below hbl, (MapV.made w).mono (Nat.zero_le _), (hc.mono (Nat.zero_le _)).alloc _, CInv.start hl ht.fit, by omega, fun b hb => ?_, fun b hb => ?_⟩
  · have := hfb b hb
    exact ⟨fun e => by rcases e with e | e <;> omega, by simp; omega⟩
  · have := htb b hb
    exact ⟨fun e => by rcases e with e | e <;> omega, by simp; omega⟩
/-- Struck as far as one has come with the map. -/
def strF (cs : List Int) (left : Int → Bool) (z : Int) : Bool := cs.contains z && !left z
theorem str_start {s : CSt} (g : List Nat) : stampF (strF s.cs (fun x => (csM s x).isSome)) g = g := by
  refine (stampF_congr (Q := fun _ => false) g (fun z => ?_)).trans (stampF_none g)
  unfold strF csM
  by_cases e : z ∈ s.cs
  · dsimp only
    rw [if_pos e]
    simp
  · simp [e]
theorem str_end {cs : List Int} {left : Int → Bool} (g : List Nat) (hl : ∀ x, left x = false) : stampF (strF cs left) g = stampF (fun z => cs.contains z) g :=
  stampF_congr g (fun z => by unfold strF; rw [hl z]; simp)
theorem str_next {g : List Nat} {s : CSt} {left : Int → Bool} (hi : CInv g s) {k : Nat} (hk : (k : Int) ∈ s.cs) : ((stampF (strF s.cs left) g).set k 1).set (k + 1) 0 = stampF (strF s.cs (fun z => left z && !(z == (k : Int)))) g := by
  refine stampF_add ?_ (fun z => ?_)
  · unfold strF
    by_cases e : (s.cs.contains ((k : Int) + 1)) = true
    · exact absurd rfl (hi.apart hk (List.contains_iff_mem.1 e))
    · rw [show s.cs.contains ((k : Int) + 1) = false by simpa using e]; rfl
  · unfold strF
    by_cases e : z = (k : Int)
    · subst e
      rw [show s.cs.contains (k : Int) = true from List.contains_iff_mem.2 hk]
      simp
    · dsimp only
      rw [beq_false_of_ne e]
      cases s.cs.contains z <;> cases left z <;> rfl
theorem csM_some {s : CSt} {x : Int} {v : Value} (h : csM s x = some v) : x ∈ s.cs := by
  unfold csM at h
  by_cases e : x ∈ s.cs
  · exact e
  · rw [if_neg e] at h; cases h
theorem OwnAt.putU {w : World} {base n c g o : Nat} {zs : List Nat} (h : OwnAt w base 90 1 (some ⟨g, o, none⟩) n c (flat huC zs)) (j x : Nat) : OwnAt (w.setCell ⟨g, o + j, none⟩ (.int .u64 (x : Int))) base 90 1 (some ⟨g, o, none⟩) n c (flat huC (zs.set j x)) := by
  have h5 := h.set (j := j) (.int .u64 (x : Int))
  rw [flat_hu, ← List.map_set, ← flat_hu] at h5
  exact h5

set_option maxRecDepth 100000 in
set_option maxHeartbeats 8000000 in
theorem carryTells_walk (Af : Option Addr) (cf : Nat) (g : List Nat) (At : Option Addr) (ct : Nat) (h : List Nat) (u : Nat) (W : World) (hf : HpIn W Af cf g) (ht : HpIn W At ct h) (hu : u < 18446744073709551616) (hfb : ∀ b, blkO Af b → b < W.heap.size) (htb : ∀ b, blkO At b → b < W.heap.size) :
    Calls Try.prog 5 #[.slice Af g.length cf, .slice At h.length ct, .int .u64 (u : Int)] W fun e w' => e = .returned (.bool true) ∧ Below W.heap.size W w' := by
  have HF := Lib.hid hf
  have HT := Lib.hid ht
  have HFB := Lib.hid hfb
  have HTB := Lib.hid htb
  have hov := over_any Af cf g At ct h u W hf ht hu
  have HR : Hid (overF g h u = if (allR g).2 ≠ 0 then .error (allR g).2 else if (allR h).2 ≠ 0 then .error (allR h).2 else match carF g 40 u (cs0 h) with
    | .error e => .error e
    | .ok (x, s') => .ok (stampF (fun z => s'.cs.contains z) g, s'.h, x)) := Lib.hid rfl
  unfold OverPost at hov
  generalize overF g h u = r at *
  have HHG := Lib.hid (fun (w' : World) (hb : Below W.heap.size W w') => heapObjects_any Af cf g w' (hf.below hb))
  have HHH := Lib.hid (fun (w' : World) (hb : Below W.heap.size W w') => heapObjects_any At ct h w' (ht.below hb))
  have hmm := @run_makeMap Try.prog
  have hcapf := hf.cap
  have hlef := hf.le
  unfold maxLen at hcapf
  clear hf ht hfb htb
  by_cases hbad : (allR g).2 ≠ 0
  case pos =>
    rw [if_pos hbad] at HR
    have hr := HR.out
    rw [hr] at hov
    dsimp only at hov
    have HO := Lib.hid hov
    generalize hE : (allR g).2 = E at *
    have b0 : (E == 0) = false := by simpa using hbad
    have b1 : (E != 0) = true := by simpa using hbad
    have HE := Lib.hid hE
    clear hov hr hbad hE HR
    go_enter Try.func5, Try.ntmps5
    go_wp2_with fail
    refine HO.out.mono ?_
    rintro e w1 ⟨hb1, rfl⟩
    have HB1 := Lib.hid hb1
    have HG1 := Lib.hid (HHG.out w1 hb1)
    clear hb1
    go_wp2_with fail
    refine HG1.out.mono ?_
    rintro e w2 ⟨hb2, A, n, c, ys, er, rfl, _, _, hr2⟩
    have HB2 := Lib.hid (HB1.out.trans (hb2.mono HB1.out.size))
    obtain rfl : er = E := by rw [← HE.out, hr2]
    clear hb2 hr2
    go_wp2_with fail
    go_ret
    exact ⟨rfl, HB2.out.alloc HB2.out.size _⟩
  rw [if_neg hbad] at HR
  have hge : (allR g).2 = 0 := by simpa using hbad
  have HGE := Lib.hid hge
  have hgl := allR_len hge
  clear hbad hge
  by_cases hbad : (allR h).2 ≠ 0
  case pos =>
    rw [if_pos hbad] at HR
    have hr := HR.out
    rw [hr] at hov
    dsimp only at hov
    have HO := Lib.hid hov
    generalize hE : (allR h).2 = E at *
    have b0 : (E == 0) = false := by simpa using hbad
    have b1 : (E != 0) = true := by simpa using hbad
    have HE := Lib.hid hE
    clear hov hr hbad hE HR
    go_enter Try.func5, Try.ntmps5
    go_wp2_with fail
    refine HO.out.mono ?_
    rintro e w1 ⟨hb1, rfl⟩
    have HB1 := Lib.hid hb1
    have HG1 := Lib.hid (HHG.out w1 hb1)
    clear hb1
    go_wp2_with fail
    refine HG1.out.mono ?_
    rintro e w2 ⟨hb2, A, n, c, ys, er, rfl, _, _, hr2⟩
    have HB2 := Lib.hid (HB1.out.trans (hb2.mono HB1.out.size))
    obtain rfl : er = 0 := by rw [← HGE.out, hr2]
    have HH2 := Lib.hid (HHH.out w2 HB2.out)
    clear hb2 hr2
    go_wp2_with fail
    refine HH2.out.mono ?_
    rintro e w3 ⟨hb3, A', n', c', ys', er, rfl, _, _, hr3⟩
    have HB3 := Lib.hid (HB2.out.trans (hb3.mono HB2.out.size))
    obtain rfl : er = E := by rw [← HE.out, hr3]
    clear hb3 hr3
    go_wp2_with fail
    go_ret
    exact ⟨rfl, HB3.out.alloc HB3.out.size _⟩
  rw [if_neg hbad] at HR
  have hhe : (allR h).2 = 0 := by simpa using hbad
  have HHE := Lib.hid hhe
  have hhl := allR_len hhe
  clear hbad hhe
  rcases hrc : carF g 40 u (cs0 h) with er0 | ⟨x, s'⟩
  · have hr : r = .error er0 := by rw [HR.out, hrc]
    rw [hr] at hov
    dsimp only at hov
    have HO := Lib.hid hov
    have hne := carF_err g 40 u (cs0 h) er0 hrc
    have b1 : (er0 != 0) = true := by simp [hne]
    clear hov hr hne HR
    go_enter Try.func5, Try.ntmps5
    go_wp2_with fail
    refine HO.out.mono ?_
    rintro e w1 ⟨hb1, rfl⟩
    have HB1 := Lib.hid hb1
    have HG1 := Lib.hid (HHG.out w1 hb1)
    clear hb1
    go_wp2_with fail
    refine HG1.out.mono ?_
    rintro e w2 ⟨hb2, A', n', c', ys, er, rfl, _, _, hr2⟩
    have HB2 := Lib.hid (HB1.out.trans (hb2.mono HB1.out.size))
    have HB12 := Lib.hid hb2
    obtain rfl : er = 0 := by rw [← HGE.out, hr2]
    have HH2 := Lib.hid (HHH.out w2 HB2.out)
    clear hb2 hr2
    go_wp2_with fail
    refine HH2.out.mono ?_
    rintro e w3 ⟨hb3, A'', n'', c'', ys', er, rfl, _, _, hr3⟩
    have HB3 := Lib.hid (HB2.out.trans (hb3.mono HB2.out.size))
    have HB13 := Lib.hid (HB12.out.trans (hb3.mono HB12.out.size))
    obtain rfl : er = 0 := by rw [← HHE.out, hr3]
    clear hb3 hr3
    have HGCM := Lib.hid (MapV.made w3 : IntMap (w3.alloc (.map #[] 0)) w3.heap.size 0 (fun _ => none))
    have HB4 := Lib.hid (HB3.out.alloc HB3.out.size (.map #[] 0))
    have HB14 := Lib.hid (HB13.out.alloc HB13.out.size (.map #[] 0))
    go_upto_region 9 with fail
    generalize w3.alloc (.map #[] 0) = w4 at *
    have hgc : W.heap.size ≤ w3.heap.size := HB3.out.size
    have hgc1 : w1.heap.size ≤ w3.heap.size := HB13.out.size
    obtain ⟨gc, hgc2⟩ : ∃ gc, w3.heap.size = gc := ⟨_, rfl⟩
    rw [hgc2] at HGCM hgc hgc1 ⊢
    clear hgc2
    have hrs := rst_start (HF.out.below HB4.out) (HT.out.below HB4.out) hhl HGCM.out (fun b hb => Nat.lt_of_lt_of_le (HFB.out b hb) hgc) (fun b hb => Nat.lt_of_lt_of_le (HTB.out b hb) hgc)
    have HRS := Lib.hid hrs
    have hcall := carries_any 40 u (cs0 h) w4.heap.size gc Af cf g At ct 1 (w4.alloc (.map #[] 0)) hu hrs (by decide) (by decide)
    have HB5 := Lib.hid (HB4.out.alloc HB4.out.size (.map #[] 0))
    have HB15 := Lib.hid (HB14.out.alloc HB14.out.size (.map #[] 0))
    unfold CrPost at hcall
    rw [hrc] at hcall
    dsimp only at hcall
    have HC := Lib.hid hcall
    have HGM := Lib.hid (show W.heap.size ≤ w4.heap.size from HB4.out.size)
    clear hcall hrs hrc
    go_upto_region 10 with (go_at_call 40; refine HC.out.mono ?_; rintro e w6 ⟨ho6, rfl⟩)
    have hb6 : Below W.heap.size W w6 := ho6.to_below HB5.out HB5.out.size (fun b hb => by rcases hb with rfl | rfl; exact HGM.out; exact hgc)
    clear ho6
    go_wp2_with fail
    go_ret
    exact ⟨rfl, hb6⟩
  · have hr : r = .ok (stampF (fun z => s'.cs.contains z) g, s'.h, x) := by rw [HR.out, hrc]
    rw [hr] at hov
    dsimp only at hov
    obtain ⟨ST, hST⟩ : ∃ ST, stampF (fun z => s'.cs.contains z) g = ST := ⟨_, rfl⟩
    rw [hST] at hov
    have HSTP := Lib.hid hST
    have hstl : ST.length = g.length := by rw [← hST, stampF_len]
    rw [hstl] at hov
    have HSTL := Lib.hid hstl
    have HO := Lib.hid hov
    clear hov hr HR hST hstl
    go_enter Try.func5, Try.ntmps5
    go_wp2_with fail
    refine HO.out.mono ?_
    rintro e w1 ⟨hb1, A1, c1, B1, d1, rfl, hl1, hh1⟩
    have HL1 := Lib.hid hl1
    have HH1 := Lib.hid hh1
    clear hl1 hh1
    have HB1 := Lib.hid hb1
    have HG1 := Lib.hid (HHG.out w1 hb1)
    clear hb1
    go_wp2_with fail
    refine HG1.out.mono ?_
    rintro e w2 ⟨hb2, A', n', c', ys, er, rfl, _, _, hr2⟩
    have HB2 := Lib.hid (HB1.out.trans (hb2.mono HB1.out.size))
    have HB12 := Lib.hid hb2
    obtain rfl : er = 0 := by rw [← HGE.out, hr2]
    have HH2 := Lib.hid (HHH.out w2 HB2.out)
    clear hb2 hr2
    go_wp2_with fail
    refine HH2.out.mono ?_
    rintro e w3 ⟨hb3, A'', n'', c'', ys', er, rfl, _, _, hr3⟩
    have HB3 := Lib.hid (HB2.out.trans (hb3.mono HB2.out.size))
    have HB13 := Lib.hid (HB12.out.trans (hb3.mono HB12.out.size))
    obtain rfl : er = 0 := by rw [← HHE.out, hr3]
    clear hb3 hr3
    have HGCM := Lib.hid (MapV.made w3 : IntMap (w3.alloc (.map #[] 0)) w3.heap.size 0 (fun _ => none))
    have HB4 := Lib.hid (HB3.out.alloc HB3.out.size (.map #[] 0))
    have HB14 := Lib.hid (HB13.out.alloc HB13.out.size (.map #[] 0))
    go_upto_region 9 with fail
    generalize w3.alloc (.map #[] 0) = w4 at *
    have hgc : W.heap.size ≤ w3.heap.size := HB3.out.size
    have hgc1 : w1.heap.size ≤ w3.heap.size := HB13.out.size
    obtain ⟨gc, hgc2⟩ : ∃ gc, w3.heap.size = gc := ⟨_, rfl⟩
    rw [hgc2] at HGCM hgc hgc1 ⊢
    clear hgc2
    have hrs := rst_start (HF.out.below HB4.out) (HT.out.below HB4.out) hhl HGCM.out (fun b hb => Nat.lt_of_lt_of_le (HFB.out b hb) hgc) (fun b hb => Nat.lt_of_lt_of_le (HTB.out b hb) hgc)
    have HRS := Lib.hid hrs
    have hcall := carries_any 40 u (cs0 h) w4.heap.size gc Af cf g At ct 1 (w4.alloc (.map #[] 0)) hu hrs (by decide) (by decide)
    have HB5 := Lib.hid (HB4.out.alloc HB4.out.size (.map #[] 0))
    have HB15 := Lib.hid (HB14.out.alloc HB14.out.size (.map #[] 0))
    unfold CrPost at hcall
    rw [hrc] at hcall
    dsimp only at hcall
    have HC := Lib.hid hcall
    have HGM := Lib.hid (show W.heap.size ≤ w4.heap.size from HB4.out.size)
    clear hcall hrs hrc
    go_upto_region 10 with (go_at_call 40; refine HC.out.mono ?_; rintro e w6 ⟨ho6, A6, c6, rfl, hst6, _⟩; have HO6 := Lib.hid ho6; have HST6 := Lib.hid hst6; clear ho6 hst6)
    have HB6 : Hid (Below W.heap.size W w6) := Lib.hid (HO6.out.to_below HB5.out HB5.out.size (fun b hb => by rcases hb with rfl | rfl; exact HGM.out; exact hgc))
    have HCL := Lib.hid (clone_hu Af cf g W.heap.size w6 (HF.out.row.below HB6.out) HF.out.none (by omega))
    go_upto_region 13 with (go_at_call 41; refine HCL.out.mono ?_; rintro e w7 ⟨v7, rfl, hown7, hb7⟩; obtain ⟨A7, c7, rfl, hoa7⟩ := OwnAt.of_own hown7; have HA7 := Lib.hid hoa7; have HB67 := Lib.hid hb7; clear hown7 hoa7 hb7)
    have HB7 := Lib.hid (HB6.out.trans (HB67.out.mono HB6.out.size))
    have HST7 := Lib.hid (HST6.out.on HB67.out)
    have HMC := Lib.hid HST7.out.mc
    go_wp2_with (at_range; refine wpList_range_mapV rfl (.tmp 71) 96 4 rfl Try.underlying96 rfl HMC.out ?_; intro w8 cnt hrg ho8 hs8; have HRG := Lib.hid hrg; have HO8 := Lib.hid ho8; have HS8 := Lib.hid hs8; clear hrg ho8 hs8)
    go_frame
    have hs78 : w7.heap.size < w8.heap.size := by have := HS8.out; omega
    obtain ⟨rr, hrr⟩ : ∃ rr, w7.heap.size = rr := ⟨_, rfl⟩
    rw [hrr] at HRG ⊢
    have HA8 : Hid (OwnAt w8 w6.heap.size 90 1 A7 g.length c7 (flat huC (stampF (strF s'.cs (fun y => (csM s' y).isSome)) g))) := Lib.hid (by rw [str_start]; exact HA7.out.only HO8.out (fun _ _ e => e))
    have HNA : Hid (∀ b, blkO A7 b → b ≠ rr ∧ b ≠ gc) := Lib.hid (fun b hb => by have h1 := blkO_own HA7.out hb; have h2 := HST6.out.lt gc (.inr rfl); omega)
    have HRS6 : Hid (w6.heap.size ≤ rr) := Lib.hid (by have := HB67.out.size; omega)
    have HRR : Hid (W.heap.size ≤ rr) := Lib.hid (by have := HB7.out.size; omega)
    have HB8 : Hid (Below W.heap.size W w8) := Lib.hid (HO8.out.to_below HB7.out HB7.out.size (fun _ e => e.elim))
    have HINV := Lib.hid HST6.out.inv
    have HS67 := Lib.hid (show W.heap.size ≤ w6.heap.size from HB6.out.size)
    clear HMC hrr hs78
    go_loopg [17] cnt (fun gk _v wr => ∃ (left : Int → Bool) (cn : Nat), gk = cn ∧ RngV wr gc rr s'.h.length (csM s') left cn ∧ Only (fun b => blkO A7 b ∨ b = rr) w8 wr ∧ OwnAt wr w6.heap.size 90 1 A7 g.length c7 (flat huC (stampF (strF s'.cs left) g)))
    case atStart => exact ⟨_, cnt, rfl, HRG.out, Only.refl _ _, HA8.out⟩
    case round =>
      clear HRG HA8
      obtain ⟨left, cn, hgk, hrg, hon, how⟩ := hrel
      have HK := Lib.hid hgk
      have HRG := Lib.hid hrg
      have HON := Lib.hid hon
      have HOW := Lib.hid how
      clear hgk hrg hon how
      go_wp2_with (at_next; refine wpList_next_mapV rfl (.tmp 72) rfl rfl HRG.out ?_ ?_)
      · intro hl
        have HEND := Lib.hid (str_end (cs := s'.cs) g hl)
        have hrest : Below w6.heap.size w6 wr := HON.out.to_below (HO8.out.to_below HB67.out HB67.out.size (fun _ e => e.elim)) (by have h1 := HB67.out.size; have h2 := HS8.out; omega) (fun b hb => by
          rcases hb with e | e
          · exact (blkO_own HA7.out e).1
          · rw [e]; exact HRS6.out)
        have hb1r : Below w1.heap.size w1 wr := (HO6.out.to_below HB15.out HB15.out.size (fun b hb => by rcases hb with rfl | rfl; exact HB14.out.size; exact hgc1)).trans (hrest.mono (by have h1 := HO6.out.size; have h2 := HB15.out.size; omega))
        have hbW : Below W.heap.size W wr := HB6.out.trans (hrest.mono HB6.out.size)
        have how := HOW.out
        rw [HEND.out, HSTP.out] at how
        have hs1 := sameWords_same A1 A7 c1 c7 ST w1.heap.size wr.heap.size wr (HL1.out.row.below hb1r) how.row (by rw [HSTL.out]; unfold maxLen; omega)
        rw [HSTL.out] at hs1
        have HS1 := Lib.hid hs1
        have HS2 := Lib.hid (fun (w' : World) (hb : Below wr.heap.size wr w') => sameWords_same B1 A6 d1 c6 s'.h w1.heap.size w6.heap.size w' (HH1.out.row.below (hb1r.trans (hb.mono hb1r.size))) (HST6.out.ht.row.below (hrest.trans (hb.mono hrest.size))) (by have h1 := HINV.out.len; unfold maxLen; omega))
        have HBW := Lib.hid hbW
        clear hl hrest hb1r hbW how hs1
        go_wp2_with fail
        refine HS1.out.mono ?_
        rintro e w10 ⟨rfl, hb10⟩
        have HB10 := Lib.hid (HBW.out.trans (hb10.mono HBW.out.size))
        have HS3 := Lib.hid (HS2.out w10 hb10)
        clear hb10 HS2
        go_wp2_with fail
        refine HS3.out.mono ?_
        rintro e w11 ⟨rfl, hb11⟩
        have HB11 := Lib.hid (HB10.out.trans (hb11.mono HB10.out.size))
        clear hb11
        go_wp2_with fail
        go_ret
        exact ⟨rfl, HB11.out⟩
      · intro x9 v9 w9 cn9 hx9 hl9 hF9 hrg9 hlt9 ho9 hs9 hen
        have hm := csM_some hF9
        obtain ⟨q, rfl, hq, _, _⟩ := HINV.out.cells _ hm
        have HNX := Lib.hid (str_next (left := left) HINV.out hm)
        rcases HOW.out.form with ⟨_, h0, _⟩ | ⟨g7, o7, rfl⟩
        · omega
        have HW9 := Lib.hid (HOW.out.only ho9 (fun b hb e => (HNA.out b hb).1 e))
        have HR9 := Lib.hid hrg9
        have HL9 := Lib.hid hlt9
        have HO9 := Lib.hid (HON.out.trans (ho9.more (fun b e => .inr e)))
        obtain ⟨_, _, e1, _, k0⟩ := Row.hu HW9.out.row (show q < (stampF (strF s'.cs left) g).length by rw [stampF_len]; omega) 0
        injection e1 with e1
        injection e1 with e1 e2
        subst e1 e2
        obtain ⟨_, _, e1, _, k1⟩ := Row.hu HW9.out.row (show q + 1 < (stampF (strF s'.cs left) g).length by rw [stampF_len]; omega) 0
        injection e1 with e1
        injection e1 with e1 e2
        subst e1 e2
        rw [Nat.mul_one] at k0 k1
        have f0 := HW9.out.frozen (o7 + q)
        have f1 := HW9.out.frozen (o7 + (q + 1))
        have hq0 : (0 : Int) ≤ (q : Int) := by omega
        have hq1 : (q : Int) < (g.length : Int) := by omega
        have hq2 : (q : Int) + 1 < (g.length : Int) := by omega
        clear hx9 hl9 hF9 hm hrg9 hlt9 ho9 hs9
        go_wp2_with fail
        have hw := (HW9.out.putU q 1).putU (q + 1) 0
        rw [HNX.out] at hw
        have HW10 := Lib.hid hw
        have hset : Only (fun b => b = g7) w9 ((w9.setCell ⟨g7, o7 + q, none⟩ (.int .u64 1)).setCell ⟨g7, o7 + (q + 1), none⟩ (.int .u64 0)) := ((Only.refl (fun b => b = g7) w9).set (p := ⟨g7, o7 + q, none⟩) rfl _).set (p := ⟨g7, o7 + (q + 1), none⟩) rfl _
        have HO10 := Lib.hid (HO9.out.trans (hset.more (fun b e => .inl (by rw [e]; rfl))))
        have HR10 := Lib.hid (HR9.out.only hset (fun e => (HNA.out gc (by rw [e]; rfl)).2 rfl) (fun e => (HNA.out rr (by rw [e]; rfl)).1 rfl))
        clear hw hset
        go_roundg cn9
        case measure => rw [HK.out]; exact HL9.out
        case rel => exact ⟨_, cn9, rfl, HR10.out, HO10.out, HW10.out⟩
end Go.Proofs.Ytdjahlkjfpbifaa
