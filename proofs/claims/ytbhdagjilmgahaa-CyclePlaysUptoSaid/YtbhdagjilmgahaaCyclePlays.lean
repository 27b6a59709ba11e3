
/-
  CyclePlays: the law's walk.
-/
import Derived.Test.YtbhdagjilmgahaaCp6
import Derived.Test.YtbhdagjilmgahaaCatInts
import Derived.Deep.CutBlock
namespace Go.Proofs.Ytbhdagjilmgahaa
open Go.RowKit

set_option maxRecDepth 100000 in
set_option maxHeartbeats 4000000 in
theorem cyclePlays_any (A0 A1 : Option Addr) (c0 c1 : Nat) (K : List KnC) (P : List (List Int)) (w : World) (h : KnIn w w.heap.size A0 K) (hp : IntRows w w.heap.size A1 P) (hl : K.length ≤ 1048576) (hcap : K.length ≤ c0) (hA0 : A0 = none → c0 = 0) (hlp : P.length ≤ 1048576) :
    Calls Try.prog 4 #[.slice A0 K.length c0, .slice A1 P.length c1] w fun e w' => e = .returned (.bool true) ∧ Below w.heap.size w w' := by
  have HKB := Lib.hid (fun (w' : World) (hb : Below w.heap.size w w') => h.below hb)
  have HNW := Lib.hid (fun (w1 : World) (hb : Below w.heap.size w w1) => new_kn A0 c0 w.heap.size K w1 (h.below hb) hb.size hl)
  have HRK := Lib.hid (fun (w1 : World) (hb : Below w.heap.size w w1) => rknows_kn A0 c0 w.heap.size K w1 (h.below hb) hb.size hl hcap)
  have HCL := Lib.hid (fun (w1 : World) (hb : Below w.heap.size w w1) => clone_kn A0 c0 K w.heap.size w1 (h.below hb).row hA0 (by omega))
  obtain ⟨l, hll, hprow, hprs, hpz⟩ := open_plays hp
  have HPR := Lib.hid (fun (w' : World) (hb : Below w.heap.size w w') => hprow.below hb)
  have HPS := Lib.hid hprs
  have HPZ := Lib.hid hpz
  have HKN := Lib.hid h
  have hx1 := (Box.new w 3 #[.int .i64 9]).alloc (.cells #[.int .i64 3, .bool true, .bool false, .slice (some ⟨w.heap.size, 0, none⟩) 1 1] 28)
  have hx3 := Box.new (w.alloc (.cells #[.int .i64 9] 3)) 28 #[.int .i64 3, .bool true, .bool false, .slice (some ⟨w.heap.size, 0, none⟩) 1 1]
  rw [show (w.alloc (.cells #[.int .i64 9] 3)).heap.size = w.heap.size + 1 by simp] at hx3
  have hin := k1_in hx1 hx3
  have HNK := Lib.hid (new_kn (some ⟨w.heap.size + 1, 0, none⟩) 1 _ (K1 w.heap.size) _ hin (Nat.le_refl _) (by simp [K1]))
  have HB1 := Lib.hid (show Below w.heap.size w ((w.alloc (.cells #[.int .i64 9] 3)).alloc (.cells #[.int .i64 3, .bool true, .bool false, .slice (some ⟨w.heap.size, 0, none⟩) 1 1] 28)) from ((Below.refl _ _).alloc (Nat.le_refl _) _).alloc (by simp) _)
  clear h hx1 hx3 hin hp hprow hprs hpz
  go_enter Try.func4, Try.ntmps4
  go_wp2_with fail
  refine HNK.out.mono ?_
  rintro e w1 ⟨hb1, hg⟩
  rw [if_pos (k1_knows _)] at hg
  obtain ⟨Wa, Na, gna, gra, gma, gta, RAa, tolda, Da, cda, ma, hWw, rfl, hnd, hm0, hmi, htol⟩ := hg
  have h9 := k1_told (rch_start hm0) htol hnd.tn.1
  have hl1 : tolda.length = 1 := by rw [← srtI_len, h9]; rfl
  have HO := Lib.hid (out_any hnd (by simp [allR, K1]))
  rw [h9, hl1] at HO
  have HB2 := Lib.hid (HB1.out.trans (hb1.mono HB1.out.size))
  have hlo1 := hnd.lo
  have hdl1 := own_lo' hnd.du
  have hs1 := HB1.out.size
  have HW1 : Hid (∀ b, (b = gna ∨ Da.map (·.block) = some b) → w.heap.size ≤ b) := fun b hb => by
    rcases hb with e | e
    · omega
    · have := hdl1 b e; omega
  clear hnd hm0 hmi htol hb1 HNK HB1 hlo1 hdl1 hs1 h9 hl1 hWw
  go_wp2_with fail
  refine HO.out.mono ?_
  rintro e w2 ⟨rfl, ho2, _, hon2⟩
  have HB3 := Lib.hid (hon2.to_below HB2.out HB2.out.size HW1.out)
  have HE3 := Lib.hid (fun (A' : Option Addr) (B' : Nat) (w' : World) (hb : Below w2.heap.size w2 w') (hr : Row w' B' A' (ints [9])) => equal_any Da A' cda 1 [9] [9] w2.heap.size B' w' (ho2.row.below hb) hr (by unfold maxLen; decide) (by unfold maxLen; decide))
  have HL2 := Lib.hid (Box.new w2 3 #[.int .i64 9])
  have HB4 := Lib.hid ((Below.refl w2.heap.size w2).alloc (Nat.le_refl _) (.cells #[.int .i64 9] 3))
  have HEQ := Lib.hid (HE3.out (some ⟨w2.heap.size, 0, none⟩) (w2.heap.size + 1) _ HB4.out (row_boxC (xs := [9]) HL2.out (by omega)))
  clear ho2 hon2 HO HB2 HW1 HE3 HL2
  go_wp2_with fail
  refine HEQ.out.mono ?_
  rintro e w3 ⟨rfl, m2, rfl⟩
  have HB5 := Lib.hid (HB3.out.trans ((below_drewN HB4.out m2).mono HB3.out.size))
  have e9 : decide (([9] : List Int) = [9]) = true := by decide
  clear HB3 HB4 HEQ
  go_wp2_with fail
  have HN6 := Lib.hid (HNW.out _ HB5.out)
  clear e9 HNW
  refine HN6.out.mono ?_
  rintro e w4 ⟨hb4, hg⟩
  have HB6 := Lib.hid (HB5.out.trans (hb4.mono HB5.out.size))
  have hs6 := hb4.size
  have hs5 := HB5.out.size
  clear hb4 HN6
  by_cases hk : knowsF K = 0
  case neg =>
    rw [if_neg hk] at hg
    obtain rfl := hg
    have HRB := Lib.hid (HRK.out _ HB6.out)
    clear HRK
    go_wp2_with fail
    refine HRB.out.mono ?_
    rintro e w5 ⟨rfl, hb5⟩
    have HB7 := Lib.hid (HB6.out.trans (hb5.mono HB6.out.size))
    generalize knowsF K = r at *
    have e1 : (r != 0) = true := by simpa using hk
    clear hb5 hk
    go_wp2_with fail
    go_ret
    exact ⟨by simp, HB7.out⟩
  rw [if_pos hk] at hg
  obtain ⟨hkl, hn⟩ := knows_zero hk
  obtain ⟨W, N, gn, gr, gm, gt, RA, told, D, cd, m, hWw, rfl, hnd, hm0, hmi, htol⟩ := hg
  have HRB := Lib.hid (HRK.out _ HB6.out)
  have hWl : w.heap.size ≤ W.heap.size := Nat.le_trans hs5 hWw
  have HWL := Lib.hid hWl
  have HND := Lib.hid hnd
  have HM0 := Lib.hid (rch_start hm0)
  have HTL := Lib.hid htol
  have hap0 := apart_all (apart_first hn) m
  have HMD := Lib.hid (List.nodup_append.1 hap0.1).1
  have HMO : Hid (∀ y ∈ (itML K ([], firstF K) m).1, ownF K y = true) := fun y hy => by
    have := hap0.2 y (List.mem_append_left _ hy)
    unfold ownF
    simpa using this
  clear hap0
  have HN := Lib.hid hn
  have HK0 := Lib.hid hk
  rw [hk] at HRB
  generalize (itML K ([], firstF K) m).1 = M0 at *
  clear hnd hm0 hmi htol hk hn hWl hWw HRK hs6 hs5
  go_wp2_with fail
  refine HRB.out.mono ?_
  rintro e w5 ⟨rfl, hb5⟩
  have HB7 := Lib.hid (HB6.out.trans (hb5.mono HB6.out.size))
  have HC5 := Lib.hid (HCL.out _ HB7.out)
  have H45 := Lib.hid hb5
  clear hb5 HCL HRB
  go_wp2_with fail
  refine HC5.out.mono ?_
  rintro e w6 ⟨v, rfl, hown6, hb6⟩
  obtain ⟨Ac, cc, rfl, hc6⟩ := OwnAt.of_own hown6
  obtain ⟨i2, z2, hi2, hz2, hz3, hz4, hz5⟩ := sl_partsK
  have HB8 := Lib.hid (HB7.out.trans (hb6.mono HB7.out.size))
  have H46 := Lib.hid (H45.out.trans (hb6.mono H45.out.size))
  have HC6 := Lib.hid (hc6.lower H45.out.size)
  clear hb6 hown6 hc6 HC5
  have ha1 := (Below.refl w6.heap.size w6).alloc (Nat.le_refl _) (.cells #[.int .i64 2] 3)
  have ha2 := ha1.alloc ha1.size (.cells #[.slice (some ⟨w6.heap.size, 0, none⟩) 1 1] 23)
  have hx1 := (Box.new w6 3 #[.int .i64 2]).alloc (.cells #[.slice (some ⟨w6.heap.size, 0, none⟩) 1 1] 23)
  have hx2 := Box.new (w6.alloc (.cells #[.int .i64 2] 3)) 23 #[.slice (some ⟨w6.heap.size, 0, none⟩) 1 1]
  rw [show (w6.alloc (.cells #[.int .i64 2] 3)).heap.size = w6.heap.size + 1 by simp] at hx2
  have HOX := Lib.hid (own_box (base := w6.heap.size) (vs := [.slice (some ⟨w6.heap.size, 0, none⟩) 1 1]) hx2 (by omega) (by unfold maxLen; simp))
  have HX1 := Lib.hid hx1
  have HA2 := Lib.hid ha2
  have HPA := Lib.hid (HPR.out _ (HB8.out.trans (ha2.mono HB8.out.size)))
  have HLF : Hid ((flat slZ l).length = P.length) := by show _ = _; rw [flat_len slZ_len, Nat.mul_one, hll]
  have HS6 := Lib.hid ha2.size
  clear ha1 ha2 hx1 hx2
  go_wp2_with (at_builtin; refine wpList_append_v rfl (.tmp 73) (.tmp 74) 30 rfl w6.heap.size 23 i2 z2 24 Try.underlying30 hi2 hz2 hz3 hz4 hz5 (some ⟨w6.heap.size + 1, 0, none⟩) 1 1 [.slice (some ⟨w6.heap.size, 0, none⟩) 1 1] rfl rfl HOX.out A1 P.length c1 w.heap.size (flat slZ l) HLF.out rfl HPA.out (slZ_one l) (by omega) (by decide) HS6.out ?_; intro Ap cp w9 j1 j2 j3; have HJ := Lib.hid (And.intro j1 (And.intro j2 j3)); clear j1 j2 j3)
  have hst := cp_start (gA := w6.heap.size) HB6.out HND.out HWL.out H46.out HC6.out (grown_below HA2.out HS6.out HJ.out.2.1 HOX.out) ((only_grownK HJ.out.2.1).box HX1.out (fun e => by simp at e)) (Nat.le_refl _) (show OwnAt w9 w6.heap.size 23 1 Ap (l.length + 1) cp (flat slZ (⟨some ⟨w6.heap.size, 0, none⟩, 1, 1⟩ :: l)) from by rw [hll, Nat.add_comm]; exact HJ.out.1) HPS.out
  have HPZ2 : Hid (∀ p ∈ [2] :: P, p.length ≤ maxLen ∧ ∀ x ∈ p, I64 x) := fun p hp => by
    rcases List.mem_cons.1 hp with rfl | h
    · exact ⟨by unfold maxLen; decide, fun x hx => by rw [List.mem_singleton.1 hx]; unfold I64; decide⟩
    · exact HPZ.out p h
  have HTN := Lib.hid HND.out.tn.1
  obtain ⟨lp, hlp0⟩ : ∃ lp, (⟨some ⟨w6.heap.size, 0, none⟩, 1, 1⟩ :: l : List SlZ) = lp := ⟨_, rfl⟩
  obtain ⟨Q, hQ⟩ : ∃ Q, [2] :: P = Q := ⟨_, rfl⟩
  have HQL : Hid (Q.length = 1 + P.length) := by show _ = _; rw [← hQ, List.length_cons, Nat.add_comm]
  have HKL2 := Lib.hid HKN.out.all
  have HK64 := Lib.hid HKN.out.k64
  rw [hlp0, hQ] at hst
  rw [hQ] at HPZ2
  have HST := Lib.hid hst
  obtain ⟨NF, hNF⟩ : ∃ NF, w9.heap.size = NF := ⟨_, rfl⟩
  have hQl : 1 + P.length = Q.length := HQL.out.symm
  have hQm : Q.length ≤ 1048577 := by omega
  rw [hQl]
  clear hst hlp0 hQ hll HPS HPZ HPR HLF HPA HOX HX1 HA2 HJ HS6 HC6 H46 H45 HND HB5 HB7 HB8 HKB hi2 hz2 hz3 hz4 hz5 hQl hlp
  rw [hNF] at HST
  clear hNF
  go_wp2_with fail
  go_loopg [77, 10, 11] Q.length (fun gk i v10 v11 wr => ∃ (k : Nat) (out : List Int) (Ao : Option Addr) (co came : Nat), gk = Q.length - k ∧ k ≤ Q.length ∧ i = .int .i64 k ∧ v10 = .int .i64 (came : Int) ∧ v11 = .slice Ao out.length co ∧ came ≤ k ∧ CpR w W wr N gn gr gm gt K RA NF D Ac cc Ap lp Q out Ao co (came : Int))
  case atStart => exact ⟨0, [], none, 0, 0, by omega, by omega, rfl, rfl, rfl, by omega, (CpA.mk HST.out (SmK.refl K) HM0.out HTL.out (due_start HTN.out) HMD.out HMO.out).all⟩
  case round =>
    clear HST HM0 HTL HTN HMD HMO
    obtain ⟨k, out, Ao, co, came, hgk, hk, rfl, rfl, rfl, hck, hR⟩ := hrel
    have HGK := Lib.hid hgk
    clear hgk
    by_cases hlt : k < Q.length
    · obtain ⟨K', M, told, due, Dn, cdn, hA⟩ := hR
      obtain ⟨gp, op, rfl, hgp, hcp, hrp⟩ := hA.st.play hlt
      have hxm : (Q.getD k []).length ≤ maxLen ∧ ∀ x ∈ Q.getD k [], I64 x := HPZ2.out _ (getD_mem [] hlt)
      have HLT := Lib.hid hlt
      obtain ⟨xs, hxs⟩ : ∃ xs, Q.getD k [] = xs := ⟨_, rfl⟩
      obtain ⟨y, hy⟩ : ∃ y, lp.getD k slz0 = y := ⟨_, rfl⟩
      rw [hxs, hy] at hcp
      rw [hxs, hy] at hrp
      rw [hxs] at hxm
      have HXS := Lib.hid hxs
      have HY := Lib.hid hy
      have HXM := Lib.hid hxm
      have HAT := Lib.hid (fun (w' : World) (B' : Nat) (hr : Row w' B' y.A (ints xs)) (i : Int) (hi : 0 ≤ i) => at_any y.A xs.length y.cap xs i B' w' hr rfl hxm.1 hi)
      have hb13 := (Below.refl wr.heap.size wr).alloc (Nat.le_refl _) (.cells #[.slice y.A xs.length y.cap] 23)
      have HA13 := Lib.hid (hA.below hb13)
      have HB13 := Lib.hid hb13
      have HX13 := Lib.hid (Box.new wr 23 #[.slice y.A xs.length y.cap])
      have HR13 := Lib.hid (hrp.below hb13)
      have HLB := Lib.hid hA.ltB
      have HNF := Lib.hid hA.st.nf.2
      have HAT0 := Lib.hid (HAT.out _ _ HR13.out 0 (by omega))
      rw [show (0 : Int).toNat = 0 from rfl] at HAT0
      obtain ⟨x0, hx0⟩ : ∃ x0, xs.getD 0 0 = x0 := ⟨_, rfl⟩
      rw [hx0] at HAT0
      have HX0 := Lib.hid hx0
      have hkq : (k : Int) < 1 + (P.length : Int) := by have := HQL.out; omega
      clear hA hxs hy hxm hb13 hrp hx0
      go_wp2_with fail
      refine HAT0.out.mono ?_
      rintro e w' ⟨rfl, rfl⟩
      go_upto_block 2 with fail
      go_cut [10] (fun v wx => ∃ (K2 : List KnC) (M2 told2 due2 : List Int) (D2 : Option Addr) (cd2 came2 : Nat), v = .int .i64 (came2 : Int) ∧ came2 ≤ k + 1 ∧ CpA w W wx N gn gr gm gt K RA NF D Ac cc (some ⟨gp, op, none⟩) lp Q K2 M2 told2 due2 out D2 cd2 Ao co (came2 : Int) ∧ Box wx wr.heap.size 23 #[.slice y.A xs.length y.cap])
      case first =>
        by_cases h1 : x0 = 1
        · subst h1
          obtain ⟨x1, hx1⟩ : ∃ x1, xs.getD 1 0 = x1 := ⟨_, rfl⟩
          have h641 : I64 x1 := by
            rw [← hx1]
            by_cases h2 : 1 < xs.length
            · exact HXM.out.2 _ (getD_mem 0 h2)
            · rw [List.getD_eq_getElem?_getD, List.getElem?_eq_none (by omega)]
              unfold I64
              decide
          have HX1 := Lib.hid hx1
          have H641 := Lib.hid h641
          have hKL : K'.length = K.length := HA13.out.sm.len
          have hif := indexFunc_kn Ac cc K' 18 #[.pointer (some ⟨wr.heap.size, 0, none⟩)] (fun x => x.ref == xs.getD 1 0) _ (fun w' => Below (wr.alloc (.cells #[.slice y.A xs.length y.cap] 23)).heap.size (wr.alloc (.cells #[.slice y.A xs.length y.cap] 23)) w') (wr.alloc (.cells #[.slice y.A xs.length y.cap] 23)) enters_cp1 (by unfold maxLen; omega)
            (fun w' hb => HA13.out.st.cl.row.below hb) (fun x _ w' hb => (cp1_any x wr.heap.size y.A y.cap wr.heap.size xs w' ((hb.cell (p := ⟨wr.heap.size, 0, none⟩) HX13.out.lt).trans (HX13.out.cell 0)) (HR13.out.below (hb.mono HB13.out.size)) (Nat.le_trans HB13.out.size hb.size) HXM.out.1).mono (fun e w'' h => ⟨h.1, hb.trans (h.2.mono hb.size)⟩)) (Below.refl _ _)
          rw [hx1, hKL] at hif
          have HIF := Lib.hid hif
          have HIX := Lib.hid (idxK K' x1)
          have hcame : (came : Int) + 1 ≤ 9223372036854775807 := by omega
          clear hif hx1 h641
          generalize idxAt (fun x : KnC => x.ref == x1) K' 0 = ix at *
          go_wp2_with fail
          refine HIF.out.mono ?_
          rintro e w14 ⟨rfl, hb14⟩
          have ha14 := HA13.out.below hb14
          have HX14 := Lib.hid (HX13.out.below hb14 HX13.out.lt)
          have HR14 := Lib.hid ((HR13.out.below (hb14.mono HB13.out.size)).more (Nat.le_trans HB13.out.size hb14.size))
          have HA14 := Lib.hid ha14
          clear hb14 HIF HR13
          rcases HIX.out with ⟨rfl, hno⟩ | ⟨i, hi, rfl, hri⟩
          · have HAT1 := Lib.hid (HAT.out _ _ HR14.out 1 (by omega))
            rw [show (1 : Int).toNat = 1 from rfl, HX1.out] at HAT1
            have HCM := Lib.hid (HA14.out.come_no H641.out hno)
            have q13 : w14.cell? ⟨wr.heap.size, 0, none⟩ = some (.slice y.A xs.length y.cap) := HX14.out.cell 0
            clear hno ha14
            go_wp2_with fail
            refine HAT1.out.mono ?_
            rintro e w' ⟨rfl, rfl⟩
            go_wp2_with fail
            refine HCM.out.mono ?_
            rintro e w' ⟨rfl, rfl⟩
            go_wp2_with fail
            go_meet
            exact ⟨K', M, told, due, Dn, cdn, came, rfl, by omega, HA14.out, HX14.out⟩
          · obtain ⟨g, o, rfl, hg, _, _, z2, _⟩ := ha14.st.cl.row.kn hi knc0
            have hfz : w14.frozen? ⟨g, o + i * 4 + 2, none⟩ = false := ha14.st.cl.frozen _
            have hgw : g < w14.heap.size := hg
            have hne : g ≠ wr.heap.size := fun e => by have := ha14.st.dC g rfl; have h5 := HNF.out; omega
            obtain ⟨ws, hws⟩ : ∃ ws, ws = w14.setCell ⟨g, o + i * 4 + 2, none⟩ (.bool true) := ⟨_, rfl⟩
            have hws2 : ws = w14.setCell ⟨g, o + (i * 4 + 2), none⟩ (.bool true) := by rw [hws, Nat.add_assoc]
            have hon : Only (fun b => b = g) w14 ws := by rw [hws]; exact Only.set (S := fun b => b = g) (Only.refl _ _) (p := ⟨g, o + i * 4 + 2, none⟩) rfl _
            have HXS2 := Lib.hid (hon.box HX14.out (fun e => hne e.symm))
            have hrs : Row ws ws.heap.size y.A (ints xs) := by
              obtain ⟨_, _, _, _, _, h5⟩ := (ha14.st.root hi rfl).play HLT.out
              rw [HXS.out, HY.out, ← hws2] at h5
              exact h5
            have HAT1 := Lib.hid (HAT.out _ _ hrs 1 (by omega))
            rw [show (1 : Int).toNat = 1 from rfl, HX1.out] at HAT1
            have HCM := Lib.hid (HA14.out.come_yes HKL2.out HK64.out hkl hi rfl (by omega) (by omega) hri HLB.out (by rw [← hws2]; exact Below.refl _ _))
            have HWS := Lib.hid hws.symm
            clear hws2 hon hrs ha14 hws
            have hik : (i : Int) < (K.length : Int) := by omega
            go_upto_region 24 with fail
            rw [HWS.out]
            have q13 : ws.cell? ⟨wr.heap.size, 0, none⟩ = some (.slice y.A xs.length y.cap) := HXS2.out.cell 0
            clear z2 hfz hgw hne HWS
            go_wp2_with fail
            refine HAT1.out.mono ?_
            rintro e w' ⟨rfl, rfl⟩
            go_wp2_with fail
            refine HCM.out.mono ?_
            rintro e w15 ⟨rfl, ⟨K2, M2, told2, due2, D2, cd2, ha15⟩, hon15⟩
            have HA15 := Lib.hid ha15
            have HX15 := Lib.hid (hon15.box HXS2.out (by omega))
            clear ha15 hon15 HCM
            go_wp2_with fail
            go_meet
            exact ⟨K2, M2, told2, due2, D2, cd2, came + 1, by go_num, by omega, by have := HA15.out; go_num, HX15.out⟩
        · go_wp2_with fail
          go_meet
          exact ⟨K', M, told, due, Dn, cdn, came, rfl, by omega, HA13.out, HX13.out⟩
      case rest =>
        clear HA13 HB13 HX13 HR13 HLB HNF HAT0 K' M told due Dn cdn hcp hgp
        obtain ⟨K', M, told, due, Dn, cdn, came2, rfl, hck2, hA, hX13⟩ := hcut
        have hKL : K'.length = K.length := hA.sm.len
        have hkn := hA.st.kn HKN.out hA.sm
        have hav := alive_kn Ac cc wc.heap.size K' wc hkn (Nat.le_refl _) (by omega)
        rw [hKL] at hav
        have HAV := Lib.hid hav
        have HA25 := Lib.hid hA
        have HX25 := Lib.hid hX13
        clear hA hX13 hav hkn
        generalize wr.heap.size = g13 at *
        go_wp2_with fail
        refine HAV.out.mono ?_
        rintro e wA ⟨rfl, hbx, hbA⟩
        have haA := HA25.out.below hbA
        have hXA := HX25.out.below hbA HX25.out.lt
        have HAA := Lib.hid haA
        have HXA := Lib.hid hXA
        have HBX := Lib.hid hbx
        have hkA := haA.st.kn HKN.out haA.sm
        have HKA := Lib.hid (fun (w' : World) (hb : Below wA.heap.size wA w') => hkA.below hb)
        have hal : (aliveF K').length = K'.length := by rw [aliveF_eq]; exact (Dk_inv K' K'.length).1
        obtain ⟨al, hale⟩ : ∃ al, aliveF K' = al := ⟨_, rfl⟩
        have HALE := Lib.hid hale
        rw [hale] at hal HBX
        have hgax := HBX.out.lt
        generalize wc.heap.size = ga at *
        clear hbA hbx haA hXA hkA HAV HA25 HX25 hale
        go_wp2_with fail
        go_loopg [106, 17, 18] K.length (fun gk i v17 v18 wr => ∃ (n : Nat) (A17 A18 : Option Addr) (c17 c18 : Nat), gk = K.length - n ∧ n ≤ K.length ∧ i = .int .i64 n ∧ v17 = .slice A17 (leftX K' al n).length c17 ∧ v18 = .slice A18 (dueX K' al n).length c18 ∧ TwI wr wA.heap.size A17 c17 (leftX K' al n) A18 c18 (dueX K' al n) ∧ Below wA.heap.size wA wr)
        case atStart => exact ⟨0, none, none, 0, 0, by omega, by omega, rfl, rfl, rfl, TwI.nil, Below.refl _ _⟩
        case round =>
          obtain ⟨n, A17, A18, c17, c18, hgn, hn, rfl, rfl, rfl, hTW, hBW⟩ := hrel
          have HGN := Lib.hid hgn
          clear hgn
          by_cases hnl : n < K.length
          ·
            have hnk : n < K'.length := by omega
            obtain ⟨gl, ol, rfl, hgl, z0, z1, z2, z3⟩ := (HKA.out wr hBW).row.kn hnk knc0
            have hmem : K'.getD n knc0 ∈ K' := getD_mem knc0 hnk
            obtain ⟨_, hrl1, hrl2, _⟩ := (HKA.out wr hBW).refs _ hmem
            have hrl : (K'.getD n knc0).refs.length ≤ 9223372036854775807 := by unfold maxLen at hrl2; omega
            have f1 : wr.cell? ⟨ga, n, none⟩ = some (.int .i64 (al.getD n 0)) := (HBX.out.below hBW HBX.out.lt).intAt (by omega)
            have hLS := leftX_succ K' al n
            have hDS := dueX_succ K' al n
            have hDB := fun m => Nat.le_trans (dueX_bound K' al hnk m) (HKA.out wr hBW).all
            have hLL := leftX_len K' al n
            have hb20 := (Below.refl wr.heap.size wr).alloc (Nat.le_refl _) (.cells #[.int .i64 (K'.getD n knc0).ref, .bool (K'.getD n knc0).awake, .bool (K'.getD n knc0).root, .slice (K'.getD n knc0).A (K'.getD n knc0).refs.length (K'.getD n knc0).cap] 28)
            have htw2 := hTW.below hb20
            have hbw2 := hBW.trans (hb20.mono hBW.size)
            have hrf2 := fun (w' : World) (hb : Below wA.heap.size wA w') => ((HKA.out w' hb).refs _ hmem).1
            have hx20 := Box.new wr 28 #[.int .i64 (K'.getD n knc0).ref, .bool (K'.getD n knc0).awake, .bool (K'.getD n knc0).root, .slice (K'.getD n knc0).A (K'.getD n knc0).refs.length (K'.getD n knc0).cap]
            obtain ⟨wb, hwb⟩ : ∃ wb, wr.alloc (.cells #[.int .i64 (K'.getD n knc0).ref, .bool (K'.getD n knc0).awake, .bool (K'.getD n knc0).root, .slice (K'.getD n knc0).A (K'.getD n knc0).refs.length (K'.getD n knc0).cap] 28) = wb := ⟨_, rfl⟩
            rw [hwb] at htw2 hbw2 hx20 hb20
            unfold rsK at hDB
            unfold rowX rsK at hDS
            unfold rfK at hLS
            have f2 : wb.cell? ⟨ga, n, none⟩ = some (.int .i64 (al.getD n 0)) := (HBX.out.below hbw2 HBX.out.lt).intAt (by omega)
            have hnn : (n : Int) < (K.length : Int) := by omega
            have HWB := Lib.hid hwb
            have HTW := Lib.hid htw2
            have HBW := Lib.hid hbw2
            have HRF := Lib.hid hrf2
            have HX20 := Lib.hid hx20
            have HLS := Lib.hid hLS
            have HDS := Lib.hid hDS
            have HDB := Lib.hid hDB
            clear hwb htw2 hbw2 hrf2 hx20 hb20 hLS hDS hDB hTW hBW hmem hrl1 hrl2
            generalize K'.getD n knc0 = x at *
            generalize al.getD n 0 = ov at *
            obtain ⟨lf, hlf⟩ : ∃ lf, leftX K' al n = lf := ⟨_, rfl⟩
            obtain ⟨du, hdu⟩ : ∃ du, dueX K' al n = du := ⟨_, rfl⟩
            rw [hlf] at HTW HLS hLL ⊢
            rw [hdu] at HTW HDS HDB ⊢
            clear hlf hdu
            go_upto_region 31 with fail
            rw [HWB.out]
            clear z0 z1 z2 z3 f1 HWB
            have q0 : wb.cell? ⟨wr.heap.size, 0, none⟩ = some (.int .i64 x.ref) := HX20.out.cell 0
            have q3 : wb.cell? ⟨wr.heap.size, 3, none⟩ = some (.slice x.A x.refs.length x.cap) := HX20.out.cell 3
            have hg20 := HX20.out.lt
            generalize wr.heap.size = g20 at *
            by_cases hneg : ov < 0
            · have e1 : decide (ov < 0) = true := decide_eq_true hneg
              rw [if_pos hneg] at HLS HDS
              have hBX := Box.new wb 3 #[.int .i64 x.ref]
              have HA := Lib.hid (HTW.out.below ((Below.refl wb.heap.size wb).alloc (Nat.le_refl _) (.cells #[.int .i64 x.ref] 3)))
              have HBA := Lib.hid (HBW.out.alloc HBW.out.size (.cells #[.int .i64 x.ref] 3))
              have HE0 : Hid ((wb.alloc (.cells #[.int .i64 x.ref] 3)).cell? ⟨wb.heap.size, 0, none⟩ = some (.int .i64 x.ref)) := hBX.cell 0
              have HDL : Hid (lf.length + 1 ≤ 4398046511104) := by show _ ≤ _; omega
              clear hBX
              go_wp2_with (at_builtin; refine wpList_append_k rfl (.tmp 116) (.tmp 119) rfl wA.heap.size A17 c17 lf rfl HA.out.a wb.heap.size x.ref rfl HE0.out HDL.out HBA.out.size ?_; intro A9 c9 w9 j1 j2 j3; have H9 := Lib.hid (HA.out.g1 j2 j1 j3); have HB9 := Lib.hid (grown_below HBA.out HBA.out.size j2 HA.out.a); clear j1 j2 j3)
              go_roundg (K.length - (n + 1))
              case measure => have := HGN.out; omega
              case rel => exact ⟨n + 1, A9, A18, c9, c18, rfl, by omega, by go_num, by rw [HLS.out, List.length_append]; rfl, by rw [HDS.out], by rw [HLS.out, HDS.out]; exact H9.out, HB9.out⟩
            · have e1 : decide (ov < 0) = false := decide_eq_false hneg
              rw [if_neg hneg] at HLS HDS
              obtain ⟨Ax, hAx⟩ : ∃ Ax, x.A = Ax := ⟨_, rfl⟩
              rw [hAx] at HRF q3
              clear HX20 hneg hAx
              go_wp2_with fail
              go_loopg [124, 18] x.refs.length (fun gk i v18 wr => ∃ (m : Nat) (Ae : Option Addr) (ce : Nat), gk = x.refs.length - m ∧ m ≤ x.refs.length ∧ i = .int .i64 m ∧ v18 = .slice Ae ((x.refs.take m).foldl (putX K') du).length ce ∧ TwI wr wA.heap.size A17 c17 lf Ae ce ((x.refs.take m).foldl (putX K') du) ∧ Below wA.heap.size wA wr)
              case atStart => exact ⟨0, A18, c18, by omega, by omega, rfl, rfl, HTW.out, HBW.out⟩
              case round =>
                clear HTW HBW
                obtain ⟨m, Ae, ce, hgm, hm, rfl, rfl, hTW, hBW⟩ := hrel
                have HGM := Lib.hid hgm
                clear hgm
                by_cases hml : m < x.refs.length
                · obtain ⟨gr2, or2, rfl, _, hrc⟩ := (HRF.out wr hBW).int hml
                  have HFT := Lib.hid (foldX_take (K := K') (D := du) hml)
                  have hdb := HDB.out m
                  have hb22 := (Below.refl wr.heap.size wr).alloc (Nat.le_refl _) (.cells #[.int .i64 (x.refs.getD m 0)] 3)
                  have hx22 := Box.new wr 3 #[.int .i64 (x.refs.getD m 0)]
                  have htw2 := hTW.below hb22
                  have hbw2 := hBW.trans (hb22.mono hBW.size)
                  obtain ⟨wb2, hwb2⟩ : ∃ wb2, wr.alloc (.cells #[.int .i64 (x.refs.getD m 0)] 3) = wb2 := ⟨_, rfl⟩
                  rw [hwb2] at htw2 hbw2 hx22
                  have HWB2 := Lib.hid hwb2
                  have HTW := Lib.hid htw2
                  have HBW := Lib.hid hbw2
                  have HX22 := Lib.hid hx22
                  have hmm : (m : Int) < (x.refs.length : Int) := by omega
                  clear hwb2 htw2 hbw2 hx22 hb22 hTW hBW
                  generalize x.refs.getD m 0 = r at *
                  obtain ⟨dm, hdm⟩ : ∃ dm, (x.refs.take m).foldl (putX K') du = dm := ⟨_, rfl⟩
                  rw [hdm] at HTW HFT hdb ⊢
                  clear hdm
                  go_upto_region 36 with fail
                  rw [HWB2.out]
                  have q22 : wb2.cell? ⟨wr.heap.size, 0, none⟩ = some (.int .i64 r) := HX22.out.cell 0
                  generalize wr.heap.size = g22 at *
                  have hct := contains_ints Ae ce dm r wb2.heap.size wb2 HTW.out.b.row (by unfold maxLen; omega)
                  rw [any_int] at hct
                  have HCT := Lib.hid hct
                  have hcf := containsFunc_kn (some ⟨gl, ol, none⟩) cc K' 22 #[.pointer (some ⟨g22, 0, none⟩)] (fun x => x.ref == r) wA.heap.size (fun w' => Below wb2.heap.size wb2 w') wb2 enters_cp2 (by unfold maxLen; omega)
                    (fun w' hb => (HKA.out w' (HBW.out.trans (hb.mono HBW.out.size))).row) (fun x _ w' hb => (cp2_any x g22 r w' ((hb.cell (p := ⟨g22, 0, none⟩) HX22.out.lt).trans (HX22.out.cell 0))).mono (fun e w'' h => ⟨h.1, hb.trans (h.2.mono hb.size)⟩)) (Below.refl _ _)
                  rw [hKL, any_refs] at hcf
                  have HCF := Lib.hid hcf
                  clear hct hcf hrc
                  obtain ⟨bc, hbc⟩ : ∃ bc, dm.contains r = bc := ⟨_, rfl⟩
                  obtain ⟨bo, hbo⟩ : ∃ bo, ownF K' r = bo := ⟨_, rfl⟩
                  rw [hbc] at HCT
                  rw [show (K'.map (·.ref)).contains r = bo from hbo] at HCF
                  have HBC := Lib.hid hbc
                  have HBO := Lib.hid hbo
                  clear hbc hbo
                  go_wp2_with fail
                  refine HCT.out.mono ?_
                  rintro e w' ⟨rfl, rfl⟩
                  cases bc
                  case true =>
                    have HD : Hid (((x.refs.take (m + 1)).foldl (putX K') du) = dm) := by show _ = _; rw [HFT.out, putX_in HBC.out]
                    go_wp2_with fail
                    go_roundg (x.refs.length - (m + 1))
                    case measure => have := HGM.out; omega
                    case rel => exact ⟨m + 1, Ae, ce, rfl, by omega, by go_num, by rw [HD.out], by rw [HD.out]; exact HTW.out, HBW.out⟩
                  case false =>
                    go_wp2_with fail
                    refine HCF.out.mono ?_
                    rintro e w23 ⟨rfl, hb23⟩
                    have HBW2 := Lib.hid (HBW.out.trans (hb23.mono HBW.out.size))
                    have HTW2 := Lib.hid (HTW.out.below hb23)
                    have q23 := (hb23.cell (p := ⟨g22, 0, none⟩) HX22.out.lt).trans q22
                    clear hb23 q22 HTW HBW HX22 HCF HCT
                    cases bo
                    case true =>
                      have HD : Hid (((x.refs.take (m + 1)).foldl (putX K') du) = dm) := by show _ = _; rw [HFT.out, putX_own HBO.out]
                      go_wp2_with fail
                      go_roundg (x.refs.length - (m + 1))
                      case measure => have := HGM.out; omega
                      case rel => exact ⟨m + 1, Ae, ce, rfl, by omega, by go_num, by rw [HD.out], by rw [HD.out]; exact HTW2.out, HBW2.out⟩
                    case false =>
                      have HD : Hid (((x.refs.take (m + 1)).foldl (putX K') du) = dm ++ [r]) := by show _ = _; rw [HFT.out, putX_put HBC.out HBO.out]
                      have hBX := Box.new w23 3 #[.int .i64 r]
                      have HA := Lib.hid (HTW2.out.below ((Below.refl w23.heap.size w23).alloc (Nat.le_refl _) (.cells #[.int .i64 r] 3)))
                      have HBA := Lib.hid (HBW2.out.alloc HBW2.out.size (.cells #[.int .i64 r] 3))
                      have HE0 : Hid ((w23.alloc (.cells #[.int .i64 r] 3)).cell? ⟨w23.heap.size, 0, none⟩ = some (.int .i64 r)) := hBX.cell 0
                      have HDL : Hid (dm.length + 1 ≤ 4398046511104) := by show _ ≤ _; omega
                      clear hBX
                      go_wp2_with (at_builtin; refine wpList_append_k rfl (.tmp 138) (.tmp 140) rfl wA.heap.size Ae ce dm rfl HA.out.b w23.heap.size r rfl HE0.out HDL.out HBA.out.size ?_; intro A9 c9 w9 j1 j2 j3; have H9 := Lib.hid (HA.out.g2 j2 j1 j3); have HB9 := Lib.hid (grown_below HBA.out HBA.out.size j2 HA.out.b); clear j1 j2 j3)
                      go_roundg (x.refs.length - (m + 1))
                      case measure => have := HGM.out; omega
                      case rel => exact ⟨m + 1, A9, c9, rfl, by omega, by go_num, by rw [HD.out, List.length_append]; rfl, by rw [HD.out]; exact H9.out, HB9.out⟩
                · obtain rfl : m = x.refs.length := by omega
                  rw [List.take_length] at hTW ⊢
                  have HTW := Lib.hid hTW
                  have HBW := Lib.hid hBW
                  clear hTW hBW
                  go_wp2_with fail
                  go_roundg (K.length - (n + 1))
                  case measure => have := HGN.out; omega
                  case rel => exact ⟨n + 1, A17, Ae, c17, ce, rfl, by omega, by go_num, by rw [HLS.out], by rw [HDS.out], by rw [HLS.out, HDS.out]; exact HTW.out, HBW.out⟩
          · obtain rfl : n = K.length := by omega
            have hnn2 : ¬ (K.length : Int) < (K.length : Int) := by omega
            have hLL := leftX_len K' al K.length
            have HLF : Hid (leftX K' al K.length = leftX K' (aliveF K') K'.length) := by show _ = _; rw [HALE.out, hKL]
            have HDU : Hid (dueX K' al K.length = dueX K' (aliveF K') K'.length) := by show _ = _; rw [HALE.out, hKL]
            have hDU : (dueX K' al K.length).length ≤ 1048576 := by
              rw [HDU.out]
              exact Nat.le_trans (dueX_len K' _) (HKA.out wr hBW).all
            obtain ⟨lf, hlf⟩ : ∃ lf, leftX K' al K.length = lf := ⟨_, rfl⟩
            obtain ⟨du, hdu⟩ : ∃ du, dueX K' al K.length = du := ⟨_, rfl⟩
            rw [hlf] at hTW HLF hLL ⊢
            rw [hdu] at hTW HDU hDU ⊢
            have HSO := Lib.hid (sort_own A17 lf.length c17 wA.heap.size lf wr hTW.a rfl (by omega))
            have HTW := Lib.hid hTW
            have HBW := Lib.hid hBW
            clear hTW hBW hlf hdu HGN hn
            go_wp2_with fail
            refine HSO.out.mono ?_
            rintro e w40 ⟨rfl, hso, hon⟩
            have hbw40 := hon.to_below HBW.out HBW.out.size (fun b hb => own_lo' HTW.out.a b hb)
            have htw40 : TwI w40 wA.heap.size A17 c17 (srtI lf) A18 c18 du := HTW.out.s1 hon (by rw [srtI_len]; exact hso)
            have ha40 := HAA.out.below hbw40
            have hr40 : Row w40 w40.heap.size y.A (ints xs) := by
              obtain ⟨_, _, _, _, _, h5⟩ := ha40.st.play HLT.out
              rw [HXS.out, HY.out] at h5
              exact h5
            have hx40 := HXA.out.below hbw40 HXA.out.lt
            have q13 : w40.cell? ⟨g13, 0, none⟩ = some (.slice y.A xs.length y.cap) := hx40.cell 0
            have HAT0 := Lib.hid (HAT.out _ _ hr40 0 (by omega))
            rw [show (0 : Int).toNat = 0 from rfl, HX0.out] at HAT0
            have HTW4 := Lib.hid htw40
            have HA40 := Lib.hid ha40
            have HBW4 := Lib.hid hbw40
            clear hso hon hbw40 htw40 ha40 hr40 hx40 HTW HBW HSO wr
            go_wp2_with fail
            refine HAT0.out.mono ?_
            rintro e w' ⟨rfl, rfl⟩
            go_upto_if 148 with fail
            obtain ⟨q2, hq2⟩ : ∃ q2, (x0 == 2) = q2 := ⟨_, rfl⟩
            rw [hq2]
            clear hq2 HAT0
            go_cut [11] (fun v wx => ∃ (due3 out3 : List Int) (D3 Ao3 : Option Addr) (cd3 co3 : Nat), v = .slice Ao3 out3.length co3 ∧ CpA w W wx N gn gr gm gt K RA NF D Ac cc (some ⟨gp, op, none⟩) lp Q K' M told due3 out3 D3 cd3 Ao3 co3 (came2 : Int) ∧ TwI wx wA.heap.size A17 c17 (srtI lf) A18 c18 du)
            case first =>
              cases q2
              case false =>
                go_wp2_with fail
                go_meet
                exact ⟨due, out, Dn, Ao, cdn, co, rfl, HA40.out, HTW4.out⟩
              case true =>
                have htl := HA40.out.told_lt
                have hou : out.length ≤ 1048576 := by have := HKL2.out; omega
                obtain ⟨i1, hi1, hy0, hy1, hy2⟩ := int_partsK
                clear htl
                go_wp2_with fail
                go_loopg [151, 23] du.length (fun gk i v wr => ∃ (m : Nat) (Am : Option Addr) (cm : Nat), gk = du.length - m ∧ m ≤ du.length ∧ i = .int .i64 m ∧ v = .slice Am (moreX out (du.take m)).length cm ∧ OwnAt wr w40.heap.size 3 1 Am (moreX out (du.take m)).length cm (ints (moreX out (du.take m))) ∧ Below w40.heap.size w40 wr)
                case atStart => exact ⟨0, none, 0, by omega, by omega, rfl, rfl, OwnAt.nil, Below.refl _ _⟩
                case round =>
                  obtain ⟨m, Am, cm, hgm, hm, rfl, rfl, hOM, hBM⟩ := hrel
                  have HGM := Lib.hid hgm
                  have hml2 : (moreX out (du.take m)).length ≤ 1048576 := by
                    have h1 := moreX_len out (du.take m)
                    rw [List.length_take] at h1
                    omega
                  clear hgm
                  by_cases hml : m < du.length
                  · obtain ⟨gd, od, rfl, _, hdc⟩ := (HTW4.out.b.row.below hBM).int hml
                    have HMT := Lib.hid (moreX_take (out := out) hml)
                    have hct := contains_ints Ao co out (du.getD m 0) w40.heap.size wr (HA40.out.st.ou.row.below hBM) (by unfold maxLen; omega)
                    rw [any_int] at hct
                    have HCT := Lib.hid hct
                    have hmm : (m : Int) < (du.length : Int) := by omega
                    have HOM := Lib.hid hOM
                    have HBM := Lib.hid hBM
                    clear hct hOM hBM
                    generalize du.getD m 0 = r at *
                    obtain ⟨mo, hmo⟩ : ∃ mo, moreX out (du.take m) = mo := ⟨_, rfl⟩
                    rw [hmo] at HOM HMT hml2 ⊢
                    obtain ⟨bc, hbc⟩ : ∃ bc, out.contains r = bc := ⟨_, rfl⟩
                    rw [hbc] at HCT HMT
                    clear hmo hbc
                    go_wp2_with fail
                    refine HCT.out.mono ?_
                    rintro e w' ⟨rfl, rfl⟩
                    cases bc
                    case true =>
                      rw [if_pos rfl] at HMT
                      go_wp2_with fail
                      go_roundg (du.length - (m + 1))
                      case measure => have := HGM.out; omega
                      case rel => exact ⟨m + 1, Am, cm, rfl, by omega, by go_num, by rw [HMT.out], by rw [HMT.out]; exact HOM.out, HBM.out⟩
                    case false =>
                      rw [if_neg (by decide)] at HMT
                      have hBX := Box.new wr 3 #[.int .i64 r]
                      have HA := Lib.hid (HOM.out.below ((Below.refl wr.heap.size wr).alloc (Nat.le_refl _) (.cells #[.int .i64 r] 3)))
                      have HBA := Lib.hid (HBM.out.alloc HBM.out.size (.cells #[.int .i64 r] 3))
                      have HE0 : Hid ((wr.alloc (.cells #[.int .i64 r] 3)).cell? ⟨wr.heap.size, 0, none⟩ = some (.int .i64 r)) := hBX.cell 0
                      have HDL : Hid (mo.length + 1 ≤ 4398046511104) := by show _ ≤ _; omega
                      clear hBX HCT
                      go_wp2_with (at_builtin; refine wpList_append_k rfl (.tmp 159) (.tmp 161) rfl w40.heap.size Am cm mo rfl HA.out wr.heap.size r rfl HE0.out HDL.out HBA.out.size ?_; intro A9 c9 w9 j1 j2 j3; have H9 := Lib.hid j1; have HB9 := Lib.hid (grown_below HBA.out HBA.out.size j2 HA.out); clear j1 j2 j3)
                      go_roundg (du.length - (m + 1))
                      case measure => have := HGM.out; omega
                      case rel => exact ⟨m + 1, A9, c9, rfl, by omega, by go_num, by rw [HMT.out, List.length_append]; rfl, by rw [HMT.out]; exact H9.out, HB9.out⟩
                  · obtain rfl : m = du.length := by omega
                    rw [List.take_length] at hOM hml2 ⊢
                    have hme : srtI (moreX out du) = srtI due := by have := HA40.out.more HN.out; rw [← HDU.out] at this; exact this
                    obtain ⟨mo, hmo⟩ : ∃ mo, moreX out du = mo := ⟨_, rfl⟩
                    rw [hmo] at hOM hml2 hme ⊢
                    have HSM := Lib.hid (sort_own Am mo.length cm w40.heap.size mo wr hOM rfl (by omega))
                    have HME := Lib.hid hme
                    have HOM := Lib.hid hOM
                    have HBM := Lib.hid hBM
                    clear hOM hBM hmo hme HGM hm hml
                    go_wp2_with fail
                    refine HSM.out.mono ?_
                    rintro e w49 ⟨rfl, hso, hon⟩
                    have hb49 := hon.to_below HBM.out HBM.out.size (fun b hb => own_lo' HOM.out b hb)
                    have ha49 := HA40.out.below hb49
                    have HS49 := Lib.hid hso
                    have HT49 := Lib.hid (HTW4.out.below hb49)
                    have HA49 := Lib.hid ha49
                    have HB49 := Lib.hid hb49
                    have HOU := Lib.hid ha49.st.ou
                    have HLW := Lib.hid (Nat.le_trans ha49.st.bl.size (Nat.le_refl _))
                    have HMR := Lib.hid hso.row
                    clear hso hon hb49 ha49 HSM HOM HBM
                    go_wp2_with (at_builtin; refine wpList_append_v rfl (.tmp 166) (.tmp 167) 23 rfl w.heap.size 3 i1 (.int .i64 0) 8 Try.underlying23 hi1 hy0 hy1 hy2 rfl Ao out.length co (ints out) (ints_len _) rfl HOU.out Am mo.length cm w49.heap.size (ints (srtI mo)) (by rw [ints_len, srtI_len]) rfl HMR.out (ints_oneK _) (by omega) (by decide) HLW.out ?_; intro A9 c9 w9 j1 j2 j3; have HJ := Lib.hid (And.intro j1 (And.intro j2 j3)); clear j1 j2 j3)
                    have hlen : out.length + mo.length = (out ++ srtI due).length := by rw [List.length_append, ← HME.out, srtI_len]
                    have hj1 := HJ.out.1
                    rw [hlen, show ints out ++ ints (srtI mo) = ints (out ++ srtI due) from by rw [HME.out]; unfold ints; rw [List.map_append]] at hj1
                    have hj2 := HJ.out.2.1
                    have hgr := HA49.out.st.grow (out' := out ++ srtI due) hj2 hj1 HJ.out.2.2
                    have hsA := HBW4.out.size
                    have ht9 := HT49.out.off (only_grownK hj2) (fun b e => HAA.out.told_lt.1 b e)
                    have hm9 := HS49.out.only (only_grownK hj2) (fun b hb e => by have := own_lo' HS49.out b hb; have := HAA.out.told_lt.1 b e; omega)
                    have HOT := Lib.hid (HAA.out.outs HKL2.out hgr)
                    have HT9 := Lib.hid ht9
                    have HM9 := Lib.hid hm9
                    clear hj1 hj2 hgr hsA ht9 hm9 HJ HS49 HT49 HA49 HB49 HOU HLW HMR
                    rw [hlen]
                    clear hlen
                    refine HOT.out.mono ?_
                    rintro e w51 ⟨rfl, hrow, hca, honly⟩
                    have ht51 := HT9.out.off honly (fun b hb => hb)
                    have hm51 := HM9.out.only honly (fun b hb e => by have := own_lo' HM9.out b hb; have := HBW4.out.size; omega)
                    have heq := equal_any Dn Am cdn cm (srtI due) (srtI mo) w51.heap.size w51.heap.size w51 hrow hm51.row (by rw [srtI_len]; have := HA40.out.st.nd.du.cap_le; omega) (by rw [srtI_len]; unfold maxLen; omega)
                    rw [show decide (srtI due = srtI mo) = true from by simp [HME.out], srtI_len, srtI_len] at heq
                    have HEQ := Lib.hid heq
                    have HT51 := Lib.hid ht51
                    have HC51 := Lib.hid hca
                    clear hrow hca honly ht51 hm51 heq HOT HT9 HM9
                    go_wp2_with fail
                    refine HEQ.out.mono ?_
                    rintro e w52 ⟨rfl, m3, rfl⟩
                    go_wp2_with fail
                    go_meet
                    exact ⟨[], out ++ srtI due, none, A9, 0, c9, by rw [List.length_append], HC51.out.below (below_drewN (Below.refl _ _) _), HT51.out.below (below_drewN (Below.refl _ _) _)⟩
            case rest =>
              obtain ⟨due3, out3, D3, Ao3, cd3, co3, rfl, hA, hTW⟩ := hcut
              have hct := counts_any hA.st.nd
              rw [hA.count HN.out, ← HDU.out] at hct
              have HCT := Lib.hid hct
              have HA3 := Lib.hid hA
              have HT3 := Lib.hid hTW
              have e1 : ((du.length : Int) != (du.length : Int)) = false := by simp
              have e2 : ((came2 : Int) != (came2 : Int)) = false := by simp
              clear hct hA hTW HTW4 HA40
              go_wp2_with fail
              refine HCT.out.mono ?_
              rintro e w53 ⟨rfl, hb53⟩
              have HA5 := Lib.hid (HA3.out.below hb53)
              have HT5 := Lib.hid (HT3.out.below hb53)
              have hlf := HA5.out.lefts HN.out hkl
              rw [← HLF.out] at hlf
              have HLE := Lib.hid hlf
              clear hb53 hlf HCT HA3 HT3
              go_wp2_with fail
              refine HLE.out.mono ?_
              rintro e w54 ⟨A9, c9, rfl, hr9, hb54⟩
              have HA6 := Lib.hid (HA5.out.below hb54)
              have ht6 := HT5.out.below hb54
              have heq := equal_any A9 A17 c9 c17 (srtI lf) (srtI lf) w54.heap.size w54.heap.size w54 hr9 ht6.a.row (by rw [srtI_len]; unfold maxLen; omega) (by rw [srtI_len]; unfold maxLen; omega)
              rw [show decide (srtI lf = srtI lf) = true from by simp] at heq
              rw [srtI_len] at heq ⊢
              have HEQ := Lib.hid heq
              clear hr9 hb54 ht6 heq HLE HA5 HT5
              go_wp2_with fail
              refine HEQ.out.mono ?_
              rintro e w55 ⟨rfl, m3, rfl⟩
              have HA7 := Lib.hid (HA6.out.below (below_drewN (Below.refl _ _) m3))
              clear HA6 HEQ
              go_wp2_with fail
              go_roundg (Q.length - (k + 1))
              case measure => have := HGK.out; omega
              case rel => exact ⟨k + 1, out3, Ao3, co3, came2, rfl, by omega, by go_num, rfl, rfl, by omega, HA7.out.all⟩
    · obtain rfl : k = Q.length := by omega
      obtain ⟨K', M, told, due, Dn, cdn, hA⟩ := hR
      have HBL := Lib.hid hA.st.bl
      have hkq : ¬ (Q.length : Int) < 1 + (P.length : Int) := by have := HQL.out; omega
      clear hA
      go_wp2_with fail
      go_ret
      exact ⟨rfl, HBL.out⟩
end Go.Proofs.Ytbhdagjilmgahaa
