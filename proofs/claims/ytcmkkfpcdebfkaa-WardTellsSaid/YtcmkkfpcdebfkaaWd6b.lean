/-
  All children started (ward.Begin), of a supervisor that is right.
-/
import Derived.Test.YtcmkkfpcdebfkaaWd7
import Derived.Test.YtcmkkfpcdebfkaaBoxLS
namespace Go.Proofs.Ytcmkkfpcdebfkaa
open Go.RowKit

theorem ward_info : (Try.prog.info? 215).map (·.size) = some 5 := by kernel_rfl
theorem live_len (l : List Ch) : ((l.map liveC).length) = l.length := by simp
theorem begun_live {ch : List Ch} {k : Nat} {y : Ch} (hk : k < ch.length) (hy : ch.getD k (0, 0, false) = y) (h : y.2.2 = true) : (ch.take (k + 1)).map liveC ++ ch.drop (k + 1) = (ch.take k).map liveC ++ ch.drop k ∧ deadIds (ch.take (k + 1)) = deadIds (ch.take k) := by
  subst hy
  rw [take_getD ch (0, 0, false) hk]
  refine ⟨?_, by rw [deadIds_snoc, if_pos h]⟩
  rw [drop_getD ch (0, 0, false) hk]
  have e : liveC (ch.getD k (0, 0, false)) = ch.getD k (0, 0, false) := by
    generalize ch.getD k (0, 0, false) = x at h
    obtain ⟨a, b, c⟩ := x
    dsimp only at h
    subst h
    rfl
  rw [List.map_append, List.map_cons, e]
  simp
theorem begun_dead {ch : List Ch} {k : Nat} {y : Ch} (hk : k < ch.length) (hy : ch.getD k (0, 0, false) = y) (h : y.2.2 = false) : (ch.take (k + 1)).map liveC ++ ch.drop (k + 1) = ((ch.take k).map liveC ++ ch.drop k).set k (y.1, y.2.1, true) ∧ deadIds (ch.take (k + 1)) = deadIds (ch.take k) ++ [y.1] := by
  subst hy
  rw [take_getD ch (0, 0, false) hk]
  refine ⟨?_, by rw [deadIds_snoc, if_neg (by rw [h]; decide)]⟩
  rw [List.set_append_right _ _ (by simp; omega), drop_getD ch (0, 0, false) hk]
  simp [liveC, Nat.min_eq_left (Nat.le_of_lt hk)]
theorem begun_at {ch : List Ch} {k : Nat} (hk : k < ch.length) : ((ch.take k).map liveC ++ ch.drop k).getD k (0, 0, false) = ch.getD k (0, 0, false) := by
  rw [List.getD_eq_getElem?_getD, List.getElem?_append_right (by simp; omega), List.length_map, List.length_take, Nat.min_eq_left (by omega), Nat.sub_self, List.getElem?_drop, Nat.add_zero, List.getD_eq_getElem?_getD]

set_option maxRecDepth 100000 in
set_option maxHeartbeats 4000000 in
theorem beginW_ok (x : WA) (v : Wd) (W : World) (h : WIn W x v) (hp : wardF v = 0) :
    Calls Try.prog 117 #[wardV x v] W (BegPost ⟨v.how, v.most, v.win, v.ch.map liveC, v.tm⟩ (deadIds v.ch) 0 W) := by
  have HC := Lib.hid (fun w => checkW x v w)
  have HIN := Lib.hid h
  obtain ⟨_, _, h20, h50, _⟩ := wardF_zero hp
  have HCP := Lib.hid (fun w h => copyW x v w h h20 h50)
  rw [hp] at HC
  clear hp h
  obtain ⟨A, c, B, d⟩ := x
  obtain ⟨how, most, win, ch, tm⟩ := v
  have hb0 := ((Below.refl W.heap.size W).alloc (Nat.le_refl _) (.cells #[.int .i64 how, .int .i64 most, .int .i64 win, .slice A ch.length c, .slice B tm.length d] 215)).alloc (by simp) (.cells #[.int .i64 0, .int .i64 0, .int .i64 0, .slice none 0 0, .slice none 0 0] 215)
  have hbx := (Box.new W 215 #[.int .i64 how, .int .i64 most, .int .i64 win, .slice A ch.length c, .slice B tm.length d]).alloc (.cells #[.int .i64 0, .int .i64 0, .int .i64 0, .slice none 0 0, .slice none 0 0] 215)
  have hbr := Box.new (W.alloc (.cells #[.int .i64 how, .int .i64 most, .int .i64 win, .slice A ch.length c, .slice B tm.length d] 215)) 215 #[.int .i64 0, .int .i64 0, .int .i64 0, .slice none 0 0, .slice none 0 0]
  rw [show (W.alloc (.cells #[.int .i64 how, .int .i64 most, .int .i64 win, .slice A ch.length c, .slice B tm.length d] 215)).heap.size = W.heap.size + 1 by simp] at hbr
  have HB0 := Lib.hid hb0
  have HBX := Lib.hid hbx
  have HBR := Lib.hid hbr
  have HI := Lib.hid (HIN.out.below hb0)
  unfold wardV at HC HCP ⊢
  dsimp only at HC HCP h20 h50 ⊢
  clear hb0 hbr hbx
  go_enter Try.func117, Try.ntmps117
  go_wp2_with fail
  refine (HC.out _ HI.out).mono ?_
  rintro e w1 ⟨rfl, hb1⟩
  have HX1 := Lib.hid (HBX.out.below hb1 (by simp; omega))
  have HR1 := Lib.hid (HBR.out.below hb1 (by simp))
  have HB1 := Lib.hid (HB0.out.trans (hb1.mono (by simp; omega)))
  have HI1 := Lib.hid (HI.out.below hb1)
  clear hb1
  go_wp2_with (guard_target =~ wpList _ _ _ ({ dst := some 15, op := _, type := _, pos := _, after := _, guard := _ } :: _) _ _; refine wpList_load_box rfl 215 (.tmp 1) rfl W.heap.size rfl #[.int .i64 how, .int .i64 most, .int .i64 win, .slice A ch.length c, .slice B tm.length d] _ HX1 Try.underlying215 rfl (by rw [ward_info]; rfl) ?_)
  refine (HCP.out w1 HI1.out).mono ?_
  rintro e w2 ⟨⟨A2, c2, B2, d2⟩, rfl, ho2, hb2⟩
  have hg1 : W.heap.size + 1 < w1.heap.size := HR1.out.lt
  have HX2 := Lib.hid (HX1.out.below hb2 HX1.out.lt)
  have HR2 := Lib.hid (HR1.out.below hb2 HR1.out.lt)
  have HO2 := Lib.hid ho2
  have HB2 := Lib.hid (HB1.out.trans (hb2.mono (by omega)))
  have hb2s := hb2.size
  clear ho2 hb2
  go_upto_region 5 with (guard_target =~ wpList _ _ _ ({ dst := none, op := _, type := _, pos := _, after := _, guard := _ } :: _) _ _; refine wpList_store_box rfl 215 (.tmp 1) (.tmp 16) rfl W.heap.size rfl #[.int .i64 how, .int .i64 most, .int .i64 win, .slice A ch.length c, .slice B tm.length d] #[.int .i64 how, .int .i64 most, .int .i64 win, .slice A2 ch.length c2, .slice B2 tm.length d2] rfl HX2 rfl (by rw [ward_info]; rfl) (by simp [Value.oneCell']) ?_; intro w3 hs3)
  have HX3 := Lib.hid hs3.out.box
  have HR3 := Lib.hid (hs3.out.only.box HR2.out (by omega))
  have hn2 : ∀ b, A2.map (·.block) = some b → W.heap.size + 1 < b := fun b hb => by
    rcases HO2.out.ch.form with ⟨h0, _⟩ | ⟨g, o, h0⟩
    · dsimp only at h0; subst h0; cases hb
    · dsimp only at h0
      subst h0
      injection hb with hb
      dsimp only at hb
      have := HO2.out.ch.lt
      omega
  have hm2 : ∀ b, B2.map (·.block) = some b → W.heap.size + 1 < b := fun b hb => by
    rcases HO2.out.tm.form with ⟨h0, _⟩ | ⟨g, o, h0⟩
    · dsimp only at h0; subst h0; cases hb
    · dsimp only at h0
      subst h0
      injection hb with hb
      dsimp only at hb
      have := HO2.out.tm.lt
      omega
  have HC3 := Lib.hid (HO2.out.ch.only hs3.out.only (fun b hb => by have := hn2 b hb; omega))
  have HT3 := Lib.hid (HO2.out.tm.only hs3.out.only (fun b hb => by have := hm2 b hb; omega))
  have HB3 := Lib.hid (hs3.out.only.to_below HB2.out HB2.out.size (fun i hi => by omega))
  have hsz3 := hs3.out.size
  clear hs3
  have k3 := HX3.out.cell 3
  simp only [List.getElem?_toArray, List.getElem?_cons_zero, List.getElem?_cons_succ] at k3
  go_wp2_with fail
  go_loopg [6, 20] ch.length (fun gk v6 i wr => ∃ (k : Nat) (C : Option Addr) (kc : Nat), gk = ch.length - k ∧ k ≤ ch.length ∧ i = .int .i64 k ∧ v6 = .slice C (deadIds (ch.take k)).length kc ∧ OwnAt wr w1.heap.size 230 3 A2 ((ch.take k).map liveC ++ ch.drop k).length c2 (flat wcC ((ch.take k).map liveC ++ ch.drop k)) ∧ OwnAt wr w3.heap.size 3 1 C (deadIds (ch.take k)).length kc (ints (deadIds (ch.take k))) ∧ Only (fun b => A2.map (·.block) = some b) w3 wr)
  case atStart => exact ⟨0, none, 0, rfl, by omega, rfl, rfl, HC3.out, OwnAt.nil, Only.refl _ _⟩
  case round =>
    obtain ⟨k, C, kc, hgk, hk, rfl, rfl, hol, hoc, hon⟩ := hrel
    have hbx := hon.box HX3.out (fun h => ownW_ne HO2.out.ch HX2.out (by decide) h)
    have hln : ((ch.take k).map liveC ++ ch.drop k).length = ch.length := by simp; omega
    rcases Nat.eq_or_lt_of_le hk with rfl | hlt
    · have d0 : decide ((ch.length : Int) < ch.length) = false := decide_eq_false (by omega)
      rw [List.take_of_length_le (Nat.le_refl _), List.drop_of_length_le (Nat.le_refl _), List.append_nil] at hol
      rw [List.take_of_length_le (Nat.le_refl _)] at hoc ⊢
      have HOL := Lib.hid hol
      have HOC := Lib.hid hoc
      have HON := Lib.hid hon
      have HXR := Lib.hid hbx
      have HRR := Lib.hid (hon.box HR3.out (fun h => ownW_ne HO2.out.ch HR2.out (by decide) h))
      clear hol hoc hon hbx hgk hk hln k3
      go_wp2_with (first | (guard_target =~ wpList _ _ _ ({ dst := some 43, op := _, type := _, pos := _, after := _, guard := _ } :: _) _ _; refine wpList_load_box rfl 215 (.tmp 1) rfl W.heap.size rfl #[.int .i64 how, .int .i64 most, .int .i64 win, .slice A2 ch.length c2, .slice B2 tm.length d2] _ HXR Try.underlying215 rfl (by rw [ward_info]; rfl) ?_) | (guard_target =~ wpList _ _ _ ({ dst := none, op := _, type := _, pos := _, after := _, guard := _ } :: _) _ _; refine wpList_store_box rfl 215 (.tmp 2) (.tmp 43) rfl (W.heap.size + 1) rfl #[.int .i64 0, .int .i64 0, .int .i64 0, .slice none 0 0, .slice none 0 0] #[.int .i64 how, .int .i64 most, .int .i64 win, .slice A2 ch.length c2, .slice B2 tm.length d2] rfl HRR rfl (by rw [ward_info]; rfl) (by simp [Value.oneCell']) ?_; intro w5 hs5))
      refine bodyPost_ret (v := .tuple #[.agg #[.int .i64 how, .int .i64 most, .int .i64 win, .slice A2 ch.length c2, .slice B2 tm.length d2], .slice C (deadIds ch).length kc, .int .i64 0]) (res_c1_t2 Try.results117 rfl (run_load_box hs5.out.box Try.underlying215 rfl (by rw [ward_info]; rfl)) rfl rfl) rfl ?_
      have hw13 : w1.heap.size ≤ w3.heap.size := by have := hb2s; omega
      have hfar : ∀ b, w1.heap.size ≤ b → ¬ b = W.heap.size + 1 := fun b hb => by omega
      refine ⟨⟨A2, c2, B2, d2⟩, C, kc, ?_, ⟨?_, ?_⟩, ?_, ?_⟩
      · simp [wardV]
      · exact (HOL.out.only hs5.out.only (fun b hb => by have := hn2 b hb; omega)).lower (by have := HB0.out.size; omega)
      · refine ((HT3.out.only HON.out (own_apart HT3.out HC3.out (by decide))).only hs5.out.only (fun b hb => by have := hm2 b hb; omega)).lower ?_
        omega
      · refine (HOC.out.only hs5.out.only (fun b hb => ?_)).lower (by omega)
        rcases HOC.out.form with ⟨h0, _⟩ | ⟨g, o, h0⟩
        · subst h0; cases hb
        · subst h0
          injection hb with hb
          have := HOC.out.lt
          dsimp only at hb
          omega
      · exact hs5.out.only.to_below (HON.out.to_below HB3.out HB3.out.size (fun i hi => by have := hn2 i hi; omega)) (by have := HON.out.size; have := HB3.out.size; omega) (fun i hi => by omega)
    · have d0 : decide ((k : Int) < ch.length) = true := decide_eq_true (by omega)
      have d0' : decide (k < ch.length) = true := decide_eq_true hlt
      obtain ⟨l, hl⟩ : ∃ l, (ch.take k).map liveC ++ ch.drop k = l := ⟨_, rfl⟩
      obtain ⟨acc, hacc⟩ : ∃ acc, deadIds (ch.take k) = acc := ⟨_, rfl⟩
      have hyl : l.getD k (0, 0, false) = ch.getD k (0, 0, false) := by rw [← hl]; exact begun_at hlt
      have hal : acc.length ≤ 20 := by
        rw [← hacc]
        unfold deadIds
        rw [List.length_map]
        refine Nat.le_trans (List.length_filter_le _ _) ?_
        rw [List.length_take]
        omega
      rw [hl] at hol hln
      rw [hacc] at hoc ⊢
      have HSA := Lib.hid hacc
      have HSL := Lib.hid hl
      have hkl : k < l.length := by omega
      obtain ⟨gA, oA, rfl, hnc⟩ := hol.some_of (by omega)
      have hgA := hol.lt
      obtain ⟨y, hy⟩ : ∃ y, ch.getD k (0, 0, false) = y := ⟨_, rfl⟩
      rw [hy] at hyl
      have k0 := hol.cells (k * 3) _ (flat_get wcC_len (j := 0) (getD_some (0, 0, false) hkl) rfl)
      have k2 := hol.cells (k * 3 + 2) _ (flat_get wcC_len (j := 2) (getD_some (0, 0, false) hkl) rfl)
      rw [← Nat.add_assoc] at k2
      have f2 := hol.frozen (oA + k * 3 + 2)
      have HPUT := Lib.hid (own_put hol hkl true)
      rw [hyl] at k0 k2 HPUT
      have HGL := Lib.hid (fun h => begun_live hlt hy h)
      have HGD := Lib.hid (fun h => begun_dead hlt hy h)
      rw [hl, hacc] at HGL HGD
      have HOL := Lib.hid hol
      have HOC := Lib.hid hoc
      have HON := Lib.hid hon
      have HGK := Lib.hid hgk
      have hcap := hol.cap_le
      have hc63 : c2 ≤ 9223372036854775807 := by have := hcap.2; unfold maxLen at this; omega
      have c3 := hbx.cell 3
      simp only [List.getElem?_toArray, List.getElem?_cons_zero, List.getElem?_cons_succ] at c3
      have hl20 : k < 20 := by omega
      clear hol hoc hon hgk hbx hln hyl hy hl hacc hcap k3 hk
      obtain ⟨y0, y1, y2⟩ := y
      dsimp only at k0 k2 HPUT HGL HGD
      cases y2 with
      | true =>
        obtain ⟨HE1, HE2⟩ := HGL.out rfl
        have HS1 := Lib.hid HE1
        have HS2 := Lib.hid HE2
        clear HE1 HE2
        go_wp2_with fail
        go_roundg (ch.length - (k + 1))
        case measure => have := HGK.out; omega
        case rel => exact ⟨k + 1, C, kc, rfl, by omega, by go_num, by rw [HS2.out], by rw [HS1.out]; exact HOL.out, by rw [HS2.out]; exact HOC.out, HON.out⟩
      | false =>
        obtain ⟨HE1, HE2⟩ := HGD.out rfl
        have HS1 := Lib.hid HE1
        have HS2 := Lib.hid HE2
        clear HE1 HE2
        have hws := HON.out.size
        have hgW : gA < w3.heap.size := HC3.out.lt.2
        go_upto_region 12 with fail
        have k0' := HPUT.out.cells (k * 3) _ (flat_get wcC_len (j := 0) (x := (y0, y1, true)) (by rw [List.getElem?_set_self hkl]) rfl)
        have HOC3 := Lib.hid (HOC.out.far (p := ⟨gA, oA + k * 3 + 2, none⟩) (fun g o e => by have h1 := HOC.out; subst e; have := h1.lt.1; simp; omega) (.bool true))
        have HON3 := Lib.hid (HON.out.set (p := ⟨gA, oA + k * 3 + 2, none⟩) rfl (.bool true))
        have hg3 : gA < (wr.setCell ⟨gA, oA + k * 3 + 2, none⟩ (.bool true)).heap.size := HPUT.out.lt.2
        have c3' : (wr.setCell ⟨gA, oA + k * 3 + 2, none⟩ (.bool true)).heap.size = wr.heap.size := by simp [World.setCell]
        clear k0 k2 f2 c3
        generalize wr.setCell ⟨gA, oA + k * 3 + 2, none⟩ (.bool true) = w4 at *
        have hw4 : w3.heap.size ≤ w4.heap.size := by omega
        clear c3'
        have HOC4 := Lib.hid (HOC3.out.alloc (.cells #[.int .i64 y0] 3))
        have HYC := Lib.hid (show (w4.alloc (.cells #[.int .i64 y0] 3)).cell? ⟨w4.heap.size, 0, none⟩ = some (.int .i64 y0) from (Box.new w4 3 #[.int .i64 y0]).cell 0)
        have hbd : (acc.length + 1) * 8 ≤ 140737488355328 := by omega
        have HPA := Lib.hid (HPUT.out.alloc (.cells #[.int .i64 y0] 3))
        have HONA := Lib.hid (HON3.out.alloc (.cells #[.int .i64 y0] 3))
        have HCB := Lib.hid (show ∀ i, C.map (·.block) = some i → w3.heap.size ≤ i from fun i hi => by
          rcases HOC3.out.form with ⟨rfl, _⟩ | ⟨g1, o1, rfl⟩
          · simp at hi
          · simp at hi; subst hi; exact HOC3.out.lt.1)
        go_wp2_with (at_builtin; refine wpList_push_w rfl (.tmp 35) (.tmp 40) rfl w3.heap.size C kc acc rfl HOC4.out w4.heap.size y0 rfl HYC.out hbd (by simp; omega) ?_; intro C2 kc2 w5 hown5 ho5)
        have HPB := Lib.hid (HPA.out.only ho5 (fun b hb hc => by simp at hb; subst hb; have := HCB.out _ hc; omega))
        have HONB := Lib.hid (HONA.out.fresh ho5 HCB.out)
        have HO5 := Lib.hid hown5
        clear hown5 ho5
        go_roundg (ch.length - (k + 1))
        case measure => have := HGK.out; omega
        case rel => exact ⟨k + 1, C2, kc2, rfl, by omega, by go_num, by rw [HS2.out, List.length_append]; rfl, by rw [HS1.out]; exact HPB.out, by rw [HS2.out, List.length_append]; exact HO5.out, HONB.out⟩
end Go.Proofs.Ytcmkkfpcdebfkaa
