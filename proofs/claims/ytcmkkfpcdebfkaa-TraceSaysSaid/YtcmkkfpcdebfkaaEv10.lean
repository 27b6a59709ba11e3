/-
  Histories: the walk of clock.Clocks.
-/
import Derived.Test.YtcmkkfpcdebfkaaEv9
namespace Go.Proofs.Ytcmkkfpcdebfkaa
open Go.RowKit Go.Maps

theorem own_of_box {w : World} {base g : Nat} {xs : List Int} (h : Box w g 3 (ints xs).toArray) (hb : base ≤ g) (hm : xs.length ≤ maxLen) : OwnAt w base 3 1 (some ⟨g, 0, none⟩) xs.length xs.length (ints xs) :=
  ⟨by simp [ints], .inr ⟨g, 0, _, rfl, hb, h, Nat.le_refl _, hm, by simp [ints], by rw [Nat.mul_one, List.drop_zero, List.take_of_length_le (by simp [ints])]⟩⟩
theorem iown_of_box {w : World} {base g : Nat} {xs : List Int} (h : Box w g 3 (ints xs).toArray) (hb : base ≤ g) (hm : xs.length ≤ maxLen) : IOwn w base (.slice (some ⟨g, 0, none⟩) xs.length xs.length) xs :=
  ⟨_, _, rfl, own_of_box h hb hm⟩
section
variable {l : List Ev} {S T : Nat → Prop} {n k : Nat}
theorem join_none : joinTo (vec l S n) [] (max (vec l S n).length ([] : List Int).length) = vec l S n := by
  have e : max (vec l S n).length ([] : List Int).length = 8 := by rw [vec_len]; rfl
  rw [e]
  refine vec_ext (joinTo_len _ _ _) fun q hq => ?_
  rw [joinTo_get _ _ _ _ hq, vec_getD hq]
  simp
theorem join_or (hs : ∀ q, Pre l S q) (ht : ∀ q, Pre l T q) : joinTo (vec l S n) (vec l T n) (max (vec l S n).length (vec l T n).length) = vec l (fun j => S j ∨ T j) n := by
  have e : max (vec l S n).length (vec l T n).length = 8 := by rw [vec_len, vec_len]; rfl
  rw [e]
  refine vec_ext (joinTo_len _ _ _) fun q hq => ?_
  rw [joinTo_get _ _ _ _ hq, vec_getD hq, vec_getD hq, cnt_or (hs _) (ht _)]
  omega
theorem vec_bef_plain (h3 : (evAt l k).2.1 ≠ 3) : vec l (Bef l k) n = vec l (Lst l k (evAt l k).1) n := vec_iff fun j _ => by rw [bef_parts]; simp [h3]
theorem vec_bef_take (h3 : (evAt l k).2.1 = 3) : vec l (Bef l k) n = vec l (fun j => Lst l k (evAt l k).1 j ∨ Snd l k (evAt l k).2.2 j) n := vec_iff fun j _ => by rw [bef_parts]; simp [h3]
theorem vec_upto {p : Nat} (hk : k < n) (hp : (evAt l k).1 = (p : Int)) (hp8 : p < 8) : (vec l (Bef l k) n).set p ((cnt l (Bef l k) (p : Int) n : Nat) + 1 : Int) = vec l (Upto l k) n := by
  refine vec_ext (by rw [List.length_set, vec_len]) fun q hq => ?_
  rw [set_getDv (by rw [vec_len]; exact hp8)]
  have h1 : cnt l (Upto l k) (q : Int) n = cnt l (Bef l k) (q : Int) n + if (evAt l k).1 = (q : Int) then 1 else 0 := cnt_one hk (fun h => absurd h.lt (Nat.lt_irrefl _))
  rw [h1]
  by_cases e : q = p
  · subst e
    rw [if_pos rfl, if_pos hp]
    omega
  · rw [if_neg e, if_neg (by omega), vec_getD hq]
    rfl
end

theorem zero_rowS (w : World) : (zeroValue 33).run Try.prog w = .ok (.slice none 0 0) w := by kernel_rfl
theorem IOwn.parts {w : World} {base : Nat} {v : Value} {xs : List Int} (h : IOwn w base v xs) : ∃ A c, v = .slice A xs.length c ∧ Row w w.heap.size A (ints xs) := by
  obtain ⟨A, cap, h1, h2⟩ := h
  exact ⟨A, cap, h1, h2.row⟩
theorem joinI {l : List Ev} {S : Nat → Prop} {n base : Nat} {v1 : Value} {w : World} (h : IOwn w base v1 (vec l S n)) :
    Calls Try.prog 154 #[v1, .slice none 0 0] w fun e w' => ∃ v, e = .returned v ∧ IOwn w' w.heap.size v (vec l S n) ∧ Below w.heap.size w w' := by
  obtain ⟨A, c, rfl, hr⟩ := h.parts
  have hj := join_any A none c 0 (vec l S n) [] w hr Row.nil (by rw [vec_len]; decide) (by decide)
  rw [join_none] at hj
  exact hj.mono fun e w' ⟨v, h1, h2, h3⟩ => ⟨v, h1, IOwn.of_own h2, h3⟩
theorem joinV {l : List Ev} {S T : Nat → Prop} {n base base' : Nat} {v1 v2 : Value} {w : World} (h : IOwn w base v1 (vec l S n)) (h' : IOwn w base' v2 (vec l T n)) (hs : ∀ q, Pre l S q) (ht : ∀ q, Pre l T q) :
    Calls Try.prog 154 #[v1, v2] w fun e w' => ∃ v, e = .returned v ∧ IOwn w' w.heap.size v (vec l (fun j => S j ∨ T j) n) ∧ Below w.heap.size w w' := by
  obtain ⟨A, c, rfl, hr⟩ := h.parts
  obtain ⟨A', c', rfl, hr'⟩ := h'.parts
  have hj := join_any A A' c c' (vec l S n) (vec l T n) w hr hr' (by rw [vec_len]; decide) (by rw [vec_len]; decide)
  rw [join_or hs ht] at hj
  exact hj.mono fun e w' ⟨v, h1, h2, h3⟩ => ⟨v, h1, IOwn.of_own h2, h3⟩

set_option maxHeartbeats 400000 in
theorem clocks_bad (A : Option Addr) (c : Nat) (l : List Ev) (W : World) (h : EvIn W A c l) (hbad : history l ≠ 0) :
    Calls Try.prog 71 #[.slice A l.length c] W fun e w' => e = .returned (.tuple #[.slice none 0 0, .int .i64 (history l)]) ∧ Below W.heap.size W w' := by
  have HC := Lib.hid h.check
  have q1 : (history l != 0) = true := by rw [bne_iff_ne]; exact hbad
  generalize history l = e0 at *
  clear h hbad
  go_enter Try.func71, Try.ntmps71
  go_wp2_with fail
  refine HC.out.mono ?_
  rintro e w1 ⟨rfl, hb⟩
  have HB := Lib.hid hb
  clear hb
  go_wp2_with fail
  go_ret2
  exact ⟨rfl, HB.out⟩

set_option maxRecDepth 100000 in
set_option maxHeartbeats 4000000 in
theorem clocks_ok (A : Option Addr) (c : Nat) (l : List Ev) (W : World) (h : EvIn W A c l) (h0 : history l = 0) :
    Calls Try.prog 71 #[.slice A l.length c] W fun e w' => ∃ v os, e = .returned (.tuple #[v, .int .i64 0]) ∧ os.length = l.length ∧ w'.ownsRow W.heap.size 33 1 v l.length os ∧ OutRows l w' W.heap.size os ∧ Below W.heap.size W w' := by
  have hmk := @run_makeMap Try.prog
  have hm1 : ∀ w, (Instr.makeSlice 33 (.int .i64 8) (.int .i64 8)).run Try.prog w = .ok (.slice (some ⟨w.heap.size, 0, none⟩) 8 8) (w.alloc (.cells (ints (zerosI 8)).toArray 3)) := fun w => make_ints 8 (by omega) w
  have hm2 : ∀ w, (Instr.makeSlice 85 (.int .i64 8) (.int .i64 8)).run Try.prog w = .ok (.slice (some ⟨w.heap.size, 0, none⟩) 8 8) (w.alloc (.cells (hsA fun _ => .slice none 0 0) 33)) := fun w =>
    make_one Try.underlying85 mis_info rfl (by decide) 8 (by omega) w
  have hl200 := (hist_good h0).1
  have HG := Lib.hid (hist_good h0).2
  have hck := h.check
  rw [h0] at hck
  have HC := Lib.hid hck
  have HR := Lib.hid h.row
  clear h h0 hck
  go_enter Try.func71, Try.ntmps71
  go_wp2_with fail
  refine HC.out.mono ?_
  rintro e w1 ⟨rfl, hb⟩
  have HB1 := Lib.hid hb
  have HBX := Lib.hid (Box.new w1 33 (hsA fun _ => .slice none 0 0))
  have HBEL := Lib.hid (show Below W.heap.size W (w1.alloc (.cells (hsA fun _ => .slice none 0 0) 33)) from hb.alloc hb.size _)
  have hsz := hb.size
  clear hb HC
  go_wp2_with fail
  generalize w1.heap.size = g1 at *
  generalize w1.alloc (.cells (hsA fun _ => .slice none 0 0) 33) = w2 at *
  go_loopg [20] 8 (fun gk i wr => ∃ (k : Nat) (hs : Nat → Value), gk = 8 - k ∧ k ≤ 8 ∧ i = .int .i64 k ∧ Box wr g1 33 (hsA hs) ∧ (∀ p, p < 8 → p < k → IOwn wr W.heap.size (hs p) (zerosI 8)) ∧ Below W.heap.size W wr)
  case atStart => exact ⟨0, _, by omega, by omega, rfl, HBX.out, (fun p _ hp => by omega), HBEL.out⟩
  case round =>
    clear HBX HBEL
    obtain ⟨k, hs, hgk, hk, rfl, hbx, hrows, hb⟩ := hrel
    have HK := Lib.hid hgk
    clear hgk
    by_cases hlt : k < 8
    · have hc := (hbx.cell k).trans (hsA_get hlt)
      have hf := hbx.frozen k
      have hg1l := hbx.lt
      have hN : NoInts wr g1 := NoInts.box hbx int_ne_row
      have HNEW := Lib.hid (show Box ((wr.setCell ⟨g1, k, none⟩ (.slice (some ⟨wr.heap.size, 0, none⟩) 8 8)).alloc (.cells (ints (zerosI 8)).toArray 3)) g1 33 (hsA fun i => if i = k then .slice (some ⟨wr.heap.size, 0, none⟩) 8 8 else hs i) ∧
          (∀ p, p < 8 → p < k + 1 → IOwn ((wr.setCell ⟨g1, k, none⟩ (.slice (some ⟨wr.heap.size, 0, none⟩) 8 8)).alloc (.cells (ints (zerosI 8)).toArray 3)) W.heap.size ((fun i => if i = k then .slice (some ⟨wr.heap.size, 0, none⟩) 8 8 else hs i) p) (zerosI 8)) ∧
          Below W.heap.size W ((wr.setCell ⟨g1, k, none⟩ (.slice (some ⟨wr.heap.size, 0, none⟩) 8 8)).alloc (.cells (ints (zerosI 8)).toArray 3)) by
        have hbs := hb.size
        have hgr : wr.grownBy (wr.setCell ⟨g1, k, none⟩ (.slice (some ⟨wr.heap.size, 0, none⟩) 8 8)) (some g1) := ⟨rfl, rfl, rfl, by simp [World.setCell], fun i _ hi => Below.heap_setCell wr ⟨g1, k, none⟩ _ i (fun e => hi (by rw [e]))⟩
        have hNN : ∀ g, some g1 = some g → NoInts wr g := fun g e => by injection e with e; subst e; exact hN
        refine ⟨by have := hbx.set k (.slice (some ⟨wr.heap.size, 0, none⟩) 8 8); rw [hsA_set] at this; exact this.alloc _, fun p hp8 hp => ?_, (hb.setCell (by simp; omega) _).alloc (by simpa [World.setCell] using hbs) _⟩
        by_cases e : p = k
        · dsimp only
          rw [if_pos e]
          have hnb := Box.new (wr.setCell ⟨g1, k, none⟩ (.slice (some ⟨wr.heap.size, 0, none⟩) 8 8)) 3 (ints (zerosI 8)).toArray
          rw [show (wr.setCell ⟨g1, k, none⟩ (.slice (some ⟨wr.heap.size, 0, none⟩) 8 8)).heap.size = wr.heap.size by simp [World.setCell]] at hnb
          exact iown_of_box hnb hbs (by decide)
        · dsimp only
          rw [if_neg e]
          exact ((hrows p hp8 (by omega)).grown hgr hNN).alloc _)
      clear hbx hrows hb hN
      go_wp2_with fail
      go_roundg (8 - (k + 1))
      case measure => have := HK.out; omega
      case rel => exact ⟨k + 1, _, rfl, by omega, by go_num, HNEW.out⟩
    · obtain rfl : k = 8 := by omega
      clear hm1 hm2
      have HST := Lib.hid (show ClkSt l W (wr.alloc (.map #[] 0)) g1 wr.heap.size (wr.heap.size + 1) 0 (.slice none 0 0) by
        have hbs := hb.size
        have hg1l := hbx.lt
        refine ⟨⟨hs, hbx.alloc _, fun p hp => ?_⟩, ⟨_, MapV.made wr, (fun m u hu => by cases hu), (fun m _ j hj => by obtain ⟨k, hk, _⟩ := hj; omega)⟩, ⟨[], rfl, World.ownsRow_nil _ _ _ _, fun i u hu => by simp at hu⟩, hb.alloc hbs _, by simp; omega⟩
        rw [vec_none fun j _ hj => by obtain ⟨k, hk, _⟩ := hj; omega]
        exact (hrows p hp hp).alloc _)
      clear hbx hrows hb
      go_wp2_with fail
      clear hmk
      generalize wr.heap.size = g2 at *
      generalize wr.alloc (.map #[] 0) = w3 at *
      clear wr
      go_loopg [8, 31] l.length (fun gk v i wr => ∃ (k : Nat), gk = l.length - k ∧ k ≤ l.length ∧ i = .int .i64 k ∧ ClkSt l W wr g1 g2 (g2 + 1) k v)
      case atStart => exact ⟨0, by omega, by omega, rfl, HST.out⟩
      case round =>
        clear HST HK
        obtain ⟨k, hgk, hk, rfl, hst⟩ := hrel
        have HK := Lib.hid hgk
        clear hgk
        by_cases hlt : k < l.length
        · obtain ⟨b, o, hA, hbl, hc0, hc1, hc2⟩ := (HR.out.below hst.bel).ev hlt (0, 0, 0)
          have HGD := Lib.hid (HG.out k hlt)
          have HE := Lib.hid (show evAt l k = l.getD k (0, 0, 0) from rfl)
          have hp := HGD.out.place
          have hkd := HGD.out.kind
          have hmg := HGD.out.msg
          rw [HE.out] at hp hkd hmg
          have HST := Lib.hid (hst.alloc (.cells #[.int .i64 (l.getD k (0, 0, 0)).1, .int .i64 (l.getD k (0, 0, 0)).2.1, .int .i64 (l.getD k (0, 0, 0)).2.2] 146))
          have hg2l : g2 < wr.heap.size := by have := hst.low; omega
          have hg1l : g1 < wr.heap.size := by have := hst.low; omega
          clear hst
          generalize hy : l.getD k (0, 0, 0) = y at *
          clear hy
          obtain ⟨ep, ek, em⟩ := y
          dsimp only at hc0 hc1 hc2 hp hkd hmg HST
          obtain ⟨p, rfl⟩ : ∃ p : Nat, ep = (p : Int) := ⟨ep.toNat, by omega⟩
          subst hA
          go_upto_region 15 with fail
          have hbx := Box.new wr 146 #[.int .i64 (p : Int), .int .i64 ek, .int .i64 em]
          clear hc0 hc1 hc2
          generalize wr.heap.size = ge at *
          generalize wr.alloc (.cells #[.int .i64 (p : Int), .int .i64 ek, .int .i64 em] 146) = w4 at *
          clear wr
          have hp8 : p < 8 := by omega
          obtain ⟨hs2, hlb, hlr⟩ := HST.out.last
          have hlc := (hlb.cell p).trans (hsA_get hp8)
          have hw4 : W.heap.size ≤ w4.heap.size := HST.out.bel.size
          have HJ := Lib.hid (joinI (hlr p hp8))
          have c0 := hbx.cell 0
          have c1 := hbx.cell 1
          have c2 := hbx.cell 2
          simp only [List.getElem?_toArray, List.getElem?_cons_zero, List.getElem?_cons_succ] at c0 c1 c2
          have HBX := Lib.hid hbx
          clear hlb hlr hbx
          generalize hs2 p = vp at *
          go_wp2_with fail
          refine HJ.out.mono ?_
          rintro e w5 ⟨v1, rfl, hv1, hb5⟩
          have HV1 := Lib.hid hv1
          have HB5 := Lib.hid hb5
          have HBX5 := Lib.hid (HBX.out.below hb5 HBX.out.lt)
          have hst5 := HST.out.under hb5
          have HST5 := Lib.hid hst5
          clear hv1 hb5 hst5 HJ hlc c0 c1 c2
          have c0 := HBX5.out.cell 0
          have c1 := HBX5.out.cell 1
          have c2 := HBX5.out.cell 2
          simp only [List.getElem?_toArray, List.getElem?_cons_zero, List.getElem?_cons_succ] at c0 c1 c2
          go_upto_if 43 with fail
          go_cut [11] (fun v11 wx => IOwn wx w4.heap.size v11 (vec l (Bef l k) l.length) ∧ Below w4.heap.size w4 wx)
          case first =>
            by_cases k3 : ek = 3
            · have q3 : (ek == 3) = true := by rw [beq_iff_eq]; exact k3
              obtain ⟨F, b1, b2, b3⟩ := HST5.out.sent
              have hlk := b1.look (t := 282) (e := 33) ints_keyed Try.underlying282 (zero_rowS _) (int_key (show I64 em by unfold I64; omega))
              cases hF : F em with
              | none =>
                obtain ⟨k', s1, s2, s3⟩ := HGD.out.sent (by rw [HE.out]; exact k3)
                exact absurd ⟨k', s1, s2, by rw [s3, HE.out], .inl rfl⟩ (b3 em hF k')
              | some u =>
                rw [hF] at hlk
                have hlk : (Instr.lookup 282 (.map (some g2)) (.int .i64 em) false).run Try.prog w5 = .ok u w5 := hlk
                have hj := joinV HV1.out (b2 em u hF) (fun q => pre_lst _ _ q) (fun q => pre_snd _ _ q)
                have hbt := vec_bef_take (l := l) (k := k) (n := l.length) (by rw [HE.out]; exact k3)
                rw [HE.out] at hbt
                rw [← hbt] at hj
                have HJ := Lib.hid hj
                clear hj hbt b1 b2 b3 hF k3
                go_wp2_with fail
                refine HJ.out.mono ?_
                rintro e w6 ⟨v2, rfl, hv2, hb6⟩
                have HO := Lib.hid (And.intro (hv2.lower HB5.out.size) (HB5.out.trans (hb6.mono HB5.out.size)))
                clear hv2 hb6
                go_wp2_with fail
                go_meet
                exact HO.out
            · have q3 : (ek == 3) = false := by rw [beq_eq_false_iff_ne]; exact k3
              have hbt := vec_bef_plain (l := l) (k := k) (n := l.length) (by rw [HE.out]; exact k3)
              rw [HE.out] at hbt
              have HO := Lib.hid (And.intro (show IOwn w5 w4.heap.size v1 (vec l (Bef l k) l.length) by rw [hbt]; exact HV1.out) HB5.out)
              clear hbt k3
              go_wp2_with fail
              go_meet
              exact HO.out
          case rest =>
            obtain ⟨hu, hb6⟩ := hcut
            clear HST5 HV1 HB5 HBX5 c0 c1 c2
            have HST6 := Lib.hid (HST.out.under hb6)
            have HBX6 := Lib.hid (HBX.out.below hb6 HBX.out.lt)
            obtain ⟨gu, ou, cu, hv, hgu, hgu2, _, hown⟩ := hu.form (by rw [vec_len]; decide)
            rw [vec_len] at hv
            subst hv
            have hcp := hown.cells p (.int .i64 ((cnt l (Bef l k) (p : Int) l.length : Nat) : Int)) (by unfold ints; rw [List.getElem?_map, vec_get hp8]; rfl)
            have hcf := hown.frozen (ou + p)
            have hcl := cnt_le (l := l) (S := Bef l k) (q := (p : Int)) (n := l.length)
            have HUP := Lib.hid (vec_upto (l := l) (k := k) (n := l.length) hlt (by rw [HE.out]) hp8)
            have HSET := Lib.hid (fun v => IOwn.set hown rfl p v)
            have HB6 := Lib.hid hb6
            generalize hcb : cnt l (Bef l k) (p : Int) l.length = cb at *
            clear hown hu hb6 hcb HST6
            have hcb200 : (cb : Int) ≤ 200 := by omega
            have hcb0 : 0 ≤ (cb : Int) := by omega
            have c0 := HBX6.out.cell 0
            have c1 := HBX6.out.cell 1
            have c2 := HBX6.out.cell 2
            simp only [List.getElem?_toArray, List.getElem?_cons_zero, List.getElem?_cons_succ] at c0 c1 c2
            clear hcl
            go_upto_region 19 with fail
            have hb7 : Below w4.heap.size w4 (wc.setCell ⟨gu, ou + p, none⟩ (.int .i64 ((cb : Int) + 1))) := HB6.out.setCell hgu _
            have hi7 := HSET.out ((cb : Int) + 1)
            rw [HUP.out, vec_len] at hi7
            clear HUP HSET HB6 hcp hcf HBX6 c0 c1 c2 hgu2
            generalize wc.setCell ⟨gu, ou + p, none⟩ (.int .i64 ((cb : Int) + 1)) = w7 at *
            have hst7 := HST.out.under hb7
            have hbx7 := HBX.out.below hb7 HBX.out.lt
            have hi7' := hi7.lower hw4
            have c0 := hbx7.cell 0
            have c1 := hbx7.cell 1
            have c2 := hbx7.cell 2
            simp only [List.getElem?_toArray, List.getElem?_cons_zero, List.getElem?_cons_succ] at c0 c1 c2
            have hg2e : g2 < ge := hg2l
            by_cases k2 : ek = 2
            · have q2 : (ek == 2) = true := by rw [beq_iff_eq]; exact k2
              obtain ⟨w8, r8, hg8, hmid⟩ := hst7.send2 hl200 hlt HGD.out (by rw [HE.out]; exact k2) hi7'
              rw [HE.out] at r8
              dsimp only at r8
              have hbx8 := hbx7.grown hg8 (by simp; omega)
              have d0 := hbx8.cell 0
              have d1 := hbx8.cell 1
              have d2 := hbx8.cell 2
              simp only [List.getElem?_toArray, List.getElem?_cons_zero, List.getElem?_cons_succ] at d0 d1 d2
              obtain ⟨hs8, hlb, _⟩ := hmid.last
              have e0 := (hlb.cell p).trans (hsA_get hp8)
              have e1 := hlb.frozen p
              have HPUT := Lib.hid (hmid.store (q := p) (by rw [HE.out]))
              clear hst7 hi7 hi7' hbx7 hg8 hbx8 hlb hmid k2 hb7
              go_upto_region 22 with fail
              generalize w8.setCell ⟨g1, p, none⟩ (.slice (some ⟨gu, ou, none⟩) 8 cu) = w9 at *
              clear e0 e1
              obtain ⟨os, o1, o2, o3⟩ := HPUT.out.out
              have hbase : g2 + 1 ≤ w9.heap.size := HPUT.out.low.2.2.2.2.2
              have HO := Lib.hid (And.intro o1 (And.intro o2 o3))
              clear o1 o3
              go_wp2_with (at_builtin; refine wpList_push_hd rfl (.tmp 69) (.tmp 71) rfl (g2 + 1) _ k os rfl (o2.alloc _) w9.heap.size (some ⟨gu, ou, none⟩) 8 cu rfl ((Box.new _ _ _).cell 0) (by omega) (by simp; omega) ?_; intro v' w10 hown' hg')
              have HNEXT := Lib.hid (HPUT.out.step _ HO.out hown' hg')
              clear hown' hg' o2
              go_roundg (l.length - (k + 1))
              case measure => have := HK.out; omega
              case rel => exact ⟨k + 1, rfl, by omega, by go_num, HNEXT.out⟩
            · have q2 : (ek == 2) = false := by rw [beq_eq_false_iff_ne]; exact k2
              have hmid := hst7.send1 (by rw [HE.out]; exact k2) hi7'
              obtain ⟨hs8, hlb, _⟩ := hmid.last
              have e0 := (hlb.cell p).trans (hsA_get hp8)
              have e1 := hlb.frozen p
              have HPUT := Lib.hid (hmid.store (q := p) (by rw [HE.out]))
              clear hst7 hi7 hi7' hbx7 hlb hmid k2 hb7
              go_upto_region 22 with fail
              generalize w7.setCell ⟨g1, p, none⟩ (.slice (some ⟨gu, ou, none⟩) 8 cu) = w9 at *
              clear e0 e1
              obtain ⟨os, o1, o2, o3⟩ := HPUT.out.out
              have hbase : g2 + 1 ≤ w9.heap.size := HPUT.out.low.2.2.2.2.2
              have HO := Lib.hid (And.intro o1 (And.intro o2 o3))
              clear o1 o3
              go_wp2_with (at_builtin; refine wpList_push_hd rfl (.tmp 69) (.tmp 71) rfl (g2 + 1) _ k os rfl (o2.alloc _) w9.heap.size (some ⟨gu, ou, none⟩) 8 cu rfl ((Box.new _ _ _).cell 0) (by omega) (by simp; omega) ?_; intro v' w10 hown' hg')
              have HNEXT := Lib.hid (HPUT.out.step _ HO.out hown' hg')
              clear hown' hg' o2
              go_roundg (l.length - (k + 1))
              case measure => have := HK.out; omega
              case rel => exact ⟨k + 1, rfl, by omega, by go_num, HNEXT.out⟩
        · obtain rfl : k = l.length := by omega
          obtain ⟨os, a1, a2, a3⟩ := hst.out
          have HO := Lib.hid (And.intro a1 (And.intro (own_lower a2 (show W.heap.size ≤ g2 + 1 by have := hst.low; omega)) (And.intro a3 hst.bel)))
          clear hst a1 a2 a3
          go_wp2_with fail
          go_ret2
          exact ⟨_, os, rfl, HO.out⟩
end Go.Proofs.Ytcmkkfpcdebfkaa
