/-
  Programs executed in an order (explore.Run).
-/
import Derived.Test.YtcmkkfpcdebfkaaEx4
import Derived.Outline
namespace Go.Proofs.Ytcmkkfpcdebfkaa
open Go.RowKit

theorem results_cell3 {P : Program} {fn : Func} {tmps : Array Value} {w : World} {a b c : Tmp} {t : TypeId} {p : Addr} {v u z : Value} (hf : fn.results = #[.cell a t, .tmp b, .tmp c]) (ha : tmps.getD a undef = .pointer (some p)) (hl : (loadVar t p).run P w = .ok v w) (hb : tmps.getD b undef = u) (hc : tmps.getD c undef = z) :
    (results fn tmps).run P w = .ok (.tuple #[v, u, z]) w := by
  have ha' : tmps[a]?.getD undef = .pointer (some p) := by simpa using ha
  have hb' : tmps[b]?.getD undef = u := by simpa using hb
  have hc' : tmps[c]?.getD undef = z := by simpa using hc
  simp [results, hf, ha', hb', hc', asAddr, hl]

theorem box_sets {g : Nat} {t : TypeId} : ∀ (vs : List Value) (o : Nat) (w : World) (cs : Array Value), Box w g t cs → o + vs.length ≤ cs.size →
    ∃ cs' : Array Value, Box (w.setCells g o vs) g t cs' ∧ cs'.size = cs.size ∧ (∀ j, j < o → cs'[j]? = cs[j]?) ∧ (∀ j, j < vs.length → cs'[o + j]? = vs[j]?)
  | [], o, w, cs, h, _ => ⟨cs, h, rfl, fun _ _ => rfl, fun j hj => absurd hj (by simp)⟩
  | v :: r, o, w, cs, h, hl => by
    simp only [List.length_cons] at hl
    obtain ⟨cs', h1, h2, h3, h4⟩ := box_sets r (o + 1) (w.setCell ⟨g, o, none⟩ v) (cs.setIfInBounds o v) (h.set o v) (by simp; omega)
    refine ⟨cs', h1, by rw [h2]; simp, fun j hj => ?_, fun j hj => ?_⟩
    · rw [h3 j (by omega), Array.getElem?_setIfInBounds]
      rw [if_neg (by omega)]
    · match j, hj with
      | 0, _ =>
        rw [Nat.add_zero, h3 o (by omega), Array.getElem?_setIfInBounds, if_pos rfl, if_pos (by omega)]
        rfl
      | j + 1, hj =>
        have := h4 j (by simpa using hj)
        rw [show o + (j + 1) = o + 1 + j by omega, this]
        rfl
theorem box_setAll {w : World} {g : Nat} {t : TypeId} {cs : Array Value} (h : Box w g t cs) (vs : List Value) (hl : vs.length = cs.size) : Box (w.setCells g 0 vs) g t vs.toArray := by
  obtain ⟨cs', h1, h2, _, h4⟩ := box_sets vs 0 w cs h (by omega)
  have e : cs' = vs.toArray := by
    apply Array.ext_getElem?
    intro j
    by_cases hj : j < vs.length
    · have := h4 j hj
      rw [Nat.zero_add] at this
      rw [this, List.getElem?_toArray]
    · rw [Array.getElem?_eq_none (by omega), List.getElem?_toArray, List.getElem?_eq_none (by omega)]
  rw [e] at h1
  exact h1
theorem box_setFar {g g' : Nat} {t : TypeId} {cs : Array Value} (hne : g' ≠ g) : ∀ (vs : List Value) (o : Nat) (w : World), Box w g' t cs → Box (w.setCells g o vs) g' t cs
  | [], _, _, h => h
  | v :: r, o, _, h => box_setFar hne r (o + 1) _ (h.far (p := ⟨g, o, none⟩) hne v)
theorem size_sets {g : Nat} : ∀ (vs : List Value) (o : Nat) (w : World), (w.setCells g o vs).heap.size = w.heap.size
  | [], _, _ => rfl
  | v :: r, o, w => (size_sets r (o + 1) (w.setCell ⟨g, o, none⟩ v)).trans (by simp [World.setCell])
/-- What Run returns. -/
def runT (l : List (List Do)) (o : List Int) : List Int × Int × Int :=
  if progBad l = 0 then (match runS l o zeroS 0 with | none => (zeroS, 0, 1) | some (s, n) => (s, (n : Int), 0)) else (zeroS, 0, progBad l)
theorem runT_bad {l : List (List Do)} (o : List Int) (h : progBad l ≠ 0) : runT l o = (zeroS, 0, progBad l) := by rw [runT, if_neg h]
theorem runT_none {l : List (List Do)} {o : List Int} (h : progBad l = 0) (hr : runS l o zeroS 0 = none) : runT l o = (zeroS, 0, 1) := by rw [runT, if_pos h, hr]
theorem runT_some {l : List (List Do)} {o : List Int} {s : List Int} {n : Nat} (h : progBad l = 0) (hr : runS l o zeroS 0 = some (s, n)) : runT l o = (s, (n : Int), 0) := by rw [runT, if_pos h, hr]
theorem progBad_zero {l : List (List Do)} (h : progBad l = 0) : l.length ≤ 4 ∧ rowBad l.flatten = 0 := by
  unfold progBad at h
  split at h
  · cases h
  · exact ⟨by omega, h⟩
def zerosV : List Value := ints zeroS

set_option maxRecDepth 100000 in
set_option maxHeartbeats 4000000 in
theorem runE_bad (A B : Option Addr) (c d : Nat) (l : List (List Do)) (o : List Int) (W : World) (h : PIn W A c l) (hp : progBad l ≠ 0) :
    Calls Try.prog 19 #[.slice A l.length c, .slice B o.length d] W fun e w' => e = .returned (.tuple #[.agg (ints zeroS).toArray, .int .i64 0, .int .i64 (progBad l)]) ∧ Below W.heap.size W w' := by
  have hbr := Box.new W 36 #[.int .i64 0, .int .i64 0, .int .i64 0, .int .i64 0, .int .i64 0, .int .i64 0, .int .i64 0, .int .i64 0, .int .i64 0, .int .i64 0, .int .i64 0, .int .i64 0]
  have hb0 := (Below.refl W.heap.size W).alloc (Nat.le_refl _) (.cells #[.int .i64 0, .int .i64 0, .int .i64 0, .int .i64 0, .int .i64 0, .int .i64 0, .int .i64 0, .int .i64 0, .int .i64 0, .int .i64 0, .int .i64 0, .int .i64 0] 36)
  have HC := Lib.hid (checkE A c l _ (h.below hb0))
  have HBR := Lib.hid hbr
  have HB0 := Lib.hid hb0
  obtain ⟨pb, hpb⟩ : ∃ pb, progBad l = pb := ⟨_, rfl⟩
  rw [hpb] at hp HC ⊢
  have q1 : (pb != 0) = true := by simpa using hp
  clear hbr hb0 h hpb hp
  go_enter Try.func19, Try.ntmps19
  go_wp2_with fail
  refine HC.out.mono ?_
  rintro e w1 ⟨rfl, hb1⟩
  have HBR1 := Lib.hid (HBR.out.below hb1 (by simp))
  have HTH := Lib.hid (there_st (s := zeroS) HBR1.out rfl rfl)
  have HSI2 := Lib.hid (info_st2 (s := zeroS) rfl)
  have HONE := Lib.hid (ints_one zeroS)
  have hrd := read_st (s := zeroS) HBR1.out rfl rfl
  have HB1 := Lib.hid (Below.setCells (g := W.heap.size) (Nat.le_refl _) (ints zeroS) 0 w1 (HB0.out.trans (hb1.mono (by simp))))
  clear hb1
  go_wp2_with (guard_target =~ wpList _ _ _ ({ dst := none, op := _, type := _, pos := _, after := _, guard := _ } :: _) _ _; refine wpList_store_mid rfl 36 (.tmp 4) (.tmp 17) rfl W.heap.size 0 (ints zeroS).toArray rfl rfl HTH.out HSI2.out HONE.out ?_)
  refine bodyPost_ret (v := .tuple #[.agg (ints zeroS).toArray, .int .i64 0, .int .i64 pb]) (results_cell3 Try.results19 rfl hrd rfl rfl) rfl ?_
  exact ⟨rfl, HB1.out⟩
theorem runS_drop {l : List (List Do)} {o : List Int} {s : List Int} {k : Nat} (hk : k < o.length) : runS l (o.drop k) s k =
    if o.getD k 0 < 0 ∨ (l.length : Int) ≤ o.getD k 0 then none
    else if (nextS (l.getD (o.getD k 0).toNat []) (o.getD k 0).toNat s (s.getD (8 + (o.getD k 0).toNat) 0).toNat).2 = true then runS l (o.drop (k + 1)) (nextS (l.getD (o.getD k 0).toNat []) (o.getD k 0).toNat s (s.getD (8 + (o.getD k 0).toNat) 0).toNat).1 (k + 1)
    else some (s, k) := by
  rw [drop_getD o 0 hk]
  rfl
/-- What a good run hands back. -/
def RunPost (l : List (List Do)) (o : List Int) (w : World) (e : Ending) (w' : World) : Prop :=
  e = .returned (.tuple #[.agg (ints (runT l o).1).toArray, .int .i64 (runT l o).2.1, .int .i64 (runT l o).2.2]) ∧ Below w.heap.size w w'
theorem RunPost.of_none {l : List (List Do)} {o : List Int} {w w' : World} (h : progBad l = 0) (hr : runS l o zeroS 0 = none) (hb : Below w.heap.size w w') : RunPost l o w (.returned (.tuple #[.agg (ints zeroS).toArray, .int .i64 0, .int .i64 1])) w' := by
  unfold RunPost
  rw [runT_none h hr]
  exact ⟨rfl, hb⟩
theorem RunPost.of_some {l : List (List Do)} {o : List Int} {s : List Int} {n : Nat} {w w' : World} (h : progBad l = 0) (hr : runS l o zeroS 0 = some (s, n)) (hb : Below w.heap.size w w') : RunPost l o w (.returned (.tuple #[.agg (ints s).toArray, .int .i64 n, .int .i64 0])) w' := by
  unfold RunPost
  rw [runT_some h hr]
  exact ⟨rfl, hb⟩

set_option maxRecDepth 100000 in
set_option maxHeartbeats 4000000 in
theorem runE_ok (A B : Option Addr) (c d : Nat) (l : List (List Do)) (o : List Int) (W : World) (h : PIn W A c l) (hr : Row W W.heap.size B (ints o)) (hm : o.length ≤ maxLen) (hp : progBad l = 0) :
    Calls Try.prog 19 #[.slice A l.length c, .slice B o.length d] W (RunPost l o W) := by
  have hb0 := (Below.refl W.heap.size W).alloc (Nat.le_refl _) (.cells #[.int .i64 0, .int .i64 0, .int .i64 0, .int .i64 0, .int .i64 0, .int .i64 0, .int .i64 0, .int .i64 0, .int .i64 0, .int .i64 0, .int .i64 0, .int .i64 0] 36)
  have HC := Lib.hid (checkE A c l _ (h.below hb0))
  have HBR := Lib.hid (Box.new W 36 #[.int .i64 0, .int .i64 0, .int .i64 0, .int .i64 0, .int .i64 0, .int .i64 0, .int .i64 0, .int .i64 0, .int .i64 0, .int .i64 0, .int .i64 0, .int .i64 0])
  have HB0 := Lib.hid hb0
  have HP := Lib.hid h
  have HR := Lib.hid hr
  obtain ⟨hl4, hrb⟩ := progBad_zero hp
  rw [hp] at HC
  have HPB := Lib.hid hp
  have HRB := Lib.hid hrb
  unfold maxLen at hm
  clear hb0 h hr hp hrb
  go_enter Try.func19, Try.ntmps19
  go_wp2_with fail
  refine HC.out.mono ?_
  rintro e w1 ⟨rfl, hb1⟩
  have HBR1 := Lib.hid ((HBR.out.below hb1 (by simp)).alloc (.cells #[.int .i64 0, .int .i64 0, .int .i64 0, .int .i64 0, .int .i64 0, .int .i64 0, .int .i64 0, .int .i64 0, .int .i64 0, .int .i64 0, .int .i64 0, .int .i64 0] 36))
  have HBS1 := Lib.hid (Box.new w1 36 (ints zeroS).toArray)
  have HB1 := Lib.hid ((HB0.out.trans (hb1.mono (by simp))).alloc (by have := hb1.size; simp at this; omega) (.cells #[.int .i64 0, .int .i64 0, .int .i64 0, .int .i64 0, .int .i64 0, .int .i64 0, .int .i64 0, .int .i64 0, .int .i64 0, .int .i64 0, .int .i64 0, .int .i64 0] 36))
  have hgs : W.heap.size < w1.heap.size := by have := hb1.size; simp at this; omega
  clear hb1 HC HBR HB0
  go_wp2_with fail
  go_loopg [21] o.length (fun gk i wr => ∃ (k : Nat) (s : List Int), gk = o.length - k ∧ k ≤ o.length ∧ i = .int .i64 k ∧ Box wr w1.heap.size 36 (ints s).toArray ∧ Box wr W.heap.size 36 #[.int .i64 0, .int .i64 0, .int .i64 0, .int .i64 0, .int .i64 0, .int .i64 0, .int .i64 0, .int .i64 0, .int .i64 0, .int .i64 0, .int .i64 0, .int .i64 0] ∧ GoodS l s ∧ runS l o zeroS 0 = runS l (o.drop k) s k ∧ Below W.heap.size W wr)
  case atStart => exact ⟨0, zeroS, by omega, by omega, rfl, HBS1.out, HBR1.out, GoodS.zero hl4, rfl, HB1.out⟩
  case round =>
    clear HBR1 HBS1 HB1
    obtain ⟨k, s, hgk, hk, rfl, hbs, hbr, hgood, hrun, hb⟩ := hrel
    have HK := Lib.hid hgk
    have HBS := Lib.hid hbs
    have HBR := Lib.hid hbr
    have HG := Lib.hid hgood
    have HRUN := Lib.hid hrun
    have HB := Lib.hid hb
    have hs : s.length = 12 := hgood.len
    have hws := hb.size
    clear hgk hbr hgood hrun
    by_cases hlt : k < o.length
    · obtain ⟨b, oo, rfl, hbl, hcx⟩ := (HR.out.below hb).int hlt
      have HD := Lib.hid (runS_drop (l := l) (s := s) hlt)
      obtain ⟨x, hx⟩ : ∃ x, o.getD k 0 = x := ⟨_, rfl⟩
      rw [hx] at hcx HD
      clear hx
      by_cases hbad : x < 0 ∨ (l.length : Int) ≤ x
      · have HN := Lib.hid (show runS l o zeroS 0 = none by rw [HRUN.out, HD.out, if_pos hbad])
        have HTH := Lib.hid (there_st (s := zeroS) HBR.out rfl rfl)
        have HSI2 := Lib.hid (info_st2 (s := zeroS) rfl)
        have HONE := Lib.hid (ints_one zeroS)
        have hrd := read_st (s := zeroS) HBR.out rfl rfl
        have HB1 := Lib.hid (Below.setCells (g := W.heap.size) (Nat.le_refl _) (ints zeroS) 0 wr HB.out)
        clear hb hbs
        by_cases h0 : x < 0
        · have d0 : decide (x < 0) = true := decide_eq_true h0
          clear hbad h0
          go_wp2_with (guard_target =~ wpList _ _ _ ({ dst := none, op := _, type := _, pos := _, after := _, guard := _ } :: _) _ _; refine wpList_store_mid rfl 36 (.tmp 4) (.tmp 34) rfl W.heap.size 0 (ints zeroS).toArray rfl rfl HTH.out HSI2.out HONE.out ?_)
          refine bodyPost_ret (v := .tuple #[.agg (ints zeroS).toArray, .int .i64 0, .int .i64 1]) (results_cell3 Try.results19 rfl hrd rfl rfl) rfl ?_
          exact RunPost.of_none HPB.out HN.out HB1.out
        · have d0 : decide (x < 0) = false := decide_eq_false h0
          have d1 : decide ((l.length : Int) ≤ x) = true := decide_eq_true (by omega)
          clear hbad h0
          go_wp2_with (guard_target =~ wpList _ _ _ ({ dst := none, op := _, type := _, pos := _, after := _, guard := _ } :: _) _ _; refine wpList_store_mid rfl 36 (.tmp 4) (.tmp 34) rfl W.heap.size 0 (ints zeroS).toArray rfl rfl HTH.out HSI2.out HONE.out ?_)
          refine bodyPost_ret (v := .tuple #[.agg (ints zeroS).toArray, .int .i64 0, .int .i64 1]) (results_cell3 Try.results19 rfl hrd rfl rfl) rfl ?_
          exact RunPost.of_none HPB.out HN.out HB1.out
      · obtain ⟨who, rfl⟩ : ∃ n : Nat, x = n := ⟨x.toNat, by omega⟩
        have hwl : who < l.length := by omega
        have d0 : decide ((who : Int) < 0) = false := decide_eq_false (by omega)
        have d1 : decide ((l.length : Int) ≤ (who : Int)) = false := decide_eq_false (by omega)
        have d2 : decide (l.length ≤ who) = false := decide_eq_false (by omega)
        obtain ⟨a, hae, hal⟩ := HG.out.at' who hwl
        have HN1 := Lib.hid (show runS l o zeroS 0 = if (nextS (l.getD who []) who s a).2 = true then runS l (o.drop (k + 1)) (nextS (l.getD who []) who s a).1 (k + 1) else some (s, k) by
          rw [HRUN.out, HD.out, if_neg hbad]
          simp only [Int.toNat_natCast, hae])
        have HGN := Lib.hid (HG.out.next HRB.out hl4 hwl hae)
        have HNX := Lib.hid (nextE (some ⟨b, oo, none⟩) c who a l s wr)
        have HNE := Lib.hid (nextE A c who a l s wr (HP.out.below hb) hwl hl4 hs hae hal (rowBad_row HRB.out hwl))
        clear hb hbad HNX HD
        have HRNG := Lib.hid (range_st HBS.out)
        have HSI := Lib.hid (info_st hs)
        generalize hnx : nextS (l.getD who []) who s a = q at *
        obtain ⟨s', ok⟩ := q
        dsimp only at HN1 HGN HNE
        clear hnx hae hal
        have hs' : s'.length = 12 := HGN.out.len
        have hg1 : w1.heap.size < wr.heap.size := HBS.out.lt
        go_wp2_with (guard_target =~ wpList _ _ _ ({ dst := some 37, op := _, type := _, pos := _, after := _, guard := _ } :: _) _ _; refine wpList_load_mid rfl 36 (.tmp 8) rfl w1.heap.size 0 rfl (ints s) _ HRNG.out Try.underlying36 rfl HSI.out ?_)
        refine HNE.out.mono ?_
        rintro e w2 ⟨rfl, hb2⟩
        have hs2 := hb2.size
        have hbx := Box.new w2 36 #[.int .i64 0, .int .i64 0, .int .i64 0, .int .i64 0, .int .i64 0, .int .i64 0, .int .i64 0, .int .i64 0, .int .i64 0, .int .i64 0, .int .i64 0, .int .i64 0]
        have HTH := Lib.hid (there_st (s := s') hbx rfl hs')
        have HSI2 := Lib.hid (info_st2 hs')
        have HONE := Lib.hid (ints_one s')
        have HBN := Lib.hid (box_setAll hbx (ints s') (by simp [ints, hs']))
        have HBS2 := Lib.hid (box_setFar (g := w2.heap.size) (by omega) (ints s') 0 _ ((HBS.out.below hb2 hg1).alloc (.cells #[.int .i64 0, .int .i64 0, .int .i64 0, .int .i64 0, .int .i64 0, .int .i64 0, .int .i64 0, .int .i64 0, .int .i64 0, .int .i64 0, .int .i64 0, .int .i64 0] 36)))
        have HBR2 := Lib.hid (box_setFar (g := w2.heap.size) (by omega) (ints s') 0 _ ((HBR.out.below hb2 (by omega)).alloc (.cells #[.int .i64 0, .int .i64 0, .int .i64 0, .int .i64 0, .int .i64 0, .int .i64 0, .int .i64 0, .int .i64 0, .int .i64 0, .int .i64 0, .int .i64 0, .int .i64 0] 36)))
        have HB2 := Lib.hid (Below.setCells (g := w2.heap.size) (by omega) (ints s') 0 _ ((HB.out.trans (hb2.mono hws)).alloc (by omega) (.cells #[.int .i64 0, .int .i64 0, .int .i64 0, .int .i64 0, .int .i64 0, .int .i64 0, .int .i64 0, .int .i64 0, .int .i64 0, .int .i64 0, .int .i64 0, .int .i64 0] 36)))
        clear hbx hb2 HBS HBR HB HNE HRNG
        go_upto_region 11 with (guard_target =~ wpList _ _ _ ({ dst := none, op := _, type := _, pos := _, after := _, guard := _ } :: _) _ _; refine wpList_store_mid rfl 36 (.tmp 11) (.tmp 40) rfl w2.heap.size 0 (ints s').toArray rfl rfl HTH.out HSI2.out HONE.out ?_)
        clear HTH
        generalize (w2.alloc (.cells #[.int .i64 0, .int .i64 0, .int .i64 0, .int .i64 0, .int .i64 0, .int .i64 0, .int .i64 0, .int .i64 0, .int .i64 0, .int .i64 0, .int .i64 0, .int .i64 0] 36)).setCells w2.heap.size 0 (ints s') = w3 at *
        cases ok with
        | false =>
          have HN := Lib.hid (show runS l o zeroS 0 = some (s, k) by rw [HN1.out, if_neg (by decide)])
          have HRG := Lib.hid (range_st HBS2.out)
          have HTH := Lib.hid (there_st (s := s) HBR2.out rfl hs)
          have HSI3 := Lib.hid (info_st2 hs)
          have HON3 := Lib.hid (ints_one s)
          have hrd := read_st (s := s) HBR2.out rfl hs
          have HB3 := Lib.hid (Below.setCells (g := W.heap.size) (Nat.le_refl _) (ints s) 0 w3 HB2.out)
          generalize hS : ints s = S at *
          have HSE := Lib.hid hS
          clear hS
          go_wp2_with (first | (guard_target =~ wpList _ _ _ ({ dst := some 44, op := _, type := _, pos := _, after := _, guard := _ } :: _) _ _; refine wpList_load_mid rfl 36 (.tmp 8) rfl w1.heap.size 0 rfl S _ HRG.out Try.underlying36 rfl HSI.out ?_) | (guard_target =~ wpList _ _ _ ({ dst := none, op := _, type := _, pos := _, after := _, guard := _ } :: _) _ _; refine wpList_store_mid rfl 36 (.tmp 4) (.tmp 44) rfl W.heap.size 0 S.toArray rfl rfl HTH.out HSI3.out HON3.out ?_))
          refine bodyPost_ret (v := .tuple #[.agg S.toArray, .int .i64 k, .int .i64 0]) (results_cell3 Try.results19 rfl hrd rfl rfl) rfl ?_
          rw [← HSE.out]
          exact RunPost.of_some HPB.out HN.out (by rw [HSE.out]; exact HB3.out)
        | true =>
          have HN := Lib.hid (show runS l o zeroS 0 = runS l (o.drop (k + 1)) s' (k + 1) by rw [HN1.out, if_pos rfl])
          have HRG := Lib.hid (range_st HBN.out)
          have HSI1 := Lib.hid (info_st hs')
          have HTH := Lib.hid (there_st (s := s') HBS2.out (by simp [ints, hs]) hs')
          have HB3 := Lib.hid (Below.setCells (g := w1.heap.size) (by omega) (ints s') 0 w3 HB2.out)
          have HBS3 := Lib.hid (box_setAll HBS2.out (ints s') (by simp [ints, hs, hs']))
          have HBR3 := Lib.hid (box_setFar (g := w1.heap.size) (by omega) (ints s') 0 _ HBR2.out)
          generalize hS : ints s' = S at *
          have HSE := Lib.hid hS
          clear hS
          go_wp2_with (first | (guard_target =~ wpList _ _ _ ({ dst := some 46, op := _, type := _, pos := _, after := _, guard := _ } :: _) _ _; refine wpList_load_mid rfl 36 (.tmp 11) rfl w2.heap.size 0 rfl S _ HRG.out Try.underlying36 rfl HSI1.out ?_) | (guard_target =~ wpList _ _ _ ({ dst := none, op := _, type := _, pos := _, after := _, guard := _ } :: _) _ _; refine wpList_store_mid rfl 36 (.tmp 8) (.tmp 46) rfl w1.heap.size 0 S.toArray rfl rfl HTH.out HSI2.out HONE.out ?_))
          go_roundg (o.length - (k + 1))
          case measure => have := HK.out; omega
          case rel => exact ⟨k + 1, s', rfl, by omega, by go_num, by rw [HSE.out]; exact HBS3.out, HBR3.out, HGN.out, HN.out, HB3.out⟩
    · obtain rfl : k = o.length := by omega
      have HN := Lib.hid (show runS l o zeroS 0 = some (s, o.length) by rw [HRUN.out, List.drop_length]; rfl)
      have HRG := Lib.hid (range_st HBS.out)
      have HSI := Lib.hid (info_st hs)
      have HTH := Lib.hid (there_st (s := s) HBR.out rfl hs)
      have HSI3 := Lib.hid (info_st2 hs)
      have HON3 := Lib.hid (ints_one s)
      have hrd := read_st (s := s) HBR.out rfl hs
      have HB3 := Lib.hid (Below.setCells (g := W.heap.size) (Nat.le_refl _) (ints s) 0 wr HB.out)
      clear hb hbs
      generalize hS : ints s = S at *
      have HSE := Lib.hid hS
      clear hS
      go_wp2_with (first | (guard_target =~ wpList _ _ _ ({ dst := some 48, op := _, type := _, pos := _, after := _, guard := _ } :: _) _ _; refine wpList_load_mid rfl 36 (.tmp 8) rfl w1.heap.size 0 rfl S _ HRG.out Try.underlying36 rfl HSI.out ?_) | (guard_target =~ wpList _ _ _ ({ dst := none, op := _, type := _, pos := _, after := _, guard := _ } :: _) _ _; refine wpList_store_mid rfl 36 (.tmp 4) (.tmp 48) rfl W.heap.size 0 S.toArray rfl rfl HTH.out HSI3.out HON3.out ?_))
      refine bodyPost_ret (v := .tuple #[.agg S.toArray, .int .i64 o.length, .int .i64 0]) (results_cell3 Try.results19 rfl hrd rfl rfl) rfl ?_
      rw [← HSE.out]
      exact RunPost.of_some HPB.out HN.out (by rw [HSE.out]; exact HB3.out)

theorem runE (A B : Option Addr) (c d : Nat) (l : List (List Do)) (o : List Int) (W : World) (h : PIn W A c l) (hr : Row W W.heap.size B (ints o)) (hm : o.length ≤ maxLen) :
    Calls Try.prog 19 #[.slice A l.length c, .slice B o.length d] W (RunPost l o W) := by
  by_cases hp : progBad l = 0
  · exact runE_ok A B c d l o W h hr hm hp
  · refine (runE_bad A B c d l o W h hp).mono ?_
    rintro e w' ⟨rfl, hb⟩
    unfold RunPost
    rw [runT_bad o hp]
    exact ⟨rfl, hb⟩
end Go.Proofs.Ytcmkkfpcdebfkaa
