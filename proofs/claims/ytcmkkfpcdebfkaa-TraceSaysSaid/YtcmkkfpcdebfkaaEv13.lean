/-
  ClockSays: the walk.
-/
import Derived.Test.YtcmkkfpcdebfkaaEv12
import Derived.Test.YtcmkkfpcdebfkaaEv2
import Derived.Test.YtcmkkfpcdebfkaaEv4
import Derived.Test.YtcmkkfpcdebfkaaEqual
import Derived.Deep.RegionHeld3
namespace Go.Proofs.Ytcmkkfpcdebfkaa
open Go.RowKit Go.Maps

def two2 : List Ev := [(0, 2, 5), (1, 3, 5)]
theorem two2_hist : history two2 = 0 := by decide
open Classical in
theorem two2_bef : befB two2 1 0 = true := by
  unfold befB
  exact decide_eq_true (.one (by decide) (by decide))
theorem row_of_cells {w : World} {g : Nat} {t : TypeId} {cs : Array Value} (h : Box w g t cs) : Row w w.heap.size (some ⟨g, 0, none⟩) cs.toList := fun _ =>
  ⟨g, 0, rfl, h.lt, fun i v hv => by rw [Nat.zero_add, h.cell]; simpa using hv⟩
theorem two2_wf : ∀ x ∈ two2, I64 x.2.2 := by
  intro x hx
  simp only [two2, List.mem_cons, List.not_mem_nil, or_false] at hx
  rcases hx with rfl | rfl <;> (unfold I64; decide)
set_option maxHeartbeats 400000 in
theorem two_any (W : World) : Calls Try.prog 16 #[] W fun e w' => ∃ g, e = .returned (.slice (some ⟨g, 0, none⟩) 2 2) ∧ EvIn w' (some ⟨g, 0, none⟩) 2 two2 ∧ Below W.heap.size W w' := by
  go_enter Try.func16, Try.ntmps16
  go_wp2_with fail
  go_ret
  exact ⟨_, rfl, ⟨row_of_cells (Box.new W 146 ⟨flat evC two2⟩), by decide, by decide, two2_wf⟩, (Below.refl _ _).alloc (Nat.le_refl _) _⟩

theorem equalV {l : List Ev} {S : Nat → Prop} {n : Nat} {A A' : Option Addr} {c c' B B' : Nat} {w : World} (ra : Row w B A (ints (vec l S n))) (rb : Row w B' A' (ints (vec l S n))) :
    Calls Try.prog 36 #[.slice A 8 c, .slice A' 8 c'] w fun e w' => e = .returned (.bool true) ∧ ∃ m, w' = w.drewN m := by
  have h := equal_any A A' c c' _ _ B B' w ra rb (by rw [vec_len]; decide) (by rw [vec_len]; decide)
  rw [vec_len, decide_eq_true rfl] at h
  exact h
theorem numbers_in (A : Option Addr) (c : Nat) (l : List Ev) (W : World) (h : EvIn W A c l) (h0 : history l = 0) :
    Calls Try.prog 72 #[.slice A l.length c] W fun e w' => ∃ A' c', e = .returned (.tuple #[.slice A' l.length c', .int .i64 0]) ∧ Row w' w'.heap.size A' (ints (nv l.length (num l))) ∧ Below W.heap.size W w' := by
  refine (numbers_ok A c l W h h0).mono ?_
  rintro e w' ⟨v, rfl, ho, hb⟩
  obtain ⟨A', c', rfl, hr, _⟩ := row_of_own_int ho
  exact ⟨A', c', by rw [nv_len], hr, hb⟩
/-- What Ahead answers. -/
structure AhIs (l : List Ev) (i k : Int) (ah : Bool) (er : Int) : Prop where
  yes : ∀ (x y : Nat), i = x → k = y → x < l.length → y < l.length → ah = befB l y x ∧ er = 0
  no : ((i < 0 ∨ k < 0) ∨ ((l.length : Int) ≤ i ∨ (l.length : Int) ≤ k)) → ah = false ∧ er = 1
theorem ahead_any (A : Option Addr) (c : Nat) (l : List Ev) (i k : Int) (h0 : history l = 0) : ∃ ah er, AhIs l i k ah er ∧ ∀ W, EvIn W A c l →
    Calls Try.prog 70 #[.slice A l.length c, .int .i64 i, .int .i64 k] W fun e w' => e = .returned (.tuple #[.bool ah, .int .i64 er]) ∧ Below W.heap.size W w' := by
  by_cases hout : (i < 0 ∨ k < 0) ∨ ((l.length : Int) ≤ i ∨ (l.length : Int) ≤ k)
  · exact ⟨false, 1, ⟨fun x y hx hy h1 h2 => by omega, fun _ => ⟨rfl, rfl⟩⟩, fun W h => ahead_out A c l i k W h h0 hout⟩
  · obtain ⟨x, rfl⟩ : ∃ x : Nat, i = x := ⟨i.toNat, by omega⟩
    obtain ⟨y, rfl⟩ : ∃ y : Nat, k = y := ⟨k.toNat, by omega⟩
    refine ⟨befB l y x, 0, ⟨fun x' y' hx hy h1 h2 => ?_, fun h => absurd h hout⟩, fun W h => ahead_ok A c l x y W h h0 (by omega) (by omega)⟩
    obtain rfl : x' = x := by omega
    obtain rfl : y' = y := by omega
    exact ⟨rfl, rfl⟩

set_option maxRecDepth 100000 in
set_option maxHeartbeats 4000000 in
theorem clockSays_walk (A : Option Addr) (c : Nat) (l : List Ev) (i k : Int) (W : World) (h : EvIn W A c l) :
    Calls Try.prog 8 #[.slice A l.length c, .int .i64 i, .int .i64 k] W fun e w' => e = .returned (.bool true) ∧ Below W.heap.size W w' := by
  have HEV := Lib.hid h
  clear h
  go_enter Try.func8, Try.ntmps8
  go_wp2_with fail
  refine (two_any _).mono ?_
  rintro e w1 ⟨g1, rfl, hev1, hb1⟩
  have HT := Lib.hid (ahead_ok _ _ two2 0 1 w1 hev1 two2_hist (by decide) (by decide))
  have HB1 := Lib.hid hb1
  clear hev1 hb1
  go_wp2_with fail
  refine HT.out.mono ?_
  rintro e w2 ⟨rfl, hb2⟩
  have HB2 := Lib.hid (HB1.out.trans (hb2.mono HB1.out.size))
  clear hb2 HT HB1
  rw [two2_bef]
  by_cases h0 : history l = 0
  case neg =>
    have q1 : (history l != 0) = true := by rw [bne_iff_ne]; exact h0
    have q2 : (history l == history l) = true := by simp
    have q3 : (history l != history l) = false := by simp
    have HC1 := Lib.hid (fun w (hw : Below W.heap.size W w) => clocks_bad A c l w ((HEV.out).below hw) h0)
    have HC2 := Lib.hid (fun w (hw : Below W.heap.size W w) => numbers_bad A c l w ((HEV.out).below hw) h0)
    have HC3 := Lib.hid (fun w (hw : Below W.heap.size W w) => ahead_bad A c l i k w ((HEV.out).below hw) h0)
    have HC4 := Lib.hid (fun w (hw : Below W.heap.size W w) => apart_bad A c l w ((HEV.out).below hw) h0)
    have HC5 := Lib.hid (fun w (hw : Below W.heap.size W w) => historyE_any A c l w ((HEV.out).below hw).row HEV.out.le HEV.out.cap)
    have HC6 := Lib.hid (fun w (hw : Below W.heap.size W w) => ((HEV.out).below hw).check)
    generalize history l = e0 at *
    clear h0
    go_wp2_with fail
    refine (HC1.out _ HB2.out).mono ?_
    rintro e w3 ⟨rfl, hb3⟩
    have HB3 := Lib.hid (HB2.out.trans (hb3.mono HB2.out.size))
    clear hb3
    go_wp2_with fail
    refine (HC2.out _ HB3.out).mono ?_
    rintro e w4 ⟨rfl, hb4⟩
    have HB4 := Lib.hid (HB3.out.trans (hb4.mono HB3.out.size))
    clear hb4
    go_wp2_with fail
    refine (HC3.out _ HB4.out).mono ?_
    rintro e w5 ⟨rfl, hb5⟩
    have HB5 := Lib.hid (HB4.out.trans (hb5.mono HB4.out.size))
    clear hb5
    go_wp2_with fail
    refine (HC4.out _ HB5.out).mono ?_
    rintro e w6 ⟨rfl, hb6⟩
    have HB6 := Lib.hid (HB5.out.trans (hb6.mono HB5.out.size))
    clear hb6
    go_wp2_with fail
    refine (HC5.out _ HB6.out).mono ?_
    rintro e w7 ⟨rfl, hb7⟩
    have HB7 := Lib.hid (HB6.out.trans (hb7.mono HB6.out.size))
    clear hb7
    go_wp2_with fail
    refine (HC6.out _ HB7.out).mono ?_
    rintro e w8 ⟨rfl, hb8⟩
    have HB8 := Lib.hid (HB7.out.trans (hb8.mono HB7.out.size))
    clear hb8
    go_wp2_with fail
    go_ret
    exact ⟨rfl, HB8.out⟩
  have hl200 := (hist_good h0).1
  have HPL := Lib.hid (fun j hj => ((hist_good h0).2 j hj).place)
  obtain ⟨ah, er, hah, hahc⟩ := ahead_any A c l i k h0
  have HAH := Lib.hid hah
  have HC1 := Lib.hid (fun w (hw : Below W.heap.size W w) => clocks_in A c l w ((HEV.out).below hw) h0)
  have HC2 := Lib.hid (fun w (hw : Below W.heap.size W w) => numbers_in A c l w ((HEV.out).below hw) h0)
  have HC3 := Lib.hid (fun w (hw : Below W.heap.size W w) => hahc w ((HEV.out).below hw))
  have HC4 := Lib.hid (fun w (hw : Below W.heap.size W w) => apart_ok A c l w ((HEV.out).below hw) h0)
  have hc5 := fun w (hw : Below W.heap.size W w) => historyE_any A c l w ((HEV.out).below hw).row HEV.out.le HEV.out.cap
  have hc6 := fun w (hw : Below W.heap.size W w) => ((HEV.out).below hw).check
  rw [h0] at hc5 hc6
  have HC5 := Lib.hid hc5
  have HC6 := Lib.hid hc6
  have HC7 := Lib.hid (fun w (hw : Below W.heap.size W w) => past_any A c l w ((HEV.out).below hw).row hl200)
  have hap := apAll_le l l.length hl200
  clear hah hahc hc5 hc6 h0
  go_wp2_with fail
  refine (HC1.out _ HB2.out).mono ?_
  rintro e w3 ⟨A1, c1, rfl, hck, hb3⟩
  have HCK := Lib.hid hck
  have HB3 := Lib.hid (HB2.out.trans (hb3.mono HB2.out.size))
  clear hb3 hck
  go_wp2_with fail
  refine (HC2.out _ HB3.out).mono ?_
  rintro e w4 ⟨A2, c2, rfl, hnr, hb4⟩
  have HNR := Lib.hid hnr
  have HCK4 := Lib.hid ((HCK.out.below hb4).more hb4.size)
  have HB4 := Lib.hid (HB3.out.trans (hb4.mono HB3.out.size))
  clear hb4 hnr HCK
  go_wp2_with fail
  refine (HC3.out _ HB4.out).mono ?_
  rintro e w5 ⟨rfl, hb5⟩
  have HNR5 := Lib.hid ((HNR.out.below hb5).more hb5.size)
  have HCK5 := Lib.hid ((HCK4.out.below hb5).more hb5.size)
  have HB5 := Lib.hid (HB4.out.trans (hb5.mono HB4.out.size))
  clear hb5 HNR HCK4
  go_wp2_with fail
  refine (HC4.out _ HB5.out).mono ?_
  rintro e w6 ⟨rfl, hb6⟩
  have HNR6 := Lib.hid ((HNR5.out.below hb6).more hb6.size)
  have HCK6 := Lib.hid ((HCK5.out.below hb6).more hb6.size)
  have HB6 := Lib.hid (HB5.out.trans (hb6.mono HB5.out.size))
  clear hb6 HNR5 HCK5
  go_wp2_with fail
  refine (HC5.out _ HB6.out).mono ?_
  rintro e w7 ⟨rfl, hb7⟩
  have HNR7 := Lib.hid ((HNR6.out.below hb7).more hb7.size)
  have HCK7 := Lib.hid ((HCK6.out.below hb7).more hb7.size)
  have HB7 := Lib.hid (HB6.out.trans (hb7.mono HB6.out.size))
  clear hb7 HNR6 HCK6
  go_wp2_with fail
  refine (HC6.out _ HB7.out).mono ?_
  rintro e w8 ⟨rfl, hb8⟩
  have HNR8 := Lib.hid ((HNR7.out.below hb8).more hb8.size)
  have HCK8 := Lib.hid ((HCK7.out.below hb8).more hb8.size)
  have HB8 := Lib.hid (HB7.out.trans (hb8.mono HB7.out.size))
  clear hb8 HNR7 HCK7
  go_wp2_with fail
  refine (HC7.out _ HB8.out).mono ?_
  rintro e w9 ⟨gp, rfl, hpm, hb9⟩
  have HPM := Lib.hid hpm
  have HNR9 := Lib.hid ((HNR8.out.below hb9).more hb9.size)
  have HCK9 := Lib.hid ((HCK8.out.below hb9).more hb9.size)
  have HB9 := Lib.hid (HB8.out.trans (hb9.mono HB8.out.size))
  clear hb9 hpm HNR8 HCK8 HC1 HC2 HC3 HC4 HC5 HC6 HC7 HB2 HB3 HB4 HB5 HB6 HB7 HB8
  go_wp2_with fail
  go_loopg [19, 127] l.length (fun gk v p wr => ∃ x : Nat, gk = l.length - x ∧ x ≤ l.length ∧ p = .int .i64 x ∧ v = .int .i64 (apAll l x : Int) ∧ Below w9.heap.size w9 wr)
  case atStart => exact ⟨0, by omega, by omega, rfl, rfl, Below.refl _ _⟩
  case round =>
    obtain ⟨x, hgk, hx, rfl, rfl, hb⟩ := hrel
    have HK := Lib.hid hgk
    have hax := apAll_le l x (by omega)
    clear hgk
    by_cases hlt : x < l.length
    · obtain ⟨b, o, A3, c3, rfl, hbl, hc1, hr3⟩ := (HCK9.out.below hb) x hlt
      obtain ⟨gp', hgp', hgpl, hrow⟩ := HPM.out.below hb
      obtain rfl : gp' = gp := by simp at hgp'; exact hgp'.symm
      obtain ⟨gr, hgrl, hc2, hcr⟩ := hrow x hlt
      obtain ⟨b2, o2, rfl, hb2l, hc3⟩ := (HNR9.out.below hb).int (i := x) (by rw [nv_len]; exact hlt)
      rw [nv_getD hlt] at hc3
      have hnm := num_le (l := l) x
      have hsz := hb.size
      have HB := Lib.hid hb
      have HSK := Lib.hid (show ∀ w', Below wr.heap.size wr w' → Below wr.heap.size wr w' ∧ w'.cell? ⟨b, o + x, none⟩ = some (.slice A3 8 c3) ∧ w'.cell? ⟨gp', x, none⟩ = some (.slice (some ⟨gr, 0, none⟩) l.length l.length) ∧ w'.cell? ⟨b2, o2 + x, none⟩ = some (.int .i64 (num l x : Int)) from
        fun w' h => ⟨h, (h.cell (p := ⟨b, o + x, none⟩) (by simp; omega)).trans hc1, (h.cell (p := ⟨gp', x, none⟩) (by simp; omega)).trans hc2, (h.cell (p := ⟨b2, o2 + x, none⟩) (by simp; omega)).trans hc3⟩)
      have HR3 := Lib.hid (fun w' (h : Below wr.heap.size wr w') => (hr3.more hsz).below h)
      have HCL := Lib.hid (fun w' (h : Below wr.heap.size wr w') => clockR_any A c gr x l w' (HEV.out.below (HB9.out.trans ((hb.trans (h.mono hsz)).mono HB9.out.size))).row hl200 HPL.out (by have := h.size; omega) (fun j hj => (h.cell (p := ⟨gr, j, none⟩) (by simp; omega)).trans (hcr j hj)))
      have HNM := Lib.hid (fun w' (h : Below wr.heap.size wr w') => numberR_any gp' x l w' hl200 hlt ((HPM.out.below (hb.trans (h.mono hsz))).more (by have := h.size; omega)))
      have HCR := Lib.hid hcr
      clear hcr hrow hgp' hr3 hb
      go_wp2_with fail
      go_region_held3 (fun w' => Below wr.heap.size wr w' ∧ w'.cell? ⟨b, o + x, none⟩ = some (.slice A3 8 c3) ∧ w'.cell? ⟨gp', x, none⟩ = some (.slice (some ⟨gr, 0, none⟩) l.length l.length) ∧ w'.cell? ⟨b2, o2 + x, none⟩ = some (.int .i64 (num l x : Int)))
        ((first
          | exact HSK.out _ (below_drewN (Below.refl _ _) 1)
          | exact HSK.out _ hbk
          | go_keep))
        ((first
          | (go_at_call 76; refine (HNM.out _ hbk).mono ?_; rintro e w13 ⟨rfl, hb13⟩; have hbk := hbk.trans (hb13.mono hbk.size); clear hb13)
          | (go_at_call 36; refine (equalV (HR3.out _ hbk) hr11).mono ?_; rintro e w12 ⟨rfl, nq, rfl⟩; have hbk := below_drewN hbk nq)
          | (go_at_call 75; refine (HCL.out _ (show Below wr.heap.size wr _ ∧ _ by assumption).1).mono ?_; rintro e w11 ⟨g11, rfl, hr11, hb11⟩; have hbk := (show Below wr.heap.size wr _ ∧ _ by assumption).1.trans (hb11.mono (show Below wr.heap.size wr _ ∧ _ by assumption).1.size); clear hb11)))
      have HBK := Lib.hid hbk
      have HS1 := Lib.hid (show apAll l (x + 1) = apAll l x + apRow l x x from rfl)
      clear hbk hr11
      obtain ⟨wo, hwo⟩ : ∃ wo, wo = wr := ⟨_, rfl⟩
      subst hwo
      go_wp2_with fail
      go_loopg [19, 154] x (fun gk v p wq => ∃ y : Nat, gk = x - y ∧ y ≤ x ∧ p = .int .i64 y ∧ v = .int .i64 ((apAll l x + apRow l x y : Nat) : Int) ∧ Below wo.heap.size wo wq)
      case atStart => exact ⟨0, by omega, by omega, rfl, rfl, HBK.out⟩
      case round =>
        obtain ⟨y, hgk, hy, rfl, rfl, hbq⟩ := hrel
        have HY := Lib.hid hgk
        have hay := apRow_le l x y
        clear hgk HBK
        by_cases hyx : y < x
        · have c2 := (hbq.cell (p := ⟨gp', x, none⟩) (by simp; omega)).trans hc2
          have c4 := (hbq.cell (p := ⟨gr, y, none⟩) (by simp; omega)).trans (HCR.out y (by omega))
          have HBQ := Lib.hid hbq
          have HS2 := Lib.hid (show apRow l x (y + 1) = apRow l x y + if befB l x y = true then 0 else 1 from rfl)
          have hyl : y < l.length := by omega
          clear hbq
          generalize apAll l x = s1 at *
          generalize apRow l x y = s2 at *
          generalize befB l x y = bb at *
          cases bb with
          | true =>
            go_wp2_with fail
            go_roundg (x - (y + 1))
            case measure => have := HY.out; omega
            case rel => exact ⟨y + 1, rfl, by omega, by go_num, by rw [HS2.out]; rfl, HBQ.out⟩
          | false =>
            go_wp2_with fail
            go_roundg (x - (y + 1))
            case measure => have := HY.out; omega
            case rel => exact ⟨y + 1, rfl, by omega, by go_num, by rw [HS2.out]; rfl, HBQ.out⟩
        · obtain rfl : y = x := by omega
          have HBQ := Lib.hid (HB.out.trans (hbq.mono hsz))
          clear hbq
          go_wp2_with fail
          go_roundg (l.length - (y + 1))
          case measure => have := HK.out; omega
          case rel => exact ⟨y + 1, rfl, by omega, by go_num, by rw [HS1.out], HBQ.out⟩
    · obtain rfl : x = l.length := by omega
      have HEND := Lib.hid (HB9.out.trans (hb.mono HB9.out.size))
      have q0 : ((apAll l l.length : Int) != (apAll l l.length : Int)) = false := by simp
      have q0' : (apAll l l.length != apAll l l.length) = false := by simp
      by_cases hout : (i < 0 ∨ k < 0) ∨ ((l.length : Int) ≤ i ∨ (l.length : Int) ≤ k)
      · obtain ⟨ha, he⟩ := HAH.out.no hout
        subst ha he
        by_cases p1 : i < 0
        · have d1 : decide (i < 0) = true := decide_eq_true p1
          clear hout p1 hb
          go_wp2_with fail
          go_ret
          exact ⟨rfl, HEND.out⟩
        have d1 : decide (i < 0) = false := decide_eq_false p1
        by_cases p2 : k < 0
        · have d2 : decide (k < 0) = true := decide_eq_true p2
          clear hout p1 p2 hb
          go_wp2_with fail
          go_ret
          exact ⟨rfl, HEND.out⟩
        have d2 : decide (k < 0) = false := decide_eq_false p2
        by_cases p3 : (l.length : Int) ≤ i
        · have d3 : decide ((l.length : Int) ≤ i) = true := decide_eq_true p3
          clear hout p1 p2 p3 hb
          go_wp2_with fail
          go_ret
          exact ⟨rfl, HEND.out⟩
        have d3 : decide ((l.length : Int) ≤ i) = false := decide_eq_false p3
        have d4 : decide ((l.length : Int) ≤ k) = true := decide_eq_true (by omega)
        clear hout p1 p2 p3 hb
        go_wp2_with fail
        go_ret
        exact ⟨rfl, HEND.out⟩
      · obtain ⟨x, rfl⟩ : ∃ x : Nat, i = x := ⟨i.toNat, by omega⟩
        obtain ⟨y, rfl⟩ : ∃ y : Nat, k = y := ⟨k.toNat, by omega⟩
        have hx : x < l.length := by omega
        have hy : y < l.length := by omega
        obtain ⟨ha, he⟩ := HAH.out.yes x y rfl rfl hx hy
        subst ha he
        have d1 : decide ((x : Int) < 0) = false := decide_eq_false (by omega)
        have d2 : decide ((y : Int) < 0) = false := decide_eq_false (by omega)
        have d3 : decide ((l.length : Int) ≤ (x : Int)) = false := decide_eq_false (by omega)
        have d4 : decide ((l.length : Int) ≤ (y : Int)) = false := decide_eq_false (by omega)
        have d5 : decide (l.length ≤ x) = false := decide_eq_false (by omega)
        have d6 : decide (l.length ≤ y) = false := decide_eq_false (by omega)
        obtain ⟨gp', hgp', hgpl, hrow⟩ := HPM.out.below hb
        obtain rfl : gp' = gp := by simp at hgp'; exact hgp'.symm
        obtain ⟨gr, hgrl, hc2, hcr⟩ := hrow y hy
        have hc4 := hcr x hx
        clear hout hb hcr hrow hgp'
        generalize befB l y x = bb at *
        cases bb
        all_goals
          go_wp2_with fail
          go_ret
          exact ⟨rfl, HEND.out⟩
end Go.Proofs.Ytcmkkfpcdebfkaa
