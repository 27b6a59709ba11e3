
/-
  The law's walk.
-/
import Derived.Test.YtdjahlkjfpbifaaTm8
namespace Go.Proofs.Ytdjahlkjfpbifaa
open Go.RowKit

/-- Timers in a block, and what they hold. -/
theorem box2_below {w w' : World} {g : Nat} {t : TypeId} {cs : Array Value} (h : Box w g t cs) (hb : Below w.heap.size w w') : Box w' g t cs := h.below hb h.lt
/-- What a call says, by name. -/
theorem set_named {now : Int} {A : Option Addr} {c : Nat} {l : List Du} {id ticks : Int} {N : Int} {L : List Du} {E : Int} (hF : setF now l id ticks = (N, L)) (hE : setE now l id ticks = E) (w : World) (hr : DuIn w A l) (hlc : l.length ≤ c) (hA : A = none → c = 0) :
    Calls Try.prog 56 #[.agg #[.int .i64 now, .slice A l.length c], .int .i64 id, .int .i64 ticks] w fun e w' => ∃ A1 c1, e = .returned (.tuple #[.agg #[.int .i64 N, .slice A1 L.length c1], .int .i64 E]) ∧ DuIn w' A1 L ∧ Below w.heap.size w w' :=
  (tmset_any now A c l id ticks w hr hlc hA).mono fun e w' ⟨v, he, A1, c1, hv, hd, hb⟩ => ⟨A1, c1, by rw [he, hv, hF, hE], by rw [hF] at hd; exact hd, hb⟩
theorem out_named {now : Int} {A : Option Addr} {c : Nat} {l : List Du} {id : Int} {N : Int} {L : List Du} {E T : Int} (hF : outF now l id = (N, L)) (hE : outE now l id = E) (hT : outL now l id = T) (w : World) (hr : DuIn w A l) (hlc : l.length ≤ c) (hA : A = none → c = 0) :
    Calls Try.prog 57 #[.agg #[.int .i64 now, .slice A l.length c], .int .i64 id] w fun e w' => ∃ A1 c1, e = .returned (.tuple #[.agg #[.int .i64 N, .slice A1 L.length c1], .int .i64 T, .int .i64 E]) ∧ DuIn w' A1 L ∧ Below w.heap.size w w' :=
  (tmout_any now A c l id w hr hlc hA).mono fun e w' ⟨v, he, A1, c1, hv, hd, hb⟩ => ⟨A1, c1, by rw [he, hv, hF, hE, hT], by rw [hF] at hd; exact hd, hb⟩
theorem go_named {now : Int} {A : Option Addr} {c : Nat} {l : List Du} {ticks : Int} {N : Int} {L M : List Du} {E : Int} (hF : goF now l ticks = (N, L)) (hE : goE now l ticks = E) (hM : goL now l ticks = M) (w : World) (hr : DuIn w A l) (hlc : l.length ≤ c) (hA : A = none → c = 0) :
    Calls Try.prog 58 #[.agg #[.int .i64 now, .slice A l.length c], .int .i64 ticks] w fun e w' => ∃ A1 c1 A2 c2, e = .returned (.tuple #[.agg #[.int .i64 N, .slice A1 L.length c1], .slice A2 M.length c2, .int .i64 E]) ∧ DuIn w' A1 L ∧ DuIn w' A2 M ∧ Below w.heap.size w w' :=
  (tmgo_any now A c l ticks w hr hlc hA).mono fun e w' ⟨v, A2, c2, he, hd2, A1, c1, hv, hd, hb⟩ => ⟨A1, c1, A2, c2, by rw [he, hv, hF, hE, hM], by rw [hF] at hd; exact hd, by rw [hM] at hd2; exact hd2, hb⟩
theorem next_named {now : Int} {A : Option Addr} {c : Nat} {l : List Du} {N E : Int} (hF : nextF now l = N) (hE : nextE now l = E) (w : World) (hr : DuIn w A l) (hlc : l.length ≤ c) :
    Calls Try.prog 59 #[.agg #[.int .i64 now, .slice A l.length c]] w fun e w' => e = .returned (.tuple #[.int .i64 N, .int .i64 E]) ∧ Below w.heap.size w w' :=
  (tmnext_any now A c l w hr hlc).mono fun e w' ⟨he, hb⟩ => ⟨by rw [he, hF, hE], hb⟩

theorem insert_named {n : Nat} {Z V : List Du} {f id : Int} (hn : n ≤ Z.length) (hV : Z.take n ++ ⟨f, id⟩ :: Z.drop n = V) (hz : Z.length ≤ 100) (base c' b : Nat) (A' : Option Addr) (w' : World) (h1 : OwnAt w' base 139 2 A' Z.length c' (flat duC Z)) (h2 : Box w' b 139 #[.int .i64 f, .int .i64 id]) (h3 : A'.map (·.block) ≠ some b) (h4 : base ≤ w'.heap.size) :
    Calls Try.prog 65 #[.slice A' Z.length c', .int .i64 n, .slice (some ⟨b, 0, none⟩) 1 1] w' fun e w'' =>
      ∃ g' o' cap', e = .returned (.slice (some ⟨g', o', none⟩) V.length cap') ∧ OwnAt w'' base 139 2 (some ⟨g', o', none⟩) V.length cap' (flat duC V) ∧ Only (fun b => A'.map (·.block) = some b) w' w'' ∧ (A'.map (·.block) = some g' ∨ w'.heap.size ≤ g') := by
  subst hV
  exact insert_du base c' n b A' Z ⟨f, id⟩ w' h1 hn h2 h3 h4 (by omega)
theorem same_named {N : Int} {A1 : Option Addr} {c1 : Nat} {V : List Du} {w0 : World} (h : DuIn w0 A1 V) (g6 o6 c6 : Nat) (w' : World) (hb : Below w0.heap.size w0 w') (ho : DuIn w' (some ⟨g6, o6, none⟩) V) :
    Calls Try.prog 62 #[.agg #[.int .i64 N, .slice A1 V.length c1], .agg #[.int .i64 N, .slice (some ⟨g6, o6, none⟩) V.length c6]] w' fun e w'' => e = .returned (.bool true) ∧ Below w'.heap.size w' w'' := by
  have := sameT_any N N A1 (some ⟨g6, o6, none⟩) c1 c6 V V w' (h.below hb) ho
  simpa using this

set_option maxRecDepth 100000 in
set_option maxHeartbeats 8000000 in
theorem timerTells_walk (now : Int) (A : Option Addr) (c : Nat) (l : List Du) (id ticks : Int) (W : World) (hr : DuIn W A l) (hlc : l.length ≤ c) (hA : A = none → c = 0) :
    Calls Try.prog 8 #[.agg #[.int .i64 now, .slice A l.length c], .int .i64 id, .int .i64 ticks] W fun e w' => e = .returned (.bool true) ∧ Below W.heap.size W w' := by
  obtain ⟨F, hF⟩ : ∃ F, tmF now l = F := ⟨_, rfl⟩
  obtain ⟨N1, L1, hF1⟩ : ∃ N L, setF now l id ticks = (N, L) := ⟨_, _, rfl⟩
  obtain ⟨E1, hE1⟩ : ∃ E, setE now l id ticks = E := ⟨_, rfl⟩
  obtain ⟨N2, L2, hF2⟩ : ∃ N L, outF now l id = (N, L) := ⟨_, _, rfl⟩
  obtain ⟨E2, hE2⟩ : ∃ E, outE now l id = E := ⟨_, rfl⟩
  obtain ⟨T2, hT2⟩ : ∃ E, outL now l id = E := ⟨_, rfl⟩
  obtain ⟨N3, L3, hF3⟩ : ∃ N L, goF now l ticks = (N, L) := ⟨_, _, rfl⟩
  obtain ⟨E3, hE3⟩ : ∃ E, goE now l ticks = E := ⟨_, rfl⟩
  obtain ⟨L4, hL4⟩ : ∃ L, goL now l ticks = L := ⟨_, rfl⟩
  obtain ⟨N5, hF5⟩ : ∃ N, nextF now l = N := ⟨_, rfl⟩
  obtain ⟨E5, hE5⟩ : ∃ E, nextE now l = E := ⟨_, rfl⟩
  have hal : Below W.heap.size W (W.alloc (.cells #[.int .i64 now, .slice A l.length c] 128)) := (Below.refl _ _).alloc (Nat.le_refl _) _
  have HX0 : Hid (Box (W.alloc (.cells #[.int .i64 now, .slice A l.length c] 128)) W.heap.size 128 #[.int .i64 now, .slice A l.length c]) := Box.new _ _ _
  have HR := Lib.hid (fun (w' : World) (hb : Below W.heap.size W w') => hr.below hb)
  have HB0 := Lib.hid hal
  have HF := Lib.hid hF
  have HF1 := Lib.hid (show setF now l id ticks = (N1, L1) ∧ setE now l id ticks = E1 from ⟨hF1, hE1⟩)
  have HF2 := Lib.hid (show outF now l id = (N2, L2) ∧ outE now l id = E2 ∧ outL now l id = T2 from ⟨hF2, hE2, hT2⟩)
  have HF3 := Lib.hid (show goF now l ticks = (N3, L3) ∧ goE now l ticks = E3 ∧ goL now l ticks = L4 from ⟨hF3, hE3, hL4⟩)
  have HF5 := Lib.hid (show nextF now l = N5 ∧ nextE now l = E5 from ⟨hF5, hE5⟩)
  clear hal hr hF hF1 hE1 hF2 hE2 hT2 hF3 hE3 hL4 hF5 hE5
  go_enter Try.func8, Try.ntmps8
  go_wp2_with fail
  generalize W.alloc (.cells #[.int .i64 now, .slice A l.length c] 128) = w0 at *
  refine (set_named HF1.out.1 HF1.out.2 w0 (HR.out w0 HB0.out) hlc hA).mono ?_
  rintro e w1 ⟨A1, c1, rfl, hd1, hb1⟩
  have HB1 := Lib.hid (HB0.out.trans (hb1.mono HB0.out.size))
  have HX1 := Lib.hid (box2_below HX0.out hb1)
  have HD1 := Lib.hid hd1
  clear hb1 hd1 HX0 HB0
  have HX := HX1
  have HB := HB1
  clear HX1 HB1
  go_upto_region 2 with fail
  have hbn := (Below.refl w1.heap.size w1).alloc (Nat.le_refl _) (.cells #[.int .i64 N1, .slice A1 L1.length c1] 128)
  have HN7 : Hid (Box (w1.alloc (.cells #[.int .i64 N1, .slice A1 L1.length c1] 128)) w1.heap.size 128 #[.int .i64 N1, .slice A1 L1.length c1]) := Box.new _ _ _
  have HBt := Lib.hid (HB.out.trans (hbn.mono HB.out.size))
  have HXn := Lib.hid (box2_below HX.out hbn)
  have HD1n := Lib.hid (HD1.out.below hbn)
  clear HX HD1
  have HX := HXn
  clear HXn
  have HD1 := HD1n
  clear HD1n
  clear HB hbn
  have HB := HBt
  clear HBt
  generalize w1.alloc (.cells #[.int .i64 N1, .slice A1 L1.length c1] 128) = w2 at *
  generalize w1.heap.size = g7 at *
  obtain ⟨x0, x1, _, _⟩ := own_cells2T HX.out
  go_wp2_with fail
  refine (out_named HF2.out.1 HF2.out.2.1 HF2.out.2.2 w2 (HR.out w2 HB.out) hlc hA).mono ?_
  rintro e w3 ⟨A2, c2, rfl, hd2, hb1⟩
  have HBt := Lib.hid (HB.out.trans (hb1.mono HB.out.size))
  have HXn := Lib.hid (box2_below HX.out hb1)
  have HN7n := Lib.hid (box2_below HN7.out hb1)
  have HD1n := Lib.hid (HD1.out.below hb1)
  clear HX HN7 HD1
  have HX := HXn
  clear HXn
  have HN7 := HN7n
  clear HN7n
  have HD1 := HD1n
  clear HD1n
  clear HB
  have HB := HBt
  clear HBt
  have HD2 := Lib.hid hd2
  clear hb1 x0 x1 hd2
  go_upto_region 3 with fail
  have hbn := (Below.refl w3.heap.size w3).alloc (Nat.le_refl _) (.cells #[.int .i64 N2, .slice A2 L2.length c2] 128)
  have HN9 : Hid (Box (w3.alloc (.cells #[.int .i64 N2, .slice A2 L2.length c2] 128)) w3.heap.size 128 #[.int .i64 N2, .slice A2 L2.length c2]) := Box.new _ _ _
  have HBt := Lib.hid (HB.out.trans (hbn.mono HB.out.size))
  have HXn := Lib.hid (box2_below HX.out hbn)
  have HN7n := Lib.hid (box2_below HN7.out hbn)
  have HD1n := Lib.hid (HD1.out.below hbn)
  have HD2n := Lib.hid (HD2.out.below hbn)
  clear HX HN7 HD1 HD2
  have HX := HXn
  clear HXn
  have HN7 := HN7n
  clear HN7n
  have HD1 := HD1n
  clear HD1n
  have HD2 := HD2n
  clear HD2n
  clear HB hbn
  have HB := HBt
  clear HBt
  generalize w3.alloc (.cells #[.int .i64 N2, .slice A2 L2.length c2] 128) = w4 at *
  generalize w3.heap.size = g9 at *
  obtain ⟨x0, x1, _, _⟩ := own_cells2T HX.out
  go_wp2_with fail
  refine (go_named HF3.out.1 HF3.out.2.1 HF3.out.2.2 w4 (HR.out w4 HB.out) hlc hA).mono ?_
  rintro e w5 ⟨A3, c3, A4, c4, rfl, hd3, hd4, hb1⟩
  have HBt := Lib.hid (HB.out.trans (hb1.mono HB.out.size))
  have HXn := Lib.hid (box2_below HX.out hb1)
  have HN7n := Lib.hid (box2_below HN7.out hb1)
  have HN9n := Lib.hid (box2_below HN9.out hb1)
  have HD1n := Lib.hid (HD1.out.below hb1)
  have HD2n := Lib.hid (HD2.out.below hb1)
  clear HX HN7 HN9 HD1 HD2
  have HX := HXn
  clear HXn
  have HN7 := HN7n
  clear HN7n
  have HN9 := HN9n
  clear HN9n
  have HD1 := HD1n
  clear HD1n
  have HD2 := HD2n
  clear HD2n
  clear HB
  have HB := HBt
  clear HBt
  have HD3 := Lib.hid hd3
  have HD4 := Lib.hid hd4
  clear hb1 x0 x1 hd3 hd4
  go_upto_region 4 with fail
  have hbn := (Below.refl w5.heap.size w5).alloc (Nat.le_refl _) (.cells #[.int .i64 N3, .slice A3 L3.length c3] 128)
  have HN12 : Hid (Box (w5.alloc (.cells #[.int .i64 N3, .slice A3 L3.length c3] 128)) w5.heap.size 128 #[.int .i64 N3, .slice A3 L3.length c3]) := Box.new _ _ _
  have HBt := Lib.hid (HB.out.trans (hbn.mono HB.out.size))
  have HXn := Lib.hid (box2_below HX.out hbn)
  have HN7n := Lib.hid (box2_below HN7.out hbn)
  have HN9n := Lib.hid (box2_below HN9.out hbn)
  have HD1n := Lib.hid (HD1.out.below hbn)
  have HD2n := Lib.hid (HD2.out.below hbn)
  have HD3n := Lib.hid (HD3.out.below hbn)
  have HD4n := Lib.hid (HD4.out.below hbn)
  clear HX HN7 HN9 HD1 HD2 HD3 HD4
  have HX := HXn
  clear HXn
  have HN7 := HN7n
  clear HN7n
  have HN9 := HN9n
  clear HN9n
  have HD1 := HD1n
  clear HD1n
  have HD2 := HD2n
  clear HD2n
  have HD3 := HD3n
  clear HD3n
  have HD4 := HD4n
  clear HD4n
  clear HB hbn
  have HB := HBt
  clear HBt
  generalize w5.alloc (.cells #[.int .i64 N3, .slice A3 L3.length c3] 128) = w6 at *
  generalize w5.heap.size = g12 at *
  obtain ⟨x0, x1, _, _⟩ := own_cells2T HX.out
  go_wp2_with fail
  refine (next_named HF5.out.1 HF5.out.2 w6 (HR.out w6 HB.out) hlc).mono ?_
  rintro e w7 ⟨rfl, hb1⟩
  have HBt := Lib.hid (HB.out.trans (hb1.mono HB.out.size))
  have HXn := Lib.hid (box2_below HX.out hb1)
  have HN7n := Lib.hid (box2_below HN7.out hb1)
  have HN9n := Lib.hid (box2_below HN9.out hb1)
  have HN12n := Lib.hid (box2_below HN12.out hb1)
  have HD1n := Lib.hid (HD1.out.below hb1)
  have HD2n := Lib.hid (HD2.out.below hb1)
  have HD3n := Lib.hid (HD3.out.below hb1)
  have HD4n := Lib.hid (HD4.out.below hb1)
  clear HX HN7 HN9 HN12 HD1 HD2 HD3 HD4
  have HX := HXn
  clear HXn
  have HN7 := HN7n
  clear HN7n
  have HN9 := HN9n
  clear HN9n
  have HN12 := HN12n
  clear HN12n
  have HD1 := HD1n
  clear HD1n
  have HD2 := HD2n
  clear HD2n
  have HD3 := HD3n
  clear HD3n
  have HD4 := HD4n
  clear HD4n
  clear HB
  have HB := HBt
  clear HBt
  clear hb1 x0 x1 
  go_upto_region 6 with fail
  have hbn := (Below.refl w7.heap.size w7).alloc (Nat.le_refl _) (.cells #[.int .i64 0, .slice none 0 0] 128)
  have HN17 : Hid (Box (w7.alloc (.cells #[.int .i64 0, .slice none 0 0] 128)) w7.heap.size 128 #[.int .i64 0, .slice none 0 0]) := Box.new _ _ _
  have HBt := Lib.hid (HB.out.trans (hbn.mono HB.out.size))
  have HXn := Lib.hid (box2_below HX.out hbn)
  have HN7n := Lib.hid (box2_below HN7.out hbn)
  have HN9n := Lib.hid (box2_below HN9.out hbn)
  have HN12n := Lib.hid (box2_below HN12.out hbn)
  have HD1n := Lib.hid (HD1.out.below hbn)
  have HD2n := Lib.hid (HD2.out.below hbn)
  have HD3n := Lib.hid (HD3.out.below hbn)
  have HD4n := Lib.hid (HD4.out.below hbn)
  clear HX HN7 HN9 HN12 HD1 HD2 HD3 HD4
  have HX := HXn
  clear HXn
  have HN7 := HN7n
  clear HN7n
  have HN9 := HN9n
  clear HN9n
  have HN12 := HN12n
  clear HN12n
  have HD1 := HD1n
  clear HD1n
  have HD2 := HD2n
  clear HD2n
  have HD3 := HD3n
  clear HD3n
  have HD4 := HD4n
  clear HD4n
  clear HB hbn
  have HB := HBt
  clear HBt
  generalize w7.alloc (.cells #[.int .i64 0, .slice none 0 0] 128) = w8 at *
  generalize w7.heap.size = g17 at *
  obtain ⟨x0, x1, _, _⟩ := own_cells2T HX.out
  have HFT := Lib.hid (tmfault_any now A c l w8 (HR.out w8 HB.out) hlc)
  rw [HF.out] at HFT
  go_wp2_with fail
  refine HFT.out.mono ?_
  rintro e w9 ⟨rfl, hb1⟩
  clear HFT
  have HBt := Lib.hid (HB.out.trans (hb1.mono HB.out.size))
  have HXn := Lib.hid (box2_below HX.out hb1)
  have HN7n := Lib.hid (box2_below HN7.out hb1)
  have HN9n := Lib.hid (box2_below HN9.out hb1)
  have HN12n := Lib.hid (box2_below HN12.out hb1)
  have HN17n := Lib.hid (box2_below HN17.out hb1)
  have HD1n := Lib.hid (HD1.out.below hb1)
  have HD2n := Lib.hid (HD2.out.below hb1)
  have HD3n := Lib.hid (HD3.out.below hb1)
  have HD4n := Lib.hid (HD4.out.below hb1)
  clear HX HN7 HN9 HN12 HN17 HD1 HD2 HD3 HD4
  have HX := HXn
  clear HXn
  have HN7 := HN7n
  clear HN7n
  have HN9 := HN9n
  clear HN9n
  have HN12 := HN12n
  clear HN12n
  have HN17 := HN17n
  clear HN17n
  have HD1 := HD1n
  clear HD1n
  have HD2 := HD2n
  clear HD2n
  have HD3 := HD3n
  clear HD3n
  have HD4 := HD4n
  clear HD4n
  clear HB
  have HB := HBt
  clear HBt
  clear hb1 x0 x1 
  obtain ⟨x0, x1, _, _⟩ := own_cells2T HX.out
  have HFT := Lib.hid (tmcheck_any now A c l w9 (HR.out w9 HB.out) hlc)
  rw [HF.out] at HFT
  go_wp2_with fail
  refine HFT.out.mono ?_
  rintro e w10 ⟨rfl, hb1⟩
  clear HFT
  have HBt := Lib.hid (HB.out.trans (hb1.mono HB.out.size))
  have HXn := Lib.hid (box2_below HX.out hb1)
  have HN7n := Lib.hid (box2_below HN7.out hb1)
  have HN9n := Lib.hid (box2_below HN9.out hb1)
  have HN12n := Lib.hid (box2_below HN12.out hb1)
  have HN17n := Lib.hid (box2_below HN17.out hb1)
  have HD1n := Lib.hid (HD1.out.below hb1)
  have HD2n := Lib.hid (HD2.out.below hb1)
  have HD3n := Lib.hid (HD3.out.below hb1)
  have HD4n := Lib.hid (HD4.out.below hb1)
  clear HX HN7 HN9 HN12 HN17 HD1 HD2 HD3 HD4
  have HX := HXn
  clear HXn
  have HN7 := HN7n
  clear HN7n
  have HN9 := HN9n
  clear HN9n
  have HN12 := HN12n
  clear HN12n
  have HN17 := HN17n
  clear HN17n
  have HD1 := HD1n
  clear HD1n
  have HD2 := HD2n
  clear HD2n
  have HD3 := HD3n
  clear HD3n
  have HD4 := HD4n
  clear HD4n
  clear HB
  have HB := HBt
  clear HBt
  clear hb1 x0 x1 
  have HD0 := Lib.hid (HR.out w10 HB.out)
  obtain ⟨x0, x1, _, _⟩ := own_cells2T HX.out
  obtain ⟨p0, p1, _, _⟩ := own_cells2T HN7.out
  obtain ⟨q0, q1, _, _⟩ := own_cells2T HN9.out
  obtain ⟨r0, r1, _, _⟩ := own_cells2T HN12.out
  obtain ⟨s0, s1, _, _⟩ := own_cells2T HN17.out

  by_cases hbad : F = 0
  case neg =>
    have hfb : (F != 0) = true := by simpa using hbad
    have hFn : tmF now l ≠ 0 := by rw [HF.out]; exact hbad
    have e1 : E1 = F := by rw [← HF1.out.2]; unfold setE; rw [if_pos hFn, HF.out]
    have e2 : E2 = F := by rw [← HF2.out.2.1]; unfold outE; rw [if_pos hFn, HF.out]
    have e3 : E3 = F := by rw [← HF3.out.2.1]; unfold goE; rw [if_pos hFn, HF.out]
    have e5 : E5 = F := by rw [← HF5.out.2]; unfold nextE; rw [if_pos hFn, HF.out]
    have f1 : (N1, L1) = (0, []) := by rw [← HF1.out.1]; unfold setF; rw [HF1.out.2, e1, if_neg hbad]
    have f2 : (N2, L2) = (0, []) := by rw [← HF2.out.1]; unfold outF; rw [HF2.out.2.1, e2, if_neg hbad]
    have f3 : (N3, L3) = (0, []) := by rw [← HF3.out.1]; unfold goF; rw [HF3.out.2.1, e3, if_neg hbad]
    have t2 : T2 = 0 := by rw [← HF2.out.2.2]; unfold outL; rw [HF2.out.2.1, e2, if_neg hbad]
    have l4 : L4 = [] := by rw [← HF3.out.2.2]; unfold goL; rw [HF3.out.2.1, e3, if_neg hbad]
    have n5 : N5 = 0 := by rw [← HF5.out.1]; unfold nextF; rw [HF5.out.2, e5, if_neg hbad]
    injection f1 with f1 f1'
    injection f2 with f2 f2'
    injection f3 with f3 f3'
    subst E1 E2 E3 E5 N1 L1 N2 L2 N3 L3 T2 L4 N5
    have hff : (F == F) = true := by simp
    have hff2 : (F != F) = false := by simp
    have HSM := Lib.hid (fun (A' : Option Addr) (c' : Nat) (w' : World) => by
      have := sameT_any 0 0 A' none c' 0 [] [] w' ⟨Row.nil, Nat.zero_le _⟩ (DuIn.nil w')
      simpa using this)
    have HK := Lib.hid (fun (w' : World) (hb : Below w10.heap.size w10 w') => (show Below W.heap.size W w' from HB.out.trans (hb.mono HB.out.size)))
    have h7 := HN7.out.lt
    have h9 := HN9.out.lt
    have h12 := HN12.out.lt
    have h17 := HN17.out.lt
    clear hbad hFn HX HN7 HN9 HN12 HN17 HF HF1 HF2 HF3 HF5 HR
    go_wp2_with fail
    refine (HSM.out _ _ _).mono ?_
    rintro e w11 ⟨rfl, hb11⟩
    have q0' := (hb11.cell (p := ⟨g9, 0, none⟩) h9).trans q0
    have q1' := (hb11.cell (p := ⟨g9, 1, none⟩) h9).trans q1
    have r0' := (hb11.cell (p := ⟨g12, 0, none⟩) h12).trans r0
    have r1' := (hb11.cell (p := ⟨g12, 1, none⟩) h12).trans r1
    have s0' := (hb11.cell (p := ⟨g17, 0, none⟩) h17).trans s0
    have s1' := (hb11.cell (p := ⟨g17, 1, none⟩) h17).trans s1
    have HB11 := Lib.hid hb11
    clear p0 p1 q0 q1 r0 r1 s0 s1 x0 x1 hb11
    go_wp2_with fail
    refine (HSM.out _ _ _).mono ?_
    rintro e w12 ⟨rfl, hb12⟩
    have hb12' := HB11.out.trans (hb12.mono HB11.out.size)
    have hz : ∀ g, g < w10.heap.size → g < w11.heap.size := fun g h => Nat.lt_of_lt_of_le h HB11.out.size
    have r0 := (hb12.cell (p := ⟨g12, 0, none⟩) (hz _ h12)).trans r0'
    have r1 := (hb12.cell (p := ⟨g12, 1, none⟩) (hz _ h12)).trans r1'
    have s0 := (hb12.cell (p := ⟨g17, 0, none⟩) (hz _ h17)).trans s0'
    have s1 := (hb12.cell (p := ⟨g17, 1, none⟩) (hz _ h17)).trans s1'
    have HB12 := Lib.hid hb12'
    clear q0' q1' r0' r1' s0' s1' hb12 hb12' hz
    go_wp2_with fail
    refine (HSM.out _ _ _).mono ?_
    rintro e w13 ⟨rfl, hb13⟩
    have HB13 := Lib.hid (HK.out _ (HB12.out.trans (hb13.mono HB12.out.size)))
    clear r0 r1 s0 s1 hb13
    go_wp2_with fail
    go_ret
    exact ⟨rfl, HB13.out⟩
  case pos =>
    subst hbad
    have hok := tmF_ok HF.out
    have hff2 : ((0 : Int) != 0) = false := by simp
    have hl1 := hok.len
    have hn0 := hok.now0
    have hn1 := hok.now1
    clear p0 p1 q0 q1 r0 r1 s0 s1
    go_upto_region 11 with fail
    go_cut [141] from 108 to 141 (fun v wx => v = .bool false ∧ ∃ m, w10.drewN m = wx)
    case first =>
      by_cases hl0 : l.length = 0
      · have e5 : E5 = 4 := by rw [← HF5.out.2]; unfold nextE; rw [if_neg (by rw [HF.out]; simp), if_pos hl0]
        have n5 : N5 = 0 := by rw [← HF5.out.1]; unfold nextF; rw [HF5.out.2, e5]; rfl
        subst E5 N5
        have hz1 : ((l.length : Int) == 0) = true := by rw [beq_iff_eq]; omega
        have hz2 : decide ((0 : Int) < (l.length : Int)) = false := decide_eq_false (by omega)
        have hz3 : l = [] := List.eq_nil_of_length_eq_zero hl0
        subst hz3
        clear HF HF1 HF2 HF3 HF5 HR HD0 HD1 HD2 HD3 HD4 HX HN7 HN9 HN12 HN17 hok
        go_quiet (fail)
        go_wp2_with fail
        go_meet
        exact ⟨rfl, _, rfl⟩
      · have hpos : 0 < l.length := by omega
        have e5 : E5 = 0 := by rw [← HF5.out.2]; unfold nextE; rw [if_neg (by rw [HF.out]; simp), if_neg hl0]
        have n5 : N5 = (l.getD 0 du0).t - now := by rw [← HF5.out.1]; unfold nextF; rw [HF5.out.2, e5]; rfl
        obtain ⟨hy1, hy2⟩ := hok.rows _ (getD_mem du0 hpos)
        obtain ⟨b, o, rfl, hbl, d0, _⟩ := HD0.out.1.du hpos du0
        generalize l.getD 0 du0 = y at *
        rw [Nat.zero_mul, Nat.add_zero] at d0
        subst E5 N5
        have hz1 : ((l.length : Int) == 0) = false := by rw [beq_eq_false_iff_ne]; omega
        have hz2 : decide ((0 : Int) < (l.length : Int)) = true := decide_eq_true (by omega)
        have hz4 : (0 : Int) < (l.length : Int) := by omega
        have hz3 : l ≠ [] := fun e => by rw [e] at hpos; cases hpos
        have hw : IntKind.i64.wrap (y.t - now) = y.t - now := IntWalk.i64_in _ (by omega)
        clear HF HF1 HF2 HF3 HF5 HR HD0 HD1 HD2 HD3 HD4 HX HN7 HN9 HN12 HN17 hok hl0 hy1 hy2
        go_quiet (fail)
        go_wp2_with fail
        go_meet
        exact ⟨rfl, _, rfl⟩
    case rest =>
    obtain ⟨rfl, m, rfl⟩ := hcut
    have hbq : Below w10.heap.size w10 (w10.drewN m) := below_drewN (Below.refl _ _) m
    have HXn := Lib.hid (box2_below HX.out hbq)
    have HN7n := Lib.hid (box2_below HN7.out hbq)
    have HN9n := Lib.hid (box2_below HN9.out hbq)
    have HN12n := Lib.hid (box2_below HN12.out hbq)
    have HN17n := Lib.hid (box2_below HN17.out hbq)
    have HD0n := Lib.hid (HD0.out.below hbq)
    have HD1n := Lib.hid (HD1.out.below hbq)
    have HD2n := Lib.hid (HD2.out.below hbq)
    have HD3n := Lib.hid (HD3.out.below hbq)
    have HD4n := Lib.hid (HD4.out.below hbq)
    have HBt := Lib.hid (HB.out.trans (hbq.mono HB.out.size))
    clear HB hbq x0 x1 HX HN7 HN9 HN12 HN17 HD0 HD1 HD2 HD3 HD4
    have HX := HXn
    clear HXn
    have HN7 := HN7n
    clear HN7n
    have HN9 := HN9n
    clear HN9n
    have HN12 := HN12n
    clear HN12n
    have HN17 := HN17n
    clear HN17n
    have HD0 := HD0n
    clear HD0n
    have HD1 := HD1n
    clear HD1n
    have HD2 := HD2n
    clear HD2n
    have HD3 := HD3n
    clear HD3n
    have HD4 := HD4n
    clear HD4n
    have HB := HBt
    clear HBt
    generalize w10.drewN m = w11 at *
    obtain ⟨x0, x1, _, _⟩ := own_cells2T HX.out
    go_wp2_with fail
    have HW11 := Lib.hid HB.out
    go_loopg [19, 20, 21, 22, 145] l.length (fun gk v19 v20 v21 v22 vi wr => ∃ (k : Nat) (Ar : Option Addr) (cr : Nat) (Ad : Option Addr) (cd : Nat) (Al : Option Addr) (cl : Nat), gk = l.length - k ∧ k ≤ l.length ∧ v19 = .slice Ar (restD (l.take k) id).length cr ∧ v20 = .slice Ad (dueD now ticks (l.take k)).length cd ∧ v21 = .slice Al (latD now ticks (l.take k)).length cl ∧ v22 = .int .i64 (atW (l.take k) id) ∧ vi = .int .i64 k ∧ R3 wr w11.heap.size Ar cr (restD (l.take k) id) Ad cd (dueD now ticks (l.take k)) Al cl (latD now ticks (l.take k)) ∧ Below w11.heap.size w11 wr)
    case atStart => exact ⟨0, none, 0, none, 0, none, 0, by omega, by omega, rfl, rfl, rfl, rfl, rfl, ⟨OwnAt.nil, OwnAt.nil, OwnAt.nil, (fun g h => by cases h), (fun g h => by cases h), (fun g h => by cases h)⟩, Below.refl _ _⟩
    case round =>
      obtain ⟨k, Ar, cr, Ad, cd, Al, cl, hgk, hk, rfl, rfl, rfl, rfl, rfl, h3, hb⟩ := hrel
      have HK := Lib.hid hgk
      have H3 := Lib.hid h3
      have HB3 := Lib.hid hb
      clear hgk h3 hb
      by_cases hlt : k < l.length
      · obtain ⟨b, o, rfl, hbl, c0, c1⟩ := (HD0.out.below HB3.out).1.du hlt du0
        have HNX := Lib.hid (show atW (l.take (k + 1)) id = _ ∧ restD (l.take (k + 1)) id = _ ∧ dueD now ticks (l.take (k + 1)) = _ ∧ latD now ticks (l.take (k + 1)) = _ from ⟨atW_next l id hlt, restD_next l id hlt, dueD_next now ticks l hlt, latD_next now ticks l hlt⟩)
        have hXr : (restD (l.take k) id).length ≤ 100 ∧ (dueD now ticks (l.take k)).length ≤ 100 ∧ (latD now ticks (l.take k)).length ≤ 100 := by
          have ht : (l.take k).length ≤ 100 := by rw [List.length_take]; omega
          exact ⟨Nat.le_trans (List.length_filter_le _ _) ht, Nat.le_trans (List.length_filter_le _ _) ht, Nat.le_trans (List.length_filter_le _ _) ht⟩
        have x0' := (HB3.out.cell (p := ⟨W.heap.size, 0, none⟩) HX.out.lt).trans x0
        generalize l.getD k du0 = y at *
        generalize restD (l.take k) id = Xr at *
        generalize dueD now ticks (l.take k) = Xd at *
        generalize latD now ticks (l.take k) = Xl at *
        generalize atW (l.take k) id = T at *
        obtain ⟨y0, y1⟩ := y
        dsimp only at c0 c1 HNX
        have hkl : (k : Int) < (l.length : Int) := by omega
        have hk0 : (0 : Int) ≤ (k : Int) := by omega
        have hal := (Below.refl wr.heap.size wr).alloc (Nat.le_refl _) (.cells #[.int .i64 y0, .int .i64 y1] 139)
        have HBy : Hid (Box (wr.alloc (.cells #[.int .i64 y0, .int .i64 y1] 139)) wr.heap.size 139 #[.int .i64 y0, .int .i64 y1]) := Box.new _ _ _
        have H3a := Lib.hid (H3.out.below hal)
        have HBa := Lib.hid (HB3.out.trans (hal.mono HB3.out.size))
        have x0a := (hal.cell (p := ⟨W.heap.size, 0, none⟩) (lt_of_cell x0')).trans x0'
        have HNG := Lib.hid (show ∀ g, Ar.map (·.block) = some g → g ≠ wr.heap.size from fun g hg => by have := (own_block_lt H3.out.o1 hg).2; omega)
        clear x0'
        go_upto_region 18 with fail
        clear hal H3 HB3 c0 c1
        generalize wr.alloc (.cells #[.int .i64 y0, .int .i64 y1] 139) = wa at *
        generalize wr.heap.size = gy at *
        obtain ⟨y0c, y1c, _, _⟩ := own_cells2T HBy.out
        go_upto_if 152 with fail
        generalize hbq : (y1 == id) = bq
        go_cut [19, 22] from 153 to 158 (fun v19 v22 wx => ∃ Ar' cr', v19 = .slice Ar' (restD (l.take (k + 1)) id).length cr' ∧ v22 = .int .i64 (atW (l.take (k + 1)) id) ∧ R3 wx w11.heap.size Ar' cr' (restD (l.take (k + 1)) id) Ad cd Xd Al cl Xl ∧ Box wx gy 139 #[.int .i64 y0, .int .i64 y1] ∧ Below w11.heap.size w11 wx)
        case first =>
          by_cases hq : isId id ⟨y0, y1⟩ = true
          · obtain rfl : bq = true := by rw [← hbq]; exact hq
            have HE := Lib.hid (show atW (l.take (k + 1)) id = y0 ∧ restD (l.take (k + 1)) id = Xr from ⟨by rw [HNX.out.1, if_pos hq], by rw [HNX.out.2.1, if_pos hq]⟩)
            clear hq hbq HNX
            go_wp2_with fail
            go_meet
            rw [HE.out.1, HE.out.2]
            exact ⟨Ar, cr, rfl, rfl, H3a.out, HBy.out, HBa.out⟩
          · have hq' : isId id ⟨y0, y1⟩ = false := by simpa using hq
            obtain rfl : bq = false := by rw [← hbq]; exact hq'
            have HE := Lib.hid (show atW (l.take (k + 1)) id = T ∧ restD (l.take (k + 1)) id = Xr ++ [⟨y0, y1⟩] from ⟨by rw [HNX.out.1, if_neg hq], by rw [HNX.out.2.1, if_neg hq]⟩)
            have halp := (Below.refl wa.heap.size wa).alloc (Nat.le_refl _) (.cells #[.int .i64 y0, .int .i64 y1] 139)
            have HBp : Hid (Box (wa.alloc (.cells #[.int .i64 y0, .int .i64 y1] 139)) wa.heap.size 139 (duC ⟨y0, y1⟩).toArray) := Box.new _ _ _
            have H3p := Lib.hid (H3a.out.below halp)
            have HBp2 := Lib.hid (HBa.out.trans (halp.mono HBa.out.size))
            have HBy2 := Lib.hid (box2_below HBy.out halp)
            clear hq hq' hbq HNX halp
            go_wp2_with (at_builtin; refine wpList_push_own rfl (.tmp 155) (.tmp 157) rfl w11.heap.size Ar Xr.length cr Xr rfl H3p.out.o1 wa.heap.size ⟨y0, y1⟩ rfl HBp.out (by omega) HBp2.out.size ?_; intro g5 o5 c5 w5 ho5 hon5 hg5)
            go_meet
            rw [HE.out.1, HE.out.2]
            exact ⟨some ⟨g5, o5, none⟩, c5, by rw [List.length_append]; rfl, rfl, H3p.out.push ho5 hon5 hg5, hon5.box HBy2.out (fun h => HNG.out _ h rfl), H3p.out.later HBp2.out rfl hon5⟩
        case rest =>
        obtain ⟨Ar', cr', rfl, rfl, h3, hby, hbw⟩ := hcut
        clear y0c y1c HBy H3a HBa x0a
        have hNd := HNX.out.2.2.1
        have hNl := HNX.out.2.2.2
        clear hbq
        have halp := (Below.refl wc.heap.size wc).alloc (Nat.le_refl _) (.cells #[.int .i64 y0, .int .i64 y1] 139)
        have HBp : Hid (Box (wc.alloc (.cells #[.int .i64 y0, .int .i64 y1] 139)) wc.heap.size 139 (duC ⟨y0, y1⟩).toArray) := Box.new _ _ _
        have H3p := Lib.hid (h3.below halp)
        have HBp2 := Lib.hid (hbw.trans (halp.mono hbw.size))
        obtain ⟨y0c, y1c, _, _⟩ := own_cells2T hby
        have x0c := (hbw.cell (p := ⟨W.heap.size, 0, none⟩) HX.out.lt).trans x0
        have HIN := Lib.hid (fun w => inT_any ticks 0 1099511627776 w)
        clear h3 halp hby hbw
        by_cases hin : (decide (0 ≤ ticks) && decide (ticks ≤ 1099511627776)) = true
        · rw [hin] at HIN
          have hint : 0 ≤ ticks ∧ ticks ≤ 1099511627776 := by simpa using hin
          have hwt : IntKind.i64.wrap (now + ticks) = now + ticks := IntWalk.i64_in _ (by omega)
          by_cases hle : y0 ≤ now + ticks
          · have hcn : cnd now ticks ⟨y0, y1⟩ = true := by unfold cnd; rw [hin, decide_eq_true hle]; rfl
            have hd1 : decide (y0 ≤ now + ticks) = true := decide_eq_true hle
            have HE := Lib.hid (show dueD now ticks (l.take (k + 1)) = Xd ++ [⟨y0, y1⟩] ∧ latD now ticks (l.take (k + 1)) = Xl from ⟨by rw [hNd, if_pos hcn], by rw [hNl, if_pos hcn]⟩)
            clear hcn hle hNd hNl HNX hin hint
            go_wp2_with (first | (go_at_call 63; refine (HIN.out _).mono ?_; rintro e w' ⟨rfl, rfl⟩) | (at_builtin; refine wpList_push_own rfl (.tmp 170) (.tmp 172) rfl w11.heap.size Ad Xd.length cd Xd rfl H3p.out.o2 wc.heap.size ⟨y0, y1⟩ rfl HBp.out (by omega) HBp2.out.size ?_; intro g5 o5 c5 w5 ho5 hon5 hg5))
            go_roundg (l.length - (k + 1))
            case measure => have := HK.out; omega
            case rel =>
              refine ⟨k + 1, Ar', cr', some ⟨g5, o5, none⟩, c5, Al, cl, rfl, by omega, rfl, ?_, ?_, rfl, by go_num, ?_, H3p.out.swap.later HBp2.out rfl hon5⟩
              · rw [HE.out.1, List.length_append]; rfl
              · rw [HE.out.2]
              · rw [HE.out.1, HE.out.2]; exact (H3p.out.swap.push ho5 hon5 hg5).swap
          · have hcn : ¬ cnd now ticks ⟨y0, y1⟩ = true := by unfold cnd; rw [hin, decide_eq_false hle]; decide
            have hd1 : decide (y0 ≤ now + ticks) = false := decide_eq_false hle
            have HE := Lib.hid (show dueD now ticks (l.take (k + 1)) = Xd ∧ latD now ticks (l.take (k + 1)) = Xl ++ [⟨y0, y1⟩] from ⟨by rw [hNd, if_neg hcn], by rw [hNl, if_neg hcn]⟩)
            clear hcn hle hNd hNl HNX hin hint
            go_wp2_with (first | (go_at_call 63; refine (HIN.out _).mono ?_; rintro e w' ⟨rfl, rfl⟩) | (at_builtin; refine wpList_push_own rfl (.tmp 174) (.tmp 176) rfl w11.heap.size Al Xl.length cl Xl rfl H3p.out.o3 wc.heap.size ⟨y0, y1⟩ rfl HBp.out (by omega) HBp2.out.size ?_; intro g5 o5 c5 w5 ho5 hon5 hg5))
            go_roundg (l.length - (k + 1))
            case measure => have := HK.out; omega
            case rel =>
              refine ⟨k + 1, Ar', cr', Ad, cd, some ⟨g5, o5, none⟩, c5, rfl, by omega, rfl, ?_, ?_, rfl, by go_num, ?_, H3p.out.swap3.later HBp2.out rfl hon5⟩
              · rw [HE.out.1]
              · rw [HE.out.2, List.length_append]; rfl
              · rw [HE.out.1, HE.out.2]; exact (H3p.out.swap3.push ho5 hon5 hg5).swap3
        · have hin' : (decide (0 ≤ ticks) && decide (ticks ≤ 1099511627776)) = false := by simpa using hin
          rw [hin'] at HIN
          have hcn : ¬ cnd now ticks ⟨y0, y1⟩ = true := by unfold cnd; rw [hin']; simp
          have HE := Lib.hid (show dueD now ticks (l.take (k + 1)) = Xd ∧ latD now ticks (l.take (k + 1)) = Xl ++ [⟨y0, y1⟩] from ⟨by rw [hNd, if_neg hcn], by rw [hNl, if_neg hcn]⟩)
          clear hcn hNd hNl HNX hin hin'
          go_wp2_with (first | (go_at_call 63; refine (HIN.out _).mono ?_; rintro e w' ⟨rfl, rfl⟩) | (at_builtin; refine wpList_push_own rfl (.tmp 174) (.tmp 176) rfl w11.heap.size Al Xl.length cl Xl rfl H3p.out.o3 wc.heap.size ⟨y0, y1⟩ rfl HBp.out (by omega) HBp2.out.size ?_; intro g5 o5 c5 w5 ho5 hon5 hg5))
          go_roundg (l.length - (k + 1))
          case measure => have := HK.out; omega
          case rel =>
            refine ⟨k + 1, Ar', cr', Ad, cd, some ⟨g5, o5, none⟩, c5, rfl, by omega, rfl, ?_, ?_, rfl, by go_num, ?_, H3p.out.swap3.later HBp2.out rfl hon5⟩
            · rw [HE.out.1]
            · rw [HE.out.2, List.length_append]; rfl
            · rw [HE.out.1, HE.out.2]; exact (H3p.out.swap3.push ho5 hon5 hg5).swap3
      · obtain rfl : l.length = k := by omega
        rw [List.take_length] at H3 ⊢
        clear HK hk hlt x0 x1
        have HAT := Lib.hid (atW_eq hok id)
        have hAP := atD_pos hok (id := id)
        rw [HAT.out]
        have HATD : Hid (∃ z, atD l id = z) := ⟨_, rfl⟩
        obtain ⟨AT, hATD⟩ := HATD.out
        rw [hATD] at hAP ⊢
        have HATD := Lib.hid hATD
        clear hATD
        have hq2 := (List.length_filter_le (fun x => !isId id x) l)
        have hXr : (restD l id).length ≤ 100 ∧ (dueD now ticks l).length ≤ 100 ∧ (latD now ticks l).length ≤ 100 := ⟨Nat.le_trans (List.length_filter_le _ _) hl1, Nat.le_trans (List.length_filter_le _ _) hl1, Nat.le_trans (List.length_filter_le _ _) hl1⟩
        have HXn := Lib.hid (box2_below HX.out HB3.out)
        have HN7n := Lib.hid (box2_below HN7.out HB3.out)
        have HN9n := Lib.hid (box2_below HN9.out HB3.out)
        have HN12n := Lib.hid (box2_below HN12.out HB3.out)
        have HN17n := Lib.hid (box2_below HN17.out HB3.out)
        have HD0n := Lib.hid (HD0.out.below HB3.out)
        have HD1n := Lib.hid (HD1.out.below HB3.out)
        have HD2n := Lib.hid (HD2.out.below HB3.out)
        have HD3n := Lib.hid (HD3.out.below HB3.out)
        have HD4n := Lib.hid (HD4.out.below HB3.out)
        have HBt := Lib.hid (HB.out.trans (HB3.out.mono HB.out.size))
        clear HB HW11 HX HN7 HN9 HN12 HN17 HD0 HD1 HD2 HD3 HD4
        have HX := HXn
        clear HXn
        have HN7 := HN7n
        clear HN7n
        have HN9 := HN9n
        clear HN9n
        have HN12 := HN12n
        clear HN12n
        have HN17 := HN17n
        clear HN17n
        have HD0 := HD0n
        clear HD0n
        have HD1 := HD1n
        clear HD1n
        have HD2 := HD2n
        clear HD2n
        have HD3 := HD3n
        clear HD3n
        have HD4 := HD4n
        clear HD4n
        have HB := HBt
        clear HBt
        go_upto_region 25 with fail
        go_cut [219] from 179 to 219 (fun v wx => v = .bool false ∧ Below wr.heap.size wr wx)
        case first =>
          rcases hAP with ⟨k1, k2, k3⟩ | ⟨i, k1, k2, k3, k4, k5, k6⟩
          · have e2 : E2 = 4 := by rw [← HF2.out.2.1]; rw [show outE now l id = if tmF now l ≠ 0 then tmF now l else if AT = 0 then 4 else 0 by unfold outE; rw [HATD.out], if_neg (by rw [HF.out]; simp), if_pos k2]
            have f2 : (N2, L2) = (0, []) := by rw [← HF2.out.1]; unfold outF; rw [HF2.out.2.1, e2]; rfl
            have t2 : T2 = 0 := by rw [← HF2.out.2.2]; unfold outL; rw [HF2.out.2.1, e2]; rfl
            injection f2 with f2 f2'
            subst E2 N2 L2 T2
            subst k2
            have HSM := Lib.hid (by
              have := sameT_any 0 0 A2 none c2 0 [] [] wr HD2.out (DuIn.nil wr)
              simpa using this)
            obtain ⟨q0, q1, _, _⟩ := own_cells2T HN9.out
            obtain ⟨s0, s1, _, _⟩ := own_cells2T HN17.out
            clear k1 k3 HF HF1 HF2 HF3 HF5
            go_wp2_with fail
            refine HSM.out.mono ?_
            rintro e w5 ⟨rfl, hb5⟩
            go_wp2_with fail
            go_meet
            exact ⟨rfl, hb5⟩
          · have e2 : E2 = 0 := by rw [← HF2.out.2.1]; rw [show outE now l id = if tmF now l ≠ 0 then tmF now l else if AT = 0 then 4 else 0 by unfold outE; rw [HATD.out], if_neg (by rw [HF.out]; simp), if_neg (by omega)]
            have f2 : (N2, L2) = (now, restD l id) := by rw [← HF2.out.1]; unfold outF; rw [HF2.out.2.1, e2]; rfl
            have t2 : T2 = AT - now := by rw [← HF2.out.2.2]; unfold outL; rw [HF2.out.2.1, e2, HATD.out]; rfl
            injection f2 with f2 f2'
            subst E2 N2 L2 T2
            have hAT2 := (hok.rows _ (getD_mem du0 k2))
            have hw : IntKind.i64.wrap (AT - now) = AT - now := IntWalk.i64_in _ (by rw [k3]; omega)
            have b1 : (AT == 0) = false := by rw [beq_eq_false_iff_ne]; omega
            have b2 : decide (0 < AT) = true := decide_eq_true k4
            have HSM := Lib.hid (by
              have := sameT_any now now A2 Ar c2 cr (restD l id) (restD l id) wr HD2.out (own_du H3.out.o1 (by omega))
              simpa using this)
            obtain ⟨q0, q1, _, _⟩ := own_cells2T HN9.out
            obtain ⟨x0, x1, _, _⟩ := own_cells2T HX.out
            clear k1 k2 k3 k4 k5 k6 HF HF1 HF2 HF3 HF5 HATD hAT2
            go_wp2_with fail
            refine HSM.out.mono ?_
            rintro e w5 ⟨rfl, hb5⟩
            have x0' := (hb5.cell (p := ⟨W.heap.size, 0, none⟩) HX.out.lt).trans x0
            go_wp2_with fail
            go_meet
            exact ⟨rfl, hb5⟩
        case rest =>
        obtain ⟨rfl, hbc⟩ := hcut
        have HBC := Lib.hid hbc
        have H3 := Lib.hid (H3.out.below hbc)
        have HBw := Lib.hid (HB3.out.trans (hbc.mono HB3.out.size))
        have HXn := Lib.hid (box2_below HX.out hbc)
        have HN7n := Lib.hid (box2_below HN7.out hbc)
        have HN9n := Lib.hid (box2_below HN9.out hbc)
        have HN12n := Lib.hid (box2_below HN12.out hbc)
        have HN17n := Lib.hid (box2_below HN17.out hbc)
        have HD0n := Lib.hid (HD0.out.below hbc)
        have HD1n := Lib.hid (HD1.out.below hbc)
        have HD2n := Lib.hid (HD2.out.below hbc)
        have HD3n := Lib.hid (HD3.out.below hbc)
        have HD4n := Lib.hid (HD4.out.below hbc)
        have HBt := Lib.hid (HB.out.trans (hbc.mono HB.out.size))
        clear HB HBC HX HN7 HN9 HN12 HN17 HD0 HD1 HD2 HD3 HD4
        have HX := HXn
        clear HXn
        have HN7 := HN7n
        clear HN7n
        have HN9 := HN9n
        clear HN9n
        have HN12 := HN12n
        clear HN12n
        have HN17 := HN17n
        clear HN17n
        have HD0 := HD0n
        clear HD0n
        have HD1 := HD1n
        clear HD1n
        have HD2 := HD2n
        clear HD2n
        have HD3 := HD3n
        clear HD3n
        have HD4 := HD4n
        clear HD4n
        have HB := HBt
        clear HBt
        clear hAP hbc
        clear HN9 HD2 HF2 HATD HAT
        have hsub : IntKind.i64.wrap (1099511627776 - now) = 1099511627776 - now := IntWalk.i64_in _ (by omega)
        have HIN := Lib.hid (fun w => inT_any ticks 0 (1099511627776 - now) w)
        obtain ⟨x0, x1, _, _⟩ := own_cells2T HX.out
        obtain ⟨bi, hbi⟩ : ∃ b, (decide (0 ≤ ticks) && decide (ticks ≤ 1099511627776 - now)) = b := ⟨_, rfl⟩
        rw [hbi] at HIN
        go_upto_if 225 with (go_at_call 63; refine (HIN.out _).mono ?_; rintro e w' ⟨rfl, rfl⟩)
        go_cut [6] from 226 to 257 (fun v wx => v = .bool false ∧ Below wc.heap.size wc wx)
        case first =>
          have hE3 : E3 = if (decide (0 ≤ ticks) && decide (ticks ≤ 1099511627776 - now)) = false then 1 else 0 := by rw [← HF3.out.2.1]; unfold goE; rw [if_neg (by rw [HF.out]; simp)]
          by_cases hin : (decide (0 ≤ ticks) && decide (ticks ≤ 1099511627776 - now)) = false
          · rw [if_pos hin] at hE3
            have f3 : (N3, L3) = (0, []) := by rw [← HF3.out.1]; unfold goF; rw [HF3.out.2.1, hE3]; rfl
            have l4 : L4 = [] := by rw [← HF3.out.2.2]; unfold goL; rw [HF3.out.2.1, hE3]; rfl
            injection f3 with f3 f3'
            subst E3 N3 L3 L4
            obtain rfl : bi = false := by rw [← hbi]; exact hin
            have HSM := Lib.hid (by
              have := sameT_any 0 0 A3 none c3 0 [] [] wc HD3.out (DuIn.nil wc)
              simpa using this)
            obtain ⟨q0, q1, _, _⟩ := own_cells2T HN12.out
            obtain ⟨s0, s1, _, _⟩ := own_cells2T HN17.out
            clear hin hbi HIN HF HF1 HF3 HF5
            go_wp2_with fail
            refine HSM.out.mono ?_
            rintro e w5 ⟨rfl, hb5⟩
            go_wp2_with fail
            go_meet
            exact ⟨rfl, hb5⟩
          · rw [if_neg hin] at hE3
            have hin' := bool_neg hin
            have hint : 0 ≤ ticks ∧ ticks ≤ 1099511627776 - now := by simpa using hin'
            obtain ⟨g1, g2⟩ := due_eq (now := now) (ticks := ticks) ⟨hint.1, by omega⟩ l
            have f3 : (N3, L3) = (now + ticks, latD now ticks l) := by rw [← HF3.out.1]; unfold goF; rw [HF3.out.2.1, hE3, g2]; rfl
            have l4 : L4 = dueD now ticks l := by rw [← HF3.out.2.2]; unfold goL; rw [HF3.out.2.1, hE3, g1]; rfl
            have hwt : IntKind.i64.wrap (now + ticks) = now + ticks := IntWalk.i64_in _ (by omega)
            injection f3 with f3 f3'
            subst E3 N3 L3 L4
            obtain rfl : bi = true := by rw [← hbi]; exact hin'
            have HSM := Lib.hid (by
              have := sameT_any (now + ticks) (now + ticks) A3 Al c3 cl (latD now ticks l) (latD now ticks l) wc HD3.out (own_du H3.out.o3 (by omega))
              simpa using this)
            have HSD := Lib.hid (fun (w' : World) (hb : Below wc.heap.size wc w') => by
              have := equal_du A4 Ad c4 cd (dueD now ticks l) (dueD now ticks l) w'.heap.size w'.heap.size w' (HD4.out.below hb).1 ((own_du H3.out.o2 (by omega)).below hb).1 HD4.out.2 HD4.out.2
              simpa using this)
            obtain ⟨q0, q1, _, _⟩ := own_cells2T HN12.out
            clear hin hin' hint g1 g2 hbi HIN HF HF1 HF3 HF5
            go_wp2_with fail
            refine HSM.out.mono ?_
            rintro e w5 ⟨rfl, hb5⟩
            have HB5 := Lib.hid hb5
            have HSD5 := Lib.hid (HSD.out w5 hb5)
            clear hb5
            go_wp2_with fail
            refine HSD5.out.mono ?_
            rintro e w6 ⟨rfl, n6, rfl⟩
            go_wp2_with fail
            go_meet
            exact ⟨rfl, below_drewN HB5.out _⟩
        case rest =>
        obtain ⟨rfl, hbc⟩ := hcut
        rename_i wd
        have H3 := Lib.hid (H3.out.below hbc)
        have HXn := Lib.hid (box2_below HX.out hbc)
        have HN7n := Lib.hid (box2_below HN7.out hbc)
        have HN17n := Lib.hid (box2_below HN17.out hbc)
        have HD0n := Lib.hid (HD0.out.below hbc)
        have HD1n := Lib.hid (HD1.out.below hbc)
        have HBt := Lib.hid (HB.out.trans (hbc.mono HB.out.size))
        clear HB HX HN7 HN17 HD0 HD1
        have HX := HXn
        clear HXn
        have HN7 := HN7n
        clear HN7n
        have HN17 := HN17n
        clear HN17n
        have HD0 := HD0n
        clear HD0n
        have HD1 := HD1n
        clear HD1n
        have HB := HBt
        clear HBt
        clear hbc x0 x1 HN12 HD3 HD4
        have hE1 : E1 = if (decide (1 ≤ ticks) && decide (ticks ≤ 1099511627776)) = false then 1 else if (restD l id).length = 100 then 6 else 0 := by rw [← HF1.out.2]; unfold setE; rw [if_neg (by rw [HF.out]; simp)]
        have HF1' := Lib.hid (show (N1, L1) = if E1 = 0 then (now, insD ⟨now + ticks, id⟩ (restD l id)) else (0, []) by rw [← HF1.out.1]; unfold setF; rw [HF1.out.2])
        have HIN2 := Lib.hid (fun w => inT_any ticks 1 1099511627776 w)
        obtain ⟨p0, p1, _, _⟩ := own_cells2T HN7.out
        obtain ⟨s0, s1, _, _⟩ := own_cells2T HN17.out
        clear HF1
        by_cases hin : (decide (1 ≤ ticks) && decide (ticks ≤ 1099511627776)) = false
        · rw [if_pos hin] at hE1
          have f1 := HF1'.out
          rw [hE1, if_neg (by decide)] at f1
          injection f1 with f1 f1'
          subst E1 N1 L1
          rw [hin] at HIN2
          have HSM := Lib.hid (by
            have := sameT_any 0 0 A1 none c1 0 [] [] wc HD1.out (DuIn.nil wc)
            simpa using this)
          clear hin HF HF1' HF3 HF5
          go_wp2_with (go_at_call 63; refine (HIN2.out _).mono ?_; rintro e w' ⟨rfl, rfl⟩)
          refine HSM.out.mono ?_
          rintro e w5 ⟨rfl, hb5⟩
          have HB5 := Lib.hid (HB.out.trans (hb5.mono HB.out.size))
          clear hb5
          go_wp2_with fail
          go_ret
          exact ⟨rfl, HB5.out⟩
        rw [if_neg hin] at hE1
        have hin' := bool_neg hin
        have hint : 1 ≤ ticks ∧ ticks ≤ 1099511627776 := by simpa using hin'
        have hwt : IntKind.i64.wrap (now + ticks) = now + ticks := IntWalk.i64_in _ (by omega)
        rw [hin'] at HIN2
        clear hin hin'
        by_cases hfull : (restD l id).length = 100
        · rw [if_pos hfull] at hE1
          have f1 := HF1'.out
          rw [hE1, if_neg (by decide)] at f1
          injection f1 with f1 f1'
          subst E1 N1 L1
          have HSM := Lib.hid (by
            have := sameT_any 0 0 A1 none c1 0 [] [] wc HD1.out (DuIn.nil wc)
            simpa using this)
          have hfu : (((restD l id).length : Int) == 100) = true := by rw [beq_iff_eq]; omega
          clear HF HF1' HF3 HF5
          go_wp2_with (go_at_call 63; refine (HIN2.out _).mono ?_; rintro e w' ⟨rfl, rfl⟩)
          refine HSM.out.mono ?_
          rintro e w5 ⟨rfl, hb5⟩
          have HB5 := Lib.hid (HB.out.trans (hb5.mono HB.out.size))
          clear hb5
          go_wp2_with fail
          go_ret
          exact ⟨rfl, HB5.out⟩
        rw [if_neg hfull] at hE1
        have f1 := HF1'.out
        rw [hE1, if_pos rfl] at f1
        injection f1 with f1 f1'
        subst E1 N1 L1
        have hfu : (((restD l id).length : Int) == 100) = false := by rw [beq_eq_false_iff_ne]; omega
        have hrl := hXr.1
        have HO1 := Lib.hid H3.out.o1
        generalize restD l id = Z at *
        clear HF HF1' HF3 HF5 hfull H3 s0 s1
        have halp := (Below.refl wc.heap.size wc).alloc (Nat.le_refl _) (.cells #[.int .i64 (now + ticks), .int .i64 id] 139)
        have HBf : Hid (Box (wc.alloc (.cells #[.int .i64 (now + ticks), .int .i64 id] 139)) wc.heap.size 139 #[.int .i64 (now + ticks), .int .i64 id]) := Box.new _ _ _
        have HO1a := Lib.hid (HO1.out.alloc (.cells #[.int .i64 (now + ticks), .int .i64 id] 139))
        have HBa := Lib.hid (HB.out.trans (halp.mono HB.out.size))
        have HN7a := Lib.hid (box2_below HN7.out halp)
        have HXa := Lib.hid (box2_below HX.out halp)
        have HD1a := Lib.hid (HD1.out.below halp)
        obtain ⟨x0, x1, _, _⟩ := own_cells2T HX.out
        clear p0 p1 HO1 HB HN7 HX HD1 HN17 HD0
        go_wp2_with (go_at_call 63; refine (HIN2.out _).mono ?_; rintro e w' ⟨rfl, rfl⟩)
        clear halp x0 x1
        generalize wc.alloc (.cells #[.int .i64 (now + ticks), .int .i64 id] 139) = wf at *
        generalize wc.heap.size = gf at *
        generalize hfr : now + ticks = f at *
        go_loopg [26] Z.length (fun gk vi wr => ∃ k : Nat, gk = Z.length - k ∧ k ≤ cntD ⟨f, id⟩ Z ∧ vi = .int .i64 k ∧ ∃ m, wf.drewN m = wr)
        case atStart => exact ⟨0, by omega, by omega, rfl, 0, rfl⟩
        case round =>
          obtain ⟨k, hgk, hk, rfl, m0, rfl⟩ := hrel
          have HK := Lib.hid hgk
          have hst := cntD_step ⟨f, id⟩ Z hk
          have hcl := cntD_le ⟨f, id⟩ Z
          clear hgk
          obtain ⟨bk, hbk⟩ : ∃ b, decide (k < cntD ⟨f, id⟩ Z) = b := ⟨_, rfl⟩
          have HBK := Lib.hid hbk
          have HST := Lib.hid hst
          go_upto_region 38 with fail
          go_cut [318] from 286 to 318 (fun v wx => v = .bool bk ∧ ∃ m, wf.drewN m = wx)
          case first =>
            have HQ := Lib.hid (show ∀ m, (wf.drewN m0).drewN m = wf.drewN (m0 + m) from fun m => by simp [World.drewN, Nat.add_assoc])
            have hro := (HO1a.out.drewN m0).row
            have f0 : (wf.drewN m0).cell? ⟨gf, 0, none⟩ = some (.int .i64 f) := HBf.out.cell 0
            have f1 : (wf.drewN m0).cell? ⟨gf, 1, none⟩ = some (.int .i64 id) := HBf.out.cell 1
            generalize wf.drewN m0 = wq at *
            by_cases hkl : k < Z.length
            · obtain ⟨b, o, rfl, hbl, c0, c1⟩ := hro.du hkl du0
              have hlt := duLt_iff (Z.getD k du0) ⟨f, id⟩
              generalize Z.getD k du0 = y at *
              have hkz : (k : Int) < (Z.length : Int) := by omega
              have hk0 : (0 : Int) ≤ (k : Int) := by omega
              have dk : decide ((k : Int) < (Z.length : Int)) = true := decide_eq_true hkz
              dsimp only at hlt
              by_cases a1 : y.t < f
              · have d1 : decide (y.t < f) = true := decide_eq_true a1
                obtain rfl : bk = true := by rw [← hbk]; exact decide_eq_true (hst.1 ⟨hkl, hlt.2 (.inl a1)⟩)
                clear hbk hst hlt a1
                go_quiet (fail)
                go_wp2_with fail
                go_meet
                exact ⟨rfl, _, (HQ.out _).symm⟩
              have d1 : decide (y.t < f) = false := decide_eq_false a1
              by_cases a2 : y.t = f
              · have d2 : (y.t == f) = true := by rw [beq_iff_eq]; exact a2
                by_cases a3 : y.id < id
                · have d3 : decide (y.id < id) = true := decide_eq_true a3
                  obtain rfl : bk = true := by rw [← hbk]; exact decide_eq_true (hst.1 ⟨hkl, hlt.2 (.inr ⟨a2, a3⟩)⟩)
                  clear hbk hst hlt a1 a2 a3
                  go_quiet (fail)
                  go_wp2_with fail
                  go_meet
                  exact ⟨rfl, _, (HQ.out _).symm⟩
                · have d3 : decide (y.id < id) = false := decide_eq_false a3
                  obtain rfl : bk = false := by rw [← hbk]; exact decide_eq_false (fun h => by have := hlt.1 (hst.2 h).2; omega)
                  clear hbk hst hlt a1 a2 a3
                  go_quiet (fail)
                  go_wp2_with fail
                  go_meet
                  exact ⟨rfl, _, (HQ.out _).symm⟩
              · have d2 : (y.t == f) = false := by rw [beq_eq_false_iff_ne]; exact a2
                obtain rfl : bk = false := by rw [← hbk]; exact decide_eq_false (fun h => by have := hlt.1 (hst.2 h).2; omega)
                clear hbk hst hlt a1 a2
                go_quiet (fail)
                go_wp2_with fail
                go_meet
                exact ⟨rfl, _, (HQ.out _).symm⟩
            · have dk : decide ((k : Int) < (Z.length : Int)) = false := decide_eq_false (by omega)
              have dk' : decide (k < Z.length) = false := decide_eq_false hkl
              obtain rfl : bk = false := by rw [← hbk]; exact decide_eq_false (fun h => hkl (hst.2 h).1)
              clear hbk hst
              go_quiet (fail)
              go_wp2_with fail
              go_meet
              exact ⟨rfl, _, (HQ.out _).symm⟩
          case rest =>
          obtain ⟨rfl, m1, rfl⟩ := hcut
          by_cases hkc : k < cntD ⟨f, id⟩ Z
          · obtain rfl : bk = true := by rw [← hbk]; exact decide_eq_true hkc
            go_wp2_with fail
            go_roundg (Z.length - (k + 1))
            case measure => have := HK.out; omega
            case rel => exact ⟨k + 1, rfl, by omega, by go_num, m1, rfl⟩
          · obtain rfl : bk = false := by rw [← hbk]; exact decide_eq_false hkc
            obtain rfl : cntD ⟨f, id⟩ Z = k := by omega
            clear hbk HBK HST hst hkc
            go_wp2_with fail
            have HN7g : Hid (Box (wf.drewN m1) g7 128 #[.int .i64 now, .slice A1 (insD ⟨f, id⟩ Z).length c1]) := HN7a.out
            have HXg : Hid (Box (wf.drewN m1) W.heap.size 128 #[.int .i64 now, .slice A l.length c]) := HXa.out
            have HFg : Hid (Box (wf.drewN m1) gf 139 #[.int .i64 f, .int .i64 id]) := HBf.out
            have HD1g := Lib.hid (HD1a.out.below (below_drewN (Below.refl _ _) m1))
            have HO1g := Lib.hid (HO1a.out.drewN m1)
            have HBg := Lib.hid (below_drewN HBa.out m1)
            clear HN7a HXa HBf HD1a HO1a HBa hk
            generalize wf.drewN m1 = wg at *
            have HV := Lib.hid (insD_eq ⟨f, id⟩ Z).symm
            have HVL := Lib.hid (show (insD ⟨f, id⟩ Z).length ≤ 1000 by rw [(insD_perm _ _).length_eq, List.length_append, List.length_singleton]; omega)
            generalize insD ⟨f, id⟩ Z = V at *
            generalize cntD ⟨f, id⟩ Z = n at *
            have hAr : Ar = none → cr = 0 := fun e => by
              rcases HO1g.out.form with ⟨_, _, h⟩ | ⟨g, o, h⟩
              · exact h
              · rw [h] at e; cases e
            have hrow := HO1g.out.row
            have HCL := Lib.hid (fun (w' : World) (hb : Below wg.heap.size wg w') => clone_du Ar cr Z w'.heap.size w' ((hrow.below hb).more hb.size) hAr (by omega))
            have HIS := Lib.hid (fun (base c' b : Nat) (A' : Option Addr) (w' : World) h1 h2 h3 h4 => insert_named (f := f) (id := id) hcl HV.out hrl base c' b A' w' h1 h2 h3 h4)
            obtain ⟨p0, p1, _, _⟩ := own_cells2T HN7g.out
            obtain ⟨x0, x1, _, _⟩ := own_cells2T HXg.out
            obtain ⟨f0, f1, _, _⟩ := own_cells2T HFg.out
            have HSK := Lib.hid (fun (w' : World) (hb : Below wg.heap.size wg w') => (show (w'.cell? ⟨g7, 0, none⟩ = some (.int .i64 now) ∧ w'.cell? ⟨g7, 1, none⟩ = some (.slice A1 V.length c1)) ∧ w'.cell? ⟨W.heap.size, 0, none⟩ = some (.int .i64 now) ∧ (w'.cell? ⟨gf, 0, none⟩ = some (.int .i64 f) ∧ w'.cell? ⟨gf, 1, none⟩ = some (.int .i64 id)) from ⟨⟨(hb.cell (lt_of_cell p0)).trans p0, (hb.cell (lt_of_cell p1)).trans p1⟩, (hb.cell (lt_of_cell x0)).trans x0, (hb.cell (lt_of_cell f0)).trans f0, (hb.cell (lt_of_cell f1)).trans f1⟩))
            have hd : Below wg.heap.size wg wg.drew := below_drewN (Below.refl _ _) 1
            have hda : Below wg.heap.size wg (wg.alloc (.cells #[.int .i64 f, .int .i64 id] 139)).drew := below_drewN ((Below.refl _ _).alloc (Nat.le_refl _) _) 1
            have HSM := Lib.hid (fun (g6 o6 c6 : Nat) (w' : World) hb ho => same_named (N := now) (c1 := c1) HD1g.out g6 o6 c6 w' hb ho)
            have HSZ : Hid (wg.heap.size < (wg.alloc (.cells #[.int .i64 f, .int .i64 id] 139)).drew.heap.size) := by
              show wg.heap.size < (wg.alloc _).heap.size
              simp
            have HBX : Hid (∀ (w' : World), Below (wg.alloc (.cells #[.int .i64 f, .int .i64 id] 139)).drew.heap.size (wg.alloc (.cells #[.int .i64 f, .int .i64 id] 139)).drew w' → Box w' wg.heap.size 139 #[.int .i64 f, .int .i64 id]) := fun w' hb => (show Box (wg.alloc (.cells #[.int .i64 f, .int .i64 id] 139)).drew wg.heap.size 139 #[.int .i64 f, .int .i64 id] from Box.new wg _ _).below hb HSZ.out
            clear hrow hAr HXg HFg HN7g
            go_region_held3 (fun w' => (w'.cell? ⟨g7, 0, none⟩ = some (.int .i64 now) ∧ w'.cell? ⟨g7, 1, none⟩ = some (.slice A1 V.length c1)) ∧ w'.cell? ⟨W.heap.size, 0, none⟩ = some (.int .i64 now) ∧ (w'.cell? ⟨gf, 0, none⟩ = some (.int .i64 f) ∧ w'.cell? ⟨gf, 1, none⟩ = some (.int .i64 id)))
              ((first | with_reducible exact HSK.out _ hk7 | with_reducible exact HSK.out _ hk6 | with_reducible exact HSK.out _ hk4a | with_reducible exact HSK.out _ hk4 | with_reducible exact HSK.out _ hda | with_reducible exact HSK.out _ hd | go_keep))
              ((first
                | (go_at_call 62; (with_reducible refine (HSM.out g6 o6 c6 _ hk6 (own_du ho6 HVL.out)).mono ?_); rintro e w7 ⟨rfl, hb7⟩; have hk7 := hk6.trans (hb7.mono hk6.size))
                | (go_at_call 65; (with_reducible refine (HIS.out _ _ _ _ _ ho4a hbx1 hnx1 hk4a.size).mono ?_); rintro e w6 ⟨g6, o6, c6, rfl, ho6, hon6, hg6⟩; have hk6 := hon6.to_below hk4a hk4a.size (fun i hi => (own_block_lt ho4 hi).1))
                | (go_at_call 66; (with_reducible refine (HCL.out _ hd).mono ?_); rintro e w4 ⟨v, rfl, hv, hb4⟩; have hk4 := hd.trans (hb4.mono hd.size); have hk4a := hk4.alloc hk4.size (.cells #[.int .i64 f, .int .i64 id] 139); obtain ⟨A4', c4', rfl, ho4'⟩ := OwnAt.of_own hv; have ho4 := ho4'.lower hd.size; have ho4a := ho4.alloc (.cells #[.int .i64 f, .int .i64 id] 139); have hbx1 := Box.new w4 139 #[.int .i64 f, .int .i64 id]; have hnx1 : A4'.map (·.block) ≠ some w4.heap.size := fun e => Nat.lt_irrefl _ (own_block_lt ho4 e).2)
                | (go_at_call 66; (with_reducible refine (HCL.out _ hda).mono ?_); rintro e w4 ⟨v, rfl, hv, hb4⟩; have hk4 := hda.trans (hb4.mono hda.size); obtain ⟨A4', c4', rfl, ho4'⟩ := OwnAt.of_own hv; have ho4 := ho4'.lower hda.size; have hbx := HBX.out _ hb4; have hnx : A4'.map (·.block) ≠ some wg.heap.size := fun e => Nat.lt_irrefl _ (Nat.lt_of_lt_of_le HSZ.out (own_block_lt ho4' e).1))
                | (go_at_call 65; (with_reducible refine (HIS.out _ _ _ _ _ ho4 hbx hnx hk4.size).mono ?_); rintro e w6 ⟨g6, o6, c6, rfl, ho6, hon6, hg6⟩; have hk6 := hon6.to_below hk4 hk4.size (fun i hi => (own_block_lt ho4 hi).1))
                | fail))
            all_goals
              have HZ7 := Lib.hid (HBg.out.trans (hk7.mono HBg.out.size))
              clear hk7 hk6 hk4 hb7 ho6 hon6 hg6
              go_wp2_with fail
              go_ret
              exact ⟨rfl, HZ7.out⟩
end Go.Proofs.Ytdjahlkjfpbifaa
