
/-
  PickTells' walk.
-/
import Derived.Test.YtdjahlkjfpbifaaPk8
import Derived.Test.YtdjahlkjfpbifaaPk5
import Derived.Test.YtdjahlkjfpbifaaLetCat
namespace Go.Proofs.Ytdjahlkjfpbifaa
open Go.RowKit

/-- What stays through the law's walk. -/
structure PickSt (W : World) (A : Option Addr) (c n : Nat) (p : Int) (y : VC) (w : World) : Prop where
  bel : Below W.heap.size W w
  b0 : Box w W.heap.size 24 #[.slice A n c, .int .i64 p]
  b1 : Box w (W.heap.size + 1) 28 #[.int .i64 y.kind, .int .i64 y.num, .string y.text, .slice y.A y.len y.cap]
  sz : W.heap.size + 2 ≤ w.heap.size
section
variable {W w w' : World} {A : Option Addr} {c n : Nat} {p : Int} {y : VC}
theorem PickSt.below (h : PickSt W A c n p y w) (hb : Below w.heap.size w w') : PickSt W A c n p y w' :=
  ⟨h.bel.trans (hb.mono h.bel.size), h.b0.below hb h.b0.lt, h.b1.below hb h.b1.lt, Nat.le_trans h.sz hb.size⟩
theorem PickSt.belowG {g : Nat} (h : PickSt W A c n p y w) (hb : Below g w w') (hg : W.heap.size + 2 ≤ g) : PickSt W A c n p y w' :=
  ⟨h.bel.trans (hb.mono (by omega)), h.b0.below hb (by omega), h.b1.below hb (by omega), Nat.le_trans h.sz hb.size⟩
theorem PickSt.cells (h : PickSt W A c n p y w) : w.cell? ⟨W.heap.size, 0, none⟩ = some (.slice A n c) ∧ w.cell? ⟨W.heap.size, 1, none⟩ = some (.int .i64 p) ∧
    w.cell? ⟨W.heap.size + 1, 0, none⟩ = some (.int .i64 y.kind) ∧ w.cell? ⟨W.heap.size + 1, 1, none⟩ = some (.int .i64 y.num) ∧ w.cell? ⟨W.heap.size + 1, 2, none⟩ = some (.string y.text) ∧ w.cell? ⟨W.heap.size + 1, 3, none⟩ = some (.slice y.A y.len y.cap) :=
  ⟨h.b0.cell 0, h.b0.cell 1, h.b1.cell 0, h.b1.cell 1, h.b1.cell 2, h.b1.cell 3⟩
end

/-- What stays behind Choose. -/
structure PickSt2 (W : World) (A : Option Addr) (c m : Nat) (p : Int) (y : VC) (n g : Nat) (A' : Option Addr) (c' : Nat) (l' : List LC) (rl : List Let) (ra : Int) (x : LC) (rt : Let) (w : World) : Prop where
  st : PickSt W A c m p y w
  b13 : Box w g 24 #[.slice A' l'.length c', .int .i64 ra]
  b14 : Box w (g + 1) 37 #[.int .i64 x.kind, .int .i64 x.frm, .int .i64 x.to, .int .i64 x.num, .string x.text, .int .i64 x.v.kind, .int .i64 x.v.num, .string x.v.text, .slice x.v.A x.v.len x.v.cap]
  row : letterRow w (· < w.heap.size) n A' c' l' rl
  lin : LIn w (· < w.heap.size) n x rt
section
variable {W w w' : World} {A : Option Addr} {c m : Nat} {p : Int} {y : VC} {n g : Nat} {A' : Option Addr} {c' : Nat} {l' : List LC} {rl : List Let} {ra : Int} {x : LC} {rt : Let}
theorem PickSt2.below (h : PickSt2 W A c m p y n g A' c' l' rl ra x rt w) (hb : Below w.heap.size w w') : PickSt2 W A c m p y n g A' c' l' rl ra x rt w' :=
  ⟨h.st.below hb, h.b13.below hb h.b13.lt, h.b14.below hb h.b14.lt, (h.row.below hb fun _ h => h).all, (h.lin.below hb fun _ h => h).all⟩
theorem PickSt2.cells (h : PickSt2 W A c m p y n g A' c' l' rl ra x rt w) : w.cell? ⟨g, 0, none⟩ = some (.slice A' l'.length c') ∧ w.cell? ⟨g, 1, none⟩ = some (.int .i64 ra) ∧ w.cell? ⟨g + 1, 0, none⟩ = some (.int .i64 x.kind) ∧ w.cell? ⟨g + 1, 1, none⟩ = some (.int .i64 x.frm) ∧ w.cell? ⟨g + 1, 2, none⟩ = some (.int .i64 x.to) ∧ w.cell? ⟨g + 1, 3, none⟩ = some (.int .i64 x.num) ∧ w.cell? ⟨g + 1, 4, none⟩ = some (.string x.text) ∧ w.cell? ⟨g + 1, 5, none⟩ = some (.int .i64 x.v.kind) ∧ w.cell? ⟨g + 1, 6, none⟩ = some (.int .i64 x.v.num) ∧ w.cell? ⟨g + 1, 7, none⟩ = some (.string x.v.text) ∧ w.cell? ⟨g + 1, 8, none⟩ = some (.slice x.v.A x.v.len x.v.cap) :=
  ⟨h.b13.cell 0, h.b13.cell 1, h.b14.cell 0, h.b14.cell 1, h.b14.cell 2, h.b14.cell 3, h.b14.cell 4, h.b14.cell 5, h.b14.cell 6, h.b14.cell 7, h.b14.cell 8⟩
end
theorem Row.takeR {w : World} {B : Nat} {A : Option Addr} {xs : List Value} (h : Row w B A xs) (m : Nat) : Row w B A (xs.take m) := fun hp => by
  have hp2 : 0 < xs.length := by rw [List.length_take] at hp; omega
  obtain ⟨b, o, e, hb, hc⟩ := h hp2
  refine ⟨b, o, e, hb, fun i v hv => hc i v ?_⟩
  rw [List.getElem?_take] at hv
  split at hv
  · exact hv
  · cases hv
theorem Row.tailsR {w : World} {B b1 o1 size : Nat} {xs : List Value} (h : Row w B (some ⟨b1, o1, none⟩) xs) (c k n : Nat) (hlen : xs.length = n * size) (hk : k ≤ n) (hc : n ≤ c) :
    ∃ o', (if c = k then (some ⟨b1, o1, none⟩ : Option Addr) else some ⟨b1, o1 + k * size, none⟩) = some ⟨b1, o', none⟩ ∧ Row w B (some ⟨b1, o', none⟩) (xs.drop (k * size)) := by
  by_cases hck : c = k
  · refine ⟨o1, if_pos hck, ?_⟩
    rw [List.drop_of_length_le (by rw [hlen]; exact Nat.mul_le_mul_right _ (by omega))]
    exact Row.nil
  · refine ⟨o1 + k * size, if_neg hck, fun hp => ?_⟩
    obtain ⟨b, o, e, hb, hcs⟩ := h (by rw [List.length_drop] at hp; omega)
    injection e with e
    injection e with e1 e2
    subst e1 e2
    refine ⟨b1, o1 + k * size, rfl, hb, fun i v hv => ?_⟩
    rw [List.getElem?_drop] at hv
    rw [Nat.add_assoc]
    exact hcs _ v hv
theorem cut_row {w0 w' : World} {B n k m base : Nat} {A AC : Option Addr} {c cC : Nat} {l : List LC} {ts : List Let} (h : letterRow w0 (· < B) n A c l ts) (hb : Below B w0 w') (hk : k < l.length) (h60 : l.length ≤ 60)
    (ho : OwnAt w' base 37 9 AC m cC (flat letterC (l.take k ++ l.drop (k + 1)))) (hm : m = (l.take k ++ l.drop (k + 1)).length := by rfl) : letterRow w' (· < w'.heap.size) n AC cC (l.take k ++ l.drop (k + 1)) (ts.take k ++ ts.drop (k + 1)) := by
  subst hm
  have hl := h.1
  have hlen : (l.take k ++ l.drop (k + 1)).length = l.length - 1 := by simp only [List.length_append, List.length_take, List.length_drop]; omega
  refine ⟨?_, ho.row, fun i hi => ?_, ho.cap_le.1, ho.cap_le.2, fun e => ?_, by rw [hlen]; unfold reachBytes; omega⟩
  · rw [hlen]
    simp only [List.length_append, List.length_take, List.length_drop]
    omega
  · rw [hlen] at hi
    rw [getD_cut lc0 l k i hk, getD_cut let0 ts k i (by omega)]
    by_cases h1 : i < k
    · rw [if_pos h1, if_pos h1]
      exact ((h.2.2.1 i (by omega)).below hb fun _ h => h).all
    · rw [if_neg h1, if_neg h1]
      exact ((h.2.2.1 (i + 1) (by omega)).below hb fun _ h => h).all
  · rcases ho.form with ⟨_, _, h0⟩ | ⟨g1, o1, h0⟩
    · exact h0
    · rw [h0] at e; cases e
theorem valRow_none {w : World} {S : Nat → Prop} {n : Nat} : valRow w S n none 0 [] [] :=
  ⟨rfl, RowS.nil, fun i hi => absurd hi (by simp), by simp, by unfold maxLen; simp, fun _ => rfl, by simp⟩

set_option maxRecDepth 100000 in
set_option maxHeartbeats 4000000 in
theorem pickTells_walk (n : Nat) (hn : 1 ≤ n) (A : Option Addr) (c : Nat) (l : List LC) (ts : List Let) (p : Int) (Ap : Option Addr) (cp : Nat) (lp : List VC) (ps : List Val) (y : VC) (v : Val) (W : World) (h : letterRow W (· < W.heap.size) n A c l ts) (hps : valRow W (· < W.heap.size) (n + 2) Ap cp lp ps) (hy : VIn W (· < W.heap.size) (n + 2) y v) (hM : ∀ p ∈ ps, p.size ≤ 2097152) :
    Calls Try.prog 3 #[boxV A l.length c p, .slice Ap lp.length cp, valV y] W fun e w' => e = .returned (.bool true) ∧ Below W.heap.size W w' := by
  have HR := Lib.hid h
  have HP := Lib.hid hps
  have HY := Lib.hid hy
  have HM := Lib.hid hM
  have hlc := h.2.2.2.1
  have hm := h.2.2.2.2.1
  have hml : l.length ≤ maxLen := by omega
  have hmp : lp.length ≤ maxLen := by have := hps.2.2.2.1; have := hps.2.2.2.2.1; omega
  have hcmp : lp.length ≤ 2 ^ 63 - 1 := by unfold maxLen at hmp; exact hmp
  have HLP := Lib.hid hps.1
  have HCP := Lib.hid (fun w1 (hb : Below W.heap.size W w1) => containsSome_val Ap cp lp 12 #[] W.heap.size (fun w2 => Below w1.heap.size w1 w2) w1 enters_pick1 hmp (fun w2 h2 => (hps.below (hb.trans (h2.mono hb.size)) fun _ h => h).2.1.row)
    (fun k hk w2 h2 => (pick1_any (n + 2) (lp.getD k vc0) (ps.getD k val0) w2 _ ((hps.2.2.1 k hk).below (hb.trans (h2.mono hb.size)) fun _ h => h)).mono fun e w3 h3 => ⟨h3.1, h2.trans (h3.2.mono h2.size)⟩) (Below.refl _ _))
  have HCL := Lib.hid (fun w1 (hb : Below W.heap.size W w1) => containsSome_letter A c l 15 #[] W.heap.size (fun w2 => Below w1.heap.size w1 w2) w1 enters_pick2 hml (fun w2 h2 => (h.below (hb.trans (h2.mono hb.size)) fun _ h => h).2.1.row)
    (fun k hk w2 h2 => (pick2_any n (l.getD k lc0) (ts.getD k let0) w2 _ ((h.2.2.1 k hk).below (hb.trans (h2.mono hb.size)) fun _ h => h)).mono fun e w3 h3 => ⟨h3.1, h2.trans (h3.2.mono h2.size)⟩) (Below.refl _ _))
  have HFL := Lib.hid (fun w1 (hb : Below W.heap.size W w1) => flatV_any (n + 2) y v w1 _ (hy.below hb fun _ h => h))
  clear h hps hy hM
  unfold boxV valV at *
  go_enter Try.func3, Try.ntmps3
  go_upto_region 1 with fail
  have HST := Lib.hid (show PickSt W A c l.length p y ((W.alloc (.cells #[.slice A l.length c, .int .i64 p] 24)).alloc (.cells #[.int .i64 y.kind, .int .i64 y.num, .string y.text, .slice y.A y.len y.cap] 28)) from
    ⟨((Below.refl _ _).alloc (Nat.le_refl _) _).alloc (by simp) _, (Box.new W _ _).alloc _, by
      have := Box.new (W.alloc (.cells #[.slice A l.length c, .int .i64 p] 24)) 28 #[.int .i64 y.kind, .int .i64 y.num, .string y.text, .slice y.A y.len y.cap]
      simpa using this, by simp⟩)
  generalize (W.alloc (.cells #[.slice A l.length c, .int .i64 p] 24)).alloc (.cells #[.int .i64 y.kind, .int .i64 y.num, .string y.text, .slice y.A y.len y.cap] 28) = w1 at *
  obtain ⟨a0, a1, q0, q1, q2, q3⟩ := HST.out.cells
  go_wp2_with fail
  refine (HFL.out w1 HST.out.bel).mono ?_
  rintro e w2 ⟨⟨qf, rfl⟩, hb2⟩
  have HST2 := Lib.hid (HST.out.below hb2)
  clear hb2 HST a0 a1 q0 q1 q2 q3 HFL
  obtain ⟨a0, a1, q0, q1, q2, q3⟩ := HST2.out.cells
  cases qf
  case false =>
    go_wp2_with fail
    go_ret
    exact ⟨rfl, HST2.out.bel⟩
  by_cases h30 : (30 : Int) < (lp.length : Int)
  · go_wp2_with fail
    go_ret
    exact ⟨rfl, HST2.out.bel⟩
  have h30' : ¬ 30 < lp.length := by omega
  go_wp2_with fail
  refine (HCP.out w2 HST2.out.bel).mono ?_
  rintro e w3 ⟨⟨qp, rfl⟩, hb3⟩
  have HST3 := Lib.hid (HST2.out.below hb3)
  clear hb3 HST2 a0 a1 q0 q1 q2 q3 HCP
  obtain ⟨a0, a1, q0, q1, q2, q3⟩ := HST3.out.cells
  cases qp
  case true =>
    go_wp2_with fail
    go_ret
    exact ⟨rfl, HST3.out.bel⟩
  go_wp2_with fail
  refine (HCL.out w3 HST3.out.bel).mono ?_
  rintro e w4 ⟨⟨ql, rfl⟩, hb4⟩
  have HST4 := Lib.hid (HST3.out.below hb4)
  clear hb4 HST3 a0 a1 q0 q1 q2 q3 HCL
  obtain ⟨a0, a1, q0, q1, q2, q3⟩ := HST4.out.cells
  cases ql
  case true =>
    go_wp2_with fail
    go_ret
    exact ⟨rfl, HST4.out.bel⟩
  go_wp2_with fail
  clear a0 a1 q0 q1 q2 q3
  go_loopg [39] lp.length (fun gk iv wr => ∃ k : Nat, gk = lp.length - k ∧ k ≤ lp.length ∧ iv = .int .i64 k ∧ PickSt W A c l.length p y wr)
  case atStart => exact ⟨0, by omega, by omega, rfl, HST4.out⟩
  case round =>
    obtain ⟨k, hgk, hk, rfl, hst⟩ := hrel
    have HGK := Lib.hid hgk
    have HS := Lib.hid hst
    clear hgk hst HST4
    obtain ⟨a0, a1, q0, q1, q2, q3⟩ := HS.out.cells
    by_cases hlt : k < lp.length
    · have hrw := HP.out.below HS.out.bel fun _ h => h
      have HX := Lib.hid (hrw.2.2.1 k hlt)
      have HSM := Lib.hid (HM.out _ (getD_mem val0 (show k < ps.length by rw [← HLP.out]; exact hlt)))
      obtain ⟨p1, o1, rfl, _, hc0, hc1, hc2, hc3⟩ := hrw.2.1.all.val hlt vc0
      clear hrw
      generalize lp.getD k vc0 = x at *
      generalize ps.getD k val0 = pv at *
      go_upto_region 6 with fail
      have hb5 := (Below.refl wr.heap.size wr).alloc (Nat.le_refl _) (.cells #[.int .i64 x.kind, .int .i64 x.num, .string x.text, .slice x.A x.len x.cap] 32)
      have HS5 := Lib.hid (HS.out.below hb5)
      have HX5 := Lib.hid (HX.out.below hb5 fun b hb => Nat.lt_of_lt_of_le hb HS.out.bel.size)
      have HBX5 := Lib.hid (Box.new wr 32 #[.int .i64 x.kind, .int .i64 x.num, .string x.text, .slice x.A x.len x.cap])
      clear hb5 HS HX hc0 hc1 hc2 hc3 a0 a1 q0 q1 q2 q3
      generalize wr.alloc (.cells #[.int .i64 x.kind, .int .i64 x.num, .string x.text, .slice x.A x.len x.cap] 32) = w5 at *
      generalize wr.heap.size = g8 at *
      obtain ⟨a0, a1, q0, q1, q2, q3⟩ := HS5.out.cells
      obtain ⟨x0, x1, x2, x3, _⟩ := own_cells4 HBX5.out
      have HFT := Lib.hid (fits_pk (n + 2) x y pv v w5 _ _ HX5.out (HY.out.below HS5.out.bel fun _ h => h) HSM.out)
      have HMT := Lib.hid (fun w7 base (hb : Below W.heap.size W w7) (h1 : base ≤ w7.heap.size) (hx : VIn w7 (· < W.heap.size) (n + 2) x pv) (hWb : W.heap.size ≤ base) (hnm : NamesAt w7 base base (· < W.heap.size) (n + 2) none 0 [] []) => matches_any (n + 2) x y pv v w7 base base (n + 2) 2097152 _ _ none 0 [] [] hx (HY.out.below hb fun _ h => h) (fun b hb => Nat.lt_of_lt_of_le hb hWb) (fun b hb => Nat.lt_of_lt_of_le hb hWb) h1 (Nat.le_refl _) hnm (by simpa using HSM.out) (Nat.le_refl _))
      have HNL := Lib.hid (fun xs h => bindN_len (n + 2) pv v xs h)
      unfold GotPost valV at HFT
      unfold MatchPost valV at HMT
      obtain ⟨r, hr⟩ : ∃ r, bindN (n + 2) pv v = r := ⟨_, rfl⟩
      rw [hr] at HFT HMT HNL
      clear hr
      go_wp2_with fail
      refine HFT.out.mono ?_
      rintro e w6 ⟨A1, c1, l1, rfl, hmk1, hby1, hb6⟩
      have HS6 := Lib.hid (HS5.out.below hb6)
      have HX6 := Lib.hid (HX5.out.below hb6 fun b hb => Nat.lt_of_lt_of_le hb HS5.out.bel.size)
      have HBX6 := Lib.hid (HBX5.out.below hb6 HBX5.out.lt)
      have HMK1 := Lib.hid (hmk1.row hby1).lt
      clear hmk1 hb6 HFT HS5 HX5 HBX5 a0 a1 q0 q1 q2 q3 x0 x1 x2 x3
      obtain ⟨a0, a1, q0, q1, q2, q3⟩ := HS6.out.cells
      obtain ⟨x0, x1, x2, x3, _⟩ := own_cells4 HBX6.out
      go_upto_region 8 with fail
      have hb7 := (Below.refl w6.heap.size w6).alloc (Nat.le_refl _) (.cells #[.slice none 0 0] 26)
      have HS7 := Lib.hid (HS6.out.below hb7)
      have HX7 := Lib.hid (HX6.out.below hb7 fun b hb => Nat.lt_of_lt_of_le hb HS6.out.bel.size)
      have HBX7 := Lib.hid (HBX6.out.below hb7 HBX6.out.lt)
      have HMK7 := Lib.hid (HMK1.out.below hb7 fun _ h => h.2)
      have HCALL := Lib.hid (HMT.out (w6.alloc (.cells #[.slice none 0 0] 26)) w6.heap.size HS7.out.bel (by simp) HX7.out HS6.out.bel.size (NamesAt.new (Nat.le_refl _)))
      have hWg : W.heap.size ≤ w6.heap.size := HS6.out.bel.size
      have hg7 : w6.heap.size ≤ (w6.alloc (.cells #[.slice none 0 0] 26)).heap.size := by simp
      have hg8 : g8 < w6.heap.size := HBX6.out.lt
      have hWg2 : W.heap.size + 2 ≤ w6.heap.size := HS6.out.sz
      clear hb7 HMT HS6 HX6 HBX6 HMK1 a0 a1 q0 q1 q2 q3 x0 x1 x2 x3
      generalize w6.alloc (.cells #[.slice none 0 0] 26) = w7 at *
      generalize w6.heap.size = g at *
      obtain ⟨a0, a1, q0, q1, q2, q3⟩ := HS7.out.cells
      obtain ⟨x0, x1, x2, x3, _⟩ := own_cells4 HBX7.out
      go_wp2_with fail
      refine HCALL.out.mono ?_
      rintro e w8 ⟨q, A2, c2, l2, vs2, rfl, hq, hn2, hv2, ho2, _⟩
      have hb8 : Below g w7 w8 := ho2.to_below (Below.refl _ _) hg7 (fun i hi => by
        rcases hi with e | e
        · exact Nat.le_of_eq e.symm
        · cases e)
      have HS8 := Lib.hid (HS7.out.belowG hb8 hWg2)
      have HBX8 := Lib.hid (HBX7.out.below hb8 hg8)
      have HMK8 := Lib.hid (HMK7.out.below hb8 fun _ h => h.2)
      have HN8 := Lib.hid hn2
      have HV8 := Lib.hid hv2
      have HHQ := Lib.hid hq
      have hgb : g < w8.heap.size := hn2.box.lt
      clear hb8 ho2 hn2 hv2 hq HCALL HS7 HX7 HBX7 HMK7 a0 a1 q0 q1 q2 q3 x0 x1 x2 x3
      obtain ⟨a0, a1, q0, q1, q2, q3⟩ := HS8.out.cells
      have k0 : w8.cell? ⟨g, 0, none⟩ = some (.slice A2 l2.length c2) := HN8.out.box.cell 0
      have k1 : w8.frozen? ⟨g, 0, none⟩ = false := HN8.out.box.frozen 0
      cases r with
      | none =>
        obtain rfl : q = false := HHQ.out
        have hb9 : Below g w8 (w8.setCell ⟨g, 0, none⟩ (.slice none 0 0)) := (Below.refl g w8).setCell (p := ⟨g, 0, none⟩) (Nat.le_refl g) _
        have HS9 := Lib.hid (HS8.out.belowG hb9 hWg2)
        have HSV := Lib.hid (same_vals (n + 2) A1 none c1 0 l1.length 0 l1 [] [] [] (w8.setCell ⟨g, 0, none⟩ (.slice none 0 0)) _ (fun _ => False) rfl rfl (HMK8.out.below hb9 fun _ h => h.2) valRow_none)
        clear hb9
        go_wp2_with fail
        refine HSV.out.mono ?_
        rintro e w9 ⟨q9, rfl, hq9, hb9⟩
        obtain rfl : q9 = true := hq9.2 rfl
        have HS10 := Lib.hid (HS9.out.below hb9)
        clear hb9 hq9
        go_wp2_with fail
        go_roundg (lp.length - (k + 1))
        case measure => have := HGK.out; omega
        case rel => exact ⟨k + 1, rfl, by omega, by go_num, HS10.out⟩
      | some xs =>
        obtain rfl : q = true := HHQ.out
        obtain rfl : vs2 = xs := by rw [HV8.out xs rfl, List.nil_append]
        have hl2 : l2.length * 56 ≤ reachBytes := by
          have h1 := HN8.out.made.1
          have h2 := HNL.out vs2 rfl
          have h3 := HSM.out
          unfold reachBytes
          omega
        have HSV := Lib.hid (same_vals (n + 2) A1 A2 c1 c2 l1.length l2.length l1 l2 vs2 vs2 w8 _ _ rfl rfl HMK8.out (HN8.out.made.row hl2))
        clear hl2
        go_wp2_with fail
        refine HSV.out.mono ?_
        rintro e w9 ⟨q9, rfl, hq9, hb9⟩
        obtain rfl : q9 = true := hq9.2 rfl
        have HS10 := Lib.hid (HS8.out.below hb9)
        clear hb9 hq9
        go_wp2_with fail
        go_roundg (lp.length - (k + 1))
        case measure => have := HGK.out; omega
        case rel => exact ⟨k + 1, rfl, by omega, by go_num, HS10.out⟩
    · obtain rfl : k = lp.length := by omega
      clear HGK hk hlt
      go_upto_region 14 with fail
      obtain ⟨R, hR⟩ : ∃ R, firstF (n + 2) ps v = R := ⟨_, rfl⟩
      have hf1 := fun w' (hb : Below wr.heap.size wr w') => first_pk (n + 2) Ap cp lp ps y v w' _ _ (HP.out.below (HS.out.below hb).bel fun _ h => h) (HY.out.below (HS.out.below hb).bel fun _ h => h) HM.out
      have hf2 := fun w' (hb : Below wr.heap.size wr w') => firstOf_any (n + 2) Ap cp lp ps y v w' _ _ (HP.out.below (HS.out.below hb).bel fun _ h => h) (HY.out.below (HS.out.below hb).bel fun _ h => h) HM.out
      rw [hR] at hf1 hf2
      unfold valV at hf1 hf2
      have HF1 := Lib.hid hf1
      have HF2 := Lib.hid hf2
      have HSK : Hid (∀ w', Below wr.heap.size wr w' → Below wr.heap.size wr w' ∧ w'.cell? ⟨W.heap.size + 1, 0, none⟩ = some (.int .i64 y.kind) ∧ w'.cell? ⟨W.heap.size + 1, 1, none⟩ = some (.int .i64 y.num) ∧ w'.cell? ⟨W.heap.size + 1, 2, none⟩ = some (.string y.text) ∧ w'.cell? ⟨W.heap.size + 1, 3, none⟩ = some (.slice y.A y.len y.cap)) := fun w' h => have hh := (HS.out.below h).cells; ⟨h, hh.2.2.1, hh.2.2.2.1, hh.2.2.2.2.1, hh.2.2.2.2.2⟩
      have hbk0 := Below.refl wr.heap.size wr
      clear hf1 hf2 hR
      have hRR : (R != R) = false := by simp
      go_cut [70] from 64 to 70 (fun bv wx => bv = .bool false ∧ Below wr.heap.size wr wx)
      case first =>
        go_region_held3 (fun w' => Below wr.heap.size wr w' ∧ w'.cell? ⟨W.heap.size + 1, 0, none⟩ = some (.int .i64 y.kind) ∧ w'.cell? ⟨W.heap.size + 1, 1, none⟩ = some (.int .i64 y.num) ∧ w'.cell? ⟨W.heap.size + 1, 2, none⟩ = some (.string y.text) ∧ w'.cell? ⟨W.heap.size + 1, 3, none⟩ = some (.slice y.A y.len y.cap))
          ((first
            | with_reducible exact HSK.out _ hbk2
            | with_reducible exact HSK.out _ hbk
            | with_reducible exact HSK.out _ (below_drewP hbk0)
            | go_keep))
          ((first
            | (go_at_call 19; (with_reducible refine (HF1.out _ hbk).mono ?_); rintro e wk2 ⟨rfl, hb2⟩; have hbk2 := hbk.trans (hb2.mono hbk.size))
            | (go_at_call 20; (with_reducible refine (HF2.out _ hbk).mono ?_); rintro e wk2 ⟨rfl, hb2⟩; have hbk2 := hbk.trans (hb2.mono hbk.size))
            | (go_at_call 19; refine (HF1.out _ (below_drewP hbk0)).mono ?_; rintro e wk ⟨rfl, hb1⟩; have hbk := (below_drewP hbk0).trans hb1)
            | (go_at_call 20; refine (HF2.out _ (below_drewP hbk0)).mono ?_; rintro e wk ⟨rfl, hb1⟩; have hbk := (below_drewP hbk0).trans hb1)
            | fail))
        all_goals (
          go_wp2_with fail
          go_meet
          exact ⟨rfl, hbk2⟩)
      case rest =>
      obtain ⟨rfl, hbc⟩ := hcut
      obtain ⟨w5, hw5⟩ : ∃ w5, w5 = wc := ⟨_, rfl⟩
      subst hw5
      have HS5 := Lib.hid (HS.out.below hbc)
      clear hbc hbk0 HSK HF1 HF2 HS a0 a1 q0 q1 q2 q3 hRR
      obtain ⟨a0, a1, q0, q1, q2, q3⟩ := HS5.out.cells
      have HCH := Lib.hid (choose_any n A c l ts p Ap cp lp ps w5 _ _ hn (HR.out.below HS5.out.bel fun _ h => h) (HP.out.below HS5.out.bel fun _ h => h) HM.out)
      have HBF := Lib.hid (fun w' (hb : Below W.heap.size W w') => boxFault_any A c l p w' ((HR.out.below hb fun _ h => h).2.1.all) hlc hm)
      unfold boxV at HBF
      obtain ⟨b, hb⟩ : ∃ b, boxF l p = b := ⟨_, rfl⟩
      have HBE := Lib.hid hb
      rw [hb] at HCH HBF
      clear hb
      obtain ⟨⟨rl, rt, ra, rk⟩, hr⟩ : ∃ r, chooseF (fun t => firstF (n + 2) ps (msgOf t)) b p ts = r := ⟨_, rfl⟩
      rw [hr] at HCH
      have HRR := Lib.hid hr
      clear hr
      unfold ChooseRes boxV at HCH
      go_wp2_with fail
      refine HCH.out.mono ?_
      rintro e w6 ⟨A', c', l', x, rfl, hrow, hx, hb6⟩
      unfold letterV
      go_upto_region 17 with fail
      have hb7 : Below w6.heap.size w6 ((w6.alloc (.cells #[.slice A' l'.length c', .int .i64 ra] 24)).alloc (.cells #[.int .i64 x.kind, .int .i64 x.frm, .int .i64 x.to, .int .i64 x.num, .string x.text, .int .i64 x.v.kind, .int .i64 x.v.num, .string x.v.text, .slice x.v.A x.v.len x.v.cap] 37)) := ((Below.refl _ _).alloc (Nat.le_refl _) _).alloc (by simp) _
      have HST7 := Lib.hid (show PickSt2 W A c l.length p y n w6.heap.size A' c' l' rl ra x rt ((w6.alloc (.cells #[.slice A' l'.length c', .int .i64 ra] 24)).alloc (.cells #[.int .i64 x.kind, .int .i64 x.frm, .int .i64 x.to, .int .i64 x.num, .string x.text, .int .i64 x.v.kind, .int .i64 x.v.num, .string x.v.text, .slice x.v.A x.v.len x.v.cap] 37)) from
        ⟨(HS5.out.below hb6).below hb7, (Box.new w6 _ _).alloc _, by
          have := Box.new (w6.alloc (.cells #[.slice A' l'.length c', .int .i64 ra] 24)) 37 #[.int .i64 x.kind, .int .i64 x.frm, .int .i64 x.to, .int .i64 x.num, .string x.text, .int .i64 x.v.kind, .int .i64 x.v.num, .string x.v.text, .slice x.v.A x.v.len x.v.cap]
          simpa using this, (hrow.all.below hb7 fun _ h => h).all, (hx.all.below hb7 fun _ h => h).all⟩)
      clear hb6 hb7 hrow hx HS5 HCH a0 a1 q0 q1 q2 q3
      generalize (w6.alloc (.cells #[.slice A' l'.length c', .int .i64 ra] 24)).alloc (.cells #[.int .i64 x.kind, .int .i64 x.frm, .int .i64 x.to, .int .i64 x.num, .string x.text, .int .i64 x.v.kind, .int .i64 x.v.num, .string x.v.text, .slice x.v.A x.v.len x.v.cap] 37) = w7 at *
      generalize w6.heap.size = g at *
      obtain ⟨a0, a1, q0, q1, q2, q3⟩ := HST7.out.st.cells
      have HBF7 := Lib.hid (HBF.out w7 HST7.out.st.bel)
      go_wp2_with fail
      refine HBF7.out.mono ?_
      rintro e w8 ⟨rfl, hb8⟩
      have HST8 := Lib.hid (HST7.out.below hb8)
      clear hb8 HST7 HBF7 HBF a0 a1 q0 q1 q2 q3
      obtain ⟨a0, a1, q0, q1, q2, q3⟩ := HST8.out.st.cells
      obtain ⟨s0, s1, d0, d1, d2, d3, d4, d5, d6, d7, d8⟩ := HST8.out.cells
      by_cases hb0 : b ≠ 0
      · have hbb : (b != 0) = true := by simpa using hb0
        have hr := HRR.out
        unfold chooseF at hr
        rw [if_pos hb0] at hr
        injection hr with h1 hr
        injection hr with h2 hr
        injection hr with h3 h4
        subst h1 h2 h3 h4
        have HSB := Lib.hid (same_box n A' none c' 0 l'.length 0 0 0 l' [] [] [] w8 _ (· < 0) rfl rfl HST8.out.row letterRow.none)
        unfold boxV at HSB
        clear hb0
        go_wp2_with fail
        refine HSB.out.mono ?_
        rintro e w9 ⟨q, rfl, hq, hb9⟩
        obtain rfl : q = true := hq.2 rfl
        have HST9 := Lib.hid (HST8.out.below hb9)
        have HSL := Lib.hid (same_letter n x lc0 let0 let0 w9 _ (· < 0) HST9.out.lin (lin_zero hn))
        unfold letterV lc0 vc0 at HSL
        clear hb9 hq HST8 HSB s0 s1 d0 d1 d2 d3 d4 d5 d6 d7 d8
        obtain ⟨s0, s1, d0, d1, d2, d3, d4, d5, d6, d7, d8⟩ := HST9.out.cells
        have hbq : (b == b) = true := by simp
        go_wp2_with fail
        refine HSL.out.mono ?_
        rintro e w10 ⟨q, rfl, hq, hb10⟩
        obtain rfl : q = true := hq.2 rfl
        have HW := Lib.hid (HST9.out.below hb10).st.bel
        clear hb10 hq HST9 HSL s0 s1 d0 d1 d2 d3 d4 d5 d6 d7 d8
        go_wp2_with fail
        go_ret
        exact ⟨rfl, HW.out⟩
      · have hb0' : b = 0 := by omega
        subst hb0'
        have hbb : ((0 : Int) != 0) = false := rfl
        have hbx := HBE.out
        obtain ⟨pn, rfl⟩ : ∃ pn : Nat, p = (pn : Int) := ⟨p.toNat, by
          unfold boxF at hbx
          split at hbx
          · cases hbx
          · split at hbx
            · cases hbx
            · omega⟩
        have hp : pn ≤ l.length ∧ l.length ≤ 60 := by
          unfold boxF at hbx
          split at hbx
          · cases hbx
          · split at hbx
            · cases hbx
            · omega
        have hr := HRR.out
        unfold chooseF at hr
        rw [if_neg (by decide), Int.toNat_natCast] at hr
        have HRI := Lib.hid hr
        have HLT := Lib.hid HR.out.1
        clear HRR hr hb0 hbx
        go_upto_region 20 with fail
        go_wp2_with fail
        go_loopg [18] (l.length - pn) (fun gk iv wq => ∃ k : Nat, gk = l.length - k ∧ k ≤ l.length ∧ iv = .int .i64 k ∧ hitF (fun t => firstF (n + 2) ps (msgOf t)) ts (ts.length - pn) pn = hitF (fun t => firstF (n + 2) ps (msgOf t)) ts (ts.length - k) k ∧ PickSt2 W A c l.length pn y n g A' c' l' rl ra x rt wq)
        case atStart => exact ⟨pn, rfl, hp.1, rfl, rfl, HST8.out⟩
        case round =>
          clear HST8 a0 a1 q0 q1 q2 q3 s0 s1 d0 d1 d2 d3 d4 d5 d6 d7 d8
          obtain ⟨k, hgk, hk, rfl, hhit, hst⟩ := hrel
          have HGK := Lib.hid hgk
          have HHIT := Lib.hid hhit
          have HS := Lib.hid hst
          clear hgk hhit hst
          obtain ⟨a0, a1, q0, q1, q2, q3⟩ := HS.out.st.cells
          by_cases hlt : k < l.length
          · have hrw := HR.out.below HS.out.st.bel fun _ h => h
            have HLX := Lib.hid (hrw.2.2.1 k hlt)
            have HKT := Lib.hid (show k < ts.length by rw [← HLT.out]; exact hlt)
            have HSTEP := Lib.hid (hit_step (fun t => firstF (n + 2) ps (msgOf t)) ts k HKT.out)
            have HROWL := Lib.hid hrw
            obtain ⟨b1, o1, rfl, hb1, hc0, hc1, hc2, hc3, hc4, hc5, hc6, hc7, hc8⟩ := hrw.2.1.row.letter hlt lc0
            obtain ⟨t, ht⟩ : ∃ t, ts.getD k let0 = t := ⟨_, rfl⟩
            obtain ⟨z, hz⟩ : ∃ z, l.getD k lc0 = z := ⟨_, rfl⟩
            rw [ht] at HLX HSTEP
            rw [hz] at HLX hc0 hc1 hc2 hc3 hc4 hc5 hc6 hc7 hc8
            have HT1 := Lib.hid ht
            have HZ1 := Lib.hid hz
            clear ht hz hrw
            go_wp2_with fail
            refine (message_any n z t wr _ HLX.out).mono ?_
            rintro e w9 ⟨y1, rfl, hy1, hb9⟩
            have HS9 := Lib.hid (HS.out.below hb9)
            have HFO := Lib.hid (firstOf_any (n + 2) Ap cp lp ps y1 (msgOf t) w9 _ _ (HP.out.below HS9.out.st.bel fun _ h => h) hy1 HM.out)
            obtain ⟨R2, hR2⟩ : ∃ R2, firstF (n + 2) ps (msgOf t) = R2 := ⟨_, rfl⟩
            rw [hR2] at HFO HSTEP
            have HR2 := Lib.hid hR2
            unfold valV at HFO
            unfold valV
            clear hb9 hy1 HS a0 a1 q0 q1 q2 q3 hc0 hc1 hc2 hc3 hc4 hc5 hc6 hc7 hc8 hR2 HLX
            go_wp2_with fail
            refine HFO.out.mono ?_
            rintro e w10 ⟨rfl, hb10⟩
            have HS10 := Lib.hid (HS9.out.below hb10)
            clear hb10 HS9 HFO
            obtain ⟨a0, a1, q0, q1, q2, q3⟩ := HS10.out.st.cells
            by_cases hRn : 0 ≤ R2
            · have hdec : decide (0 ≤ R2) = true := decide_eq_true hRn
              rw [if_pos hRn] at HSTEP
              have hr := HRI.out
              rw [HHIT.out, HSTEP.out, if_pos HKT.out, HT1.out, HR2.out] at hr
              injection hr with h1 hr
              injection hr with h2 hr
              injection hr with h3 h4
              subst h1 h2 h3 h4
              have hrr : (R2 == R2) = true := by simp
              have hr10 := HR.out.below HS10.out.st.bel fun _ h => h
              obtain ⟨o', hrun, hrow⟩ := Row.tailsR hr10.2.1.row c (k + 1) l.length (flat_len letterC_len l) (by omega) hlc
              have hfd : (flat letterC l).drop ((k + 1) * 9) = flat letterC (l.drop (k + 1)) := (flat_drop letterC_len l (k + 1)).symm
              have hft : (flat letterC l).take (k * 9) = flat letterC (l.take k) := (flat_take letterC_len l k).symm
              rw [hfd] at hrow
              have hsh := hr10.2.1.row.takeR (k * 9)
              rw [hft] at hsh
              have hla : (l.take k).length = k := by rw [List.length_take]; omega
              have hlb : (l.drop (k + 1)).length = l.length - (k + 1) := by rw [List.length_drop]
              have hbO : Below w10.heap.size w10 ((w10.alloc (.cells #[.slice (some ⟨b1, o1, none⟩) k c, .slice (some ⟨b1, o', none⟩) (l.length - (k + 1)) (c - (k + 1))] 22)).drew) := below_drewP ((Below.refl _ _).alloc (Nat.le_refl _) _)
              have hpair : letterPair ((w10.alloc (.cells #[.slice (some ⟨b1, o1, none⟩) k c, .slice (some ⟨b1, o', none⟩) (l.length - (k + 1)) (c - (k + 1))] 22)).drew) w10.heap.size (some ⟨b1, o1, none⟩) (l.take k) c (some ⟨b1, o', none⟩) (l.drop (k + 1)) (c - (k + 1)) :=
                ⟨by rw [hla]; exact (Box.new w10 _ _).drew.cell 0, by rw [hlb]; exact (Box.new w10 _ _).drew.cell 1, ((hsh.more HS10.out.st.bel.size).below hbO).more hbO.size, ((hrow.more HS10.out.st.bel.size).below hbO).more hbO.size, (fun e => by cases e), (fun e => by cases e), by simp⟩
              have HCAT := Lib.hid (concat_letter w10.heap.size _ _ c _ _ _ _ hpair (by rw [hla]; omega) (by rw [hlb]; omega))
              have HCUTR := Lib.hid (fun w' AC cC (hb : Below w10.heap.size w10 w') (ho : OwnAt w' ((w10.alloc (.cells #[.slice (some ⟨b1, o1, none⟩) k c, .slice (some ⟨b1, o', none⟩) (l.length - (k + 1)) (c - (k + 1))] 22)).drew).heap.size 37 9 AC (l.take k ++ l.drop (k + 1)).length cC (flat letterC (l.take k ++ l.drop (k + 1)))) => cut_row hr10 (hb.mono HS10.out.st.bel.size) hlt hp.2 ho)
              obtain ⟨zs, hzs⟩ : ∃ zs, l.take k ++ l.drop (k + 1) = zs := ⟨_, rfl⟩
              rw [hzs] at HCAT HCUTR
              clear hzs
              have hlz : LIn w10 (· < W.heap.size) n z t := by have := hr10.2.2.1 k hlt; rw [HZ1.out, HT1.out] at this; exact this
              obtain ⟨b1', o1', e1, hb1', hc0, hc1, hc2, hc3, hc4, hc5, hc6, hc7, hc8⟩ := hr10.2.1.row.letter hlt lc0
              injection e1 with e1
              injection e1 with e2 e3
              subst e2 e3
              rw [HZ1.out] at hc0 hc1 hc2 hc3 hc4 hc5 hc6 hc7 hc8
              obtain ⟨s0, s1, d0, d1, d2, d3, d4, d5, d6, d7, d8⟩ := HS10.out.cells
              have hbw : b1 < w10.heap.size := Nat.lt_of_lt_of_le hb1' HS10.out.st.bel.size
              have hW2 : W.heap.size + 2 ≤ w10.heap.size := HS10.out.st.sz
              have hg1 : g < w10.heap.size := HS10.out.b13.lt
              have hg2 : g + 1 < w10.heap.size := HS10.out.b14.lt
              have HSK : Hid (∀ w', Below w10.heap.size w10 w' → Below w10.heap.size w10 w' ∧ w'.cell? ⟨W.heap.size, 0, none⟩ = some (.slice (some ⟨b1, o1, none⟩) l.length c) ∧ w'.cell? ⟨g, 0, none⟩ = some (.slice A' l'.length c') ∧ w'.cell? ⟨g, 1, none⟩ = some (.int .i64 0) ∧ w'.cell? ⟨g + 1, 0, none⟩ = some (.int .i64 x.kind) ∧ w'.cell? ⟨g + 1, 1, none⟩ = some (.int .i64 x.frm) ∧ w'.cell? ⟨g + 1, 2, none⟩ = some (.int .i64 x.to) ∧ w'.cell? ⟨g + 1, 3, none⟩ = some (.int .i64 x.num) ∧ w'.cell? ⟨g + 1, 4, none⟩ = some (.string x.text) ∧ w'.cell? ⟨g + 1, 5, none⟩ = some (.int .i64 x.v.kind) ∧ w'.cell? ⟨g + 1, 6, none⟩ = some (.int .i64 x.v.num) ∧ w'.cell? ⟨g + 1, 7, none⟩ = some (.string x.v.text) ∧ w'.cell? ⟨g + 1, 8, none⟩ = some (.slice x.v.A x.v.len x.v.cap) ∧ w'.cell? ⟨b1, o1 + k * 9, none⟩ = some (.int .i64 z.kind) ∧ w'.cell? ⟨b1, o1 + k * 9 + 1, none⟩ = some (.int .i64 z.frm) ∧ w'.cell? ⟨b1, o1 + k * 9 + 2, none⟩ = some (.int .i64 z.to) ∧ w'.cell? ⟨b1, o1 + k * 9 + 3, none⟩ = some (.int .i64 z.num) ∧ w'.cell? ⟨b1, o1 + k * 9 + 4, none⟩ = some (.string z.text) ∧ w'.cell? ⟨b1, o1 + k * 9 + 5, none⟩ = some (.int .i64 z.v.kind) ∧ w'.cell? ⟨b1, o1 + k * 9 + 6, none⟩ = some (.int .i64 z.v.num) ∧ w'.cell? ⟨b1, o1 + k * 9 + 7, none⟩ = some (.string z.v.text) ∧ w'.cell? ⟨b1, o1 + k * 9 + 8, none⟩ = some (.slice z.v.A z.v.len z.v.cap)) := fun w' hb =>
                ⟨hb, (hb.cell (p := ⟨W.heap.size, 0, none⟩) (by show W.heap.size < w10.heap.size; omega)).trans a0, (hb.cell (p := ⟨g, 0, none⟩) hg1).trans s0, (hb.cell (p := ⟨g, 1, none⟩) hg1).trans s1,
                  (hb.cell (p := ⟨g + 1, 0, none⟩) hg2).trans d0, (hb.cell (p := ⟨g + 1, 1, none⟩) hg2).trans d1, (hb.cell (p := ⟨g + 1, 2, none⟩) hg2).trans d2, (hb.cell (p := ⟨g + 1, 3, none⟩) hg2).trans d3, (hb.cell (p := ⟨g + 1, 4, none⟩) hg2).trans d4, (hb.cell (p := ⟨g + 1, 5, none⟩) hg2).trans d5, (hb.cell (p := ⟨g + 1, 6, none⟩) hg2).trans d6, (hb.cell (p := ⟨g + 1, 7, none⟩) hg2).trans d7, (hb.cell (p := ⟨g + 1, 8, none⟩) hg2).trans d8,
                  (hb.cell (p := ⟨b1, o1 + k * 9, none⟩) hbw).trans hc0, (hb.cell (p := ⟨b1, o1 + k * 9 + 1, none⟩) hbw).trans hc1, (hb.cell (p := ⟨b1, o1 + k * 9 + 2, none⟩) hbw).trans hc2, (hb.cell (p := ⟨b1, o1 + k * 9 + 3, none⟩) hbw).trans hc3, (hb.cell (p := ⟨b1, o1 + k * 9 + 4, none⟩) hbw).trans hc4, (hb.cell (p := ⟨b1, o1 + k * 9 + 5, none⟩) hbw).trans hc5, (hb.cell (p := ⟨b1, o1 + k * 9 + 6, none⟩) hbw).trans hc6, (hb.cell (p := ⟨b1, o1 + k * 9 + 7, none⟩) hbw).trans hc7, (hb.cell (p := ⟨b1, o1 + k * 9 + 8, none⟩) hbw).trans hc8⟩
              have hbk0 := Below.refl w10.heap.size w10
              have hwk : IntKind.i64.wrap ((k : Int) + 1) = (k : Int) + 1 := by rw [IntKind.wrap_i64]; omega
              have htn : ((k : Int) + 1).toNat = k + 1 := by omega
              have t1 : (k : Int) + 1 ≤ (l.length : Int) := by omega
              have t2 : k + 1 ≤ l.length := by omega
              have t4 : k ≤ c := by omega
              have t5 : (k : Int) ≤ (c : Int) := by omega
              have t6 : (0 : Int) ≤ (k : Int) + 1 := by omega
              have t7 : (l.length : Int) ≤ (c : Int) := by omega
              have HLZ := Lib.hid hlz
              have HBO := Lib.hid hbO
              clear hr10 hrow hfd hft hsh hla hlb hpair hlz hbO hc0 hc1 hc2 hc3 hc4 hc5 hc6 hc7 hc8 q0 q1 q2 q3 a1 hb1'
              go_upto_region 25 with fail
              go_region_held3 (fun w' => Below w10.heap.size w10 w' ∧ w'.cell? ⟨W.heap.size, 0, none⟩ = some (.slice (some ⟨b1, o1, none⟩) l.length c) ∧ w'.cell? ⟨g, 0, none⟩ = some (.slice A' l'.length c') ∧ w'.cell? ⟨g, 1, none⟩ = some (.int .i64 0) ∧ w'.cell? ⟨g + 1, 0, none⟩ = some (.int .i64 x.kind) ∧ w'.cell? ⟨g + 1, 1, none⟩ = some (.int .i64 x.frm) ∧ w'.cell? ⟨g + 1, 2, none⟩ = some (.int .i64 x.to) ∧ w'.cell? ⟨g + 1, 3, none⟩ = some (.int .i64 x.num) ∧ w'.cell? ⟨g + 1, 4, none⟩ = some (.string x.text) ∧ w'.cell? ⟨g + 1, 5, none⟩ = some (.int .i64 x.v.kind) ∧ w'.cell? ⟨g + 1, 6, none⟩ = some (.int .i64 x.v.num) ∧ w'.cell? ⟨g + 1, 7, none⟩ = some (.string x.v.text) ∧ w'.cell? ⟨g + 1, 8, none⟩ = some (.slice x.v.A x.v.len x.v.cap) ∧ w'.cell? ⟨b1, o1 + k * 9, none⟩ = some (.int .i64 z.kind) ∧ w'.cell? ⟨b1, o1 + k * 9 + 1, none⟩ = some (.int .i64 z.frm) ∧ w'.cell? ⟨b1, o1 + k * 9 + 2, none⟩ = some (.int .i64 z.to) ∧ w'.cell? ⟨b1, o1 + k * 9 + 3, none⟩ = some (.int .i64 z.num) ∧ w'.cell? ⟨b1, o1 + k * 9 + 4, none⟩ = some (.string z.text) ∧ w'.cell? ⟨b1, o1 + k * 9 + 5, none⟩ = some (.int .i64 z.v.kind) ∧ w'.cell? ⟨b1, o1 + k * 9 + 6, none⟩ = some (.int .i64 z.v.num) ∧ w'.cell? ⟨b1, o1 + k * 9 + 7, none⟩ = some (.string z.v.text) ∧ w'.cell? ⟨b1, o1 + k * 9 + 8, none⟩ = some (.slice z.v.A z.v.len z.v.cap))
                ((first
                  | with_reducible exact HSK.out _ hbk3
                  | with_reducible exact HSK.out _ hbk2
                  | with_reducible exact HSK.out _ hbk
                  | with_reducible exact HSK.out _ HBO.out
                  | with_reducible exact HSK.out _ (below_drewP hbk0)
                  | go_keep))
                ((first
                  | (go_at_call 26; refine HCAT.out.mono ?_; rintro e wk ⟨vc, rfl, hownC, hbC⟩; obtain ⟨AC, cC, rfl, hoC⟩ := OwnAt.of_own hownC; have hbk := HBO.out.trans (hbC.mono HBO.out.size); have hrC := HCUTR.out _ _ _ hbk hoC; clear hownC hoC)
                  | (go_at_call 23; refine (same_box n A' AC c' cC l'.length zs.length 0 0 l' zs (ts.take k ++ ts.drop (k + 1)) (ts.take k ++ ts.drop (k + 1)) wk _ _ rfl rfl (HS10.out.below hbk).row hrC).mono ?_; rintro e wk2 ⟨q, rfl, hq, hb2⟩; obtain rfl : q = true := hq.2 rfl; have hbk2 := hbk.trans (hb2.mono hbk.size); clear hq hb2)
                  | (go_at_call 24; refine (same_letter n x z t t wk2 _ _ (HS10.out.below hbk2).lin (HLZ.out.below (hbk2.mono HS10.out.st.bel.size) fun _ h => h)).mono ?_; rintro e wk3 ⟨q, rfl, hq, hb3⟩; obtain rfl : q = true := hq.2 rfl; have hbk3 := hbk2.trans (hb3.mono hbk2.size); clear hq hb3)
                  | fail))
              all_goals (
                have HW := Lib.hid (HS10.out.below hbk3).st.bel
                clear hbk0 hbk hbk2 hbk3 hwk htn
                go_wp2_with fail
                go_ret
                exact ⟨rfl, HW.out⟩)
            · have hdec : decide (0 ≤ R2) = false := decide_eq_false hRn
              rw [if_neg hRn] at HSTEP
              go_wp2_with fail
              go_roundg (l.length - (k + 1))
              case measure => have := HGK.out; omega
              case rel => exact ⟨k + 1, rfl, by omega, by go_num, by rw [HHIT.out, HSTEP.out], HS10.out⟩
          · obtain rfl : k = l.length := by omega
            have hr := HRI.out
            rw [HHIT.out, HLT.out, Nat.sub_self] at hr
            unfold hitF at hr
            rw [if_neg (Nat.lt_irrefl _)] at hr
            injection hr with h1 hr
            injection hr with h2 hr
            injection hr with h3 h4
            subst h1 h2 h4
            have h3' : ra = (l.length : Int) := by rw [HLT.out]; exact h3.symm
            subst h3'
            clear h3
            obtain ⟨s0, s1, d0, d1, d2, d3, d4, d5, d6, d7, d8⟩ := HS.out.cells
            have HSB := Lib.hid (same_box n A' A c' c l'.length l.length l.length l.length l' l ts ts wr _ _ rfl rfl HS.out.row (HR.out.below HS.out.st.bel fun _ h => h))
            unfold boxV at HSB
            go_wp2_with fail
            refine HSB.out.mono ?_
            rintro e w9 ⟨q, rfl, hq, hb9⟩
            obtain rfl : q = true := hq.2 rfl
            have HS9 := Lib.hid (HS.out.below hb9)
            have HSL := Lib.hid (same_letter n x lc0 let0 let0 w9 _ (· < 0) HS9.out.lin (lin_zero hn))
            unfold letterV lc0 vc0 at HSL
            clear hb9 hq HS HSB s0 s1 d0 d1 d2 d3 d4 d5 d6 d7 d8
            obtain ⟨s0, s1, d0, d1, d2, d3, d4, d5, d6, d7, d8⟩ := HS9.out.cells
            go_wp2_with fail
            refine HSL.out.mono ?_
            rintro e w10 ⟨q, rfl, hq, hb10⟩
            obtain rfl : q = true := hq.2 rfl
            have HW := Lib.hid (HS9.out.below hb10).st.bel
            clear hb10 hq HS9 HSL s0 s1 d0 d1 d2 d3 d4 d5 d6 d7 d8
            go_wp2_with fail
            go_ret
            exact ⟨rfl, HW.out⟩
end Go.Proofs.Ytdjahlkjfpbifaa
