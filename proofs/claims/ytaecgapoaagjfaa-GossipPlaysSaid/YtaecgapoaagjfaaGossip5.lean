/-
  Rows merged.
-/
import Derived.Test.YtaecgapoaagjfaaGossip4
namespace Go.Proofs.Ytaecgapoaagjfaa
open Go.RowKit

theorem heardG_append (me : Nat) : ∀ (G : GS) (l m : List RowT), heardG me G (l ++ m) = heardG me (heardG me G l) m
  | _, [], _ => rfl
  | G, r :: l, m => heardG_append me (hearG me G r) l m
theorem heardV_append (me : Nat) : ∀ (G : GS) (V : Nat → Int) (l m : List RowT), heardV me G V (l ++ m) = heardV me (heardG me G l) (heardV me G V l) m
  | _, _, [], _ => rfl
  | G, V, r :: l, m => heardV_append me (hearG me G r) (hearV me G V r) l m
theorem heardW_append (me : Nat) : ∀ (G : GS) (V : Nat → Int) (l m : List RowT), heardW me G V (l ++ m) = heardW me (heardG me G l) (heardW me G V l) m
  | _, _, [], _ => rfl
  | G, V, r :: l, m => heardW_append me (hearG me G r) (hearW G V r) l m
theorem heard_succ (me : Nat) (G : GS) (V : Nat → Int) (l : List RowT) (k : Nat) (hk : k < l.length) :
    heardG me G (l.take (k + 1)) = hearG me (heardG me G (l.take k)) (l.getD k (0, 0, 0)) ∧ heardV me G V (l.take (k + 1)) = hearV me (heardG me G (l.take k)) (heardV me G V (l.take k)) (l.getD k (0, 0, 0)) ∧ heardW me G V (l.take (k + 1)) = hearW (heardG me G (l.take k)) (heardW me G V (l.take k)) (l.getD k (0, 0, 0)) := by
  rw [take_getD l (0, 0, 0) hk, heardG_append, heardV_append, heardW_append]
  exact ⟨rfl, rfl, rfl⟩
theorem stale_newer (G : GS) (n : Nat) (x : RowT) (z : Int) (h : G.K n = true) : stale G n x.2.1 x.2.2 = !newerB x (z, G.T n, G.S n) := by
  unfold stale newerB
  rw [h, Bool.true_and]
  simp only
  rw [show (x.2.1 == G.T n) = (G.T n == x.2.1) from Bool.beq_comm]
theorem Row.only {S : Nat → Prop} {w w' : World} {B : Nat} {A : Option Addr} {vs : List Value} (h : Row w B A vs) (ho : Only S w w') (hS : ∀ i, S i → B ≤ i) : Row w' B A vs := fun hp => by
  obtain ⟨b, o, e, hb, hc⟩ := h hp
  refine ⟨b, o, e, hb, fun i v hv => ?_⟩
  have h1 := hc i v hv
  have h2 := ho.block b (lt_of_cell h1) (fun hs => by have := hS b hs; omega)
  rw [← h1]
  simp only [World.cell?, h2]

set_option maxRecDepth 100000 in
set_option maxHeartbeats 1000000 in
theorem merge_bad (g me : Nat) (ticks last : Int) (G : GS) (V : Nat → Int) (A : Option Addr) (c B : Nat) (l : List RowT) (w : World) (h : GossipAt w g me ticks last G V) (hr : Row w B A (flat grC l)) (hB : B ≤ g) (hm : l.length ≤ maxLen) (hf : rowsFault l ≠ 0) :
    Calls Try.prog 35 #[.pointer (some ⟨g, 0, none⟩), .slice A l.length c] w fun e w' => e = .returned (.int .i64 (rowsFault l)) ∧ Only (· = g) w w' ∧ GossipAt w' g me ticks last G V := by
  have HC := Lib.hid (checkRows_any A c l w (hr.more (by have := h.lt; omega)) hm)
  have HG := Lib.hid h
  generalize rowsFault l = f at *
  have bf : (f != 0) = true := by simp [hf]
  clear h hr hf
  go_enter Try.func35, Try.ntmps35
  go_wp2_with fail
  refine HC.out.mono ?_
  rintro e w1 ⟨rfl, hb⟩
  go_wp2_with fail
  go_ret
  exact ⟨rfl, Only.of_below hb, HG.out.below hb⟩

set_option maxRecDepth 100000 in
set_option maxHeartbeats 4000000 in
theorem merge_ok (g me : Nat) (ticks last : Int) (G : GS) (V : Nat → Int) (A : Option Addr) (c B : Nat) (l : List RowT) (w : World) (h : GossipAt w g me ticks last G V) (hr : Row w B A (flat grC l)) (hB : B ≤ g) (hm : l.length ≤ maxLen) (hf : rowsFault l = 0) (hme : me ≤ 8) :
    Calls Try.prog 35 #[.pointer (some ⟨g, 0, none⟩), .slice A l.length c] w fun e w' => e = .returned (.int .i64 0) ∧ Only (· = g) w w' ∧ GossipAt w' g me ticks last (heardG me G l) (heardV me G V l) := by
  have HC := Lib.hid (checkRows_any A c l w (hr.more (by have := h.lt; omega)) hm)
  have HG := Lib.hid h
  have HR := Lib.hid hr
  rw [hf] at HC
  have hl8 : l.length ≤ 8 := by
    unfold rowsFault at hf
    split at hf
    · cases hf
    · omega
  have HOK := Lib.hid (show ∀ r ∈ l, rowBad r = false from by
    unfold rowsFault at hf
    rw [if_neg (by omega)] at hf
    exact rowsF_ok _ l hf)
  clear h hr hf hm
  go_enter Try.func35, Try.ntmps35
  go_wp2_with fail
  refine HC.out.mono ?_
  rintro e w1 ⟨rfl, hb1⟩
  have HO1 := Lib.hid (show Only (· = g) w w1 from Only.of_below hb1)
  have HG1 := Lib.hid (HG.out.below hb1)
  clear HC HG hb1
  go_wp2_with fail
  go_loopg [16] l.length (fun gk i wr => ∃ k : Nat, gk = l.length - k ∧ k ≤ l.length ∧ i = .int .i64 k ∧ Only (· = g) w wr ∧ GossipAt wr g me ticks last (heardG me G (l.take k)) (heardV me G V (l.take k)))
  case atStart => exact ⟨0, by omega, by omega, rfl, HO1.out, HG1.out⟩
  case round =>
    obtain ⟨k, hgk, hk, rfl, ho, hg⟩ := hrel
    have HK := Lib.hid hgk
    clear hgk
    by_cases hlt : k < l.length
    · obtain ⟨e1, e2, _⟩ := heard_succ me G V l k hlt
      have HE1 := Lib.hid e1
      have HE2 := Lib.hid e2
      have hbad := rowBad_false (HOK.out _ (getD_mem (0, 0, 0) hlt))
      obtain ⟨b, o, rfl, hbB, hc0, hc1, hc2⟩ := (HR.out.only ho (fun i hi => by omega)).gr hlt (0, 0, 0)
      generalize l.getD k (0, 0, 0) = x at *
      generalize heardG me G (l.take k) = G1 at *
      generalize heardV me G V (l.take k) = V1 at *
      obtain ⟨x0, x1, x2⟩ := x
      simp only at hc0 hc1 hc2 hbad
      obtain ⟨n, rfl⟩ := Int.eq_ofNat_of_zero_le (show 0 ≤ x0 by omega)
      have hn9 : n < 9 := by omega
      have hn1 : (n : Int) < 9 := by omega
      have hn0 : (0 : Int) ≤ (n : Int) := by omega
      have hx1 : 0 ≤ x1 ∧ x1 ≤ 1099511627776 := by omega
      clear e1 e2
      go_upto_region 7 with fail
      have hbA : Below wr.heap.size wr (wr.alloc (.cells #[.int .i64 (n : Int), .int .i64 x1, .int .i64 x2] 54)) := (Below.refl _ _).alloc (Nat.le_refl _) _
      have hne7 : g ≠ wr.heap.size := by have := hg.lt; omega
      have hg := hg.below hbA
      have ho := ho.below hbA
      have B7 := Box.new wr 54 #[.int .i64 (n : Int), .int .i64 x1, .int .i64 x2]
      clear hbA hc0 hc1 hc2
      generalize wr.heap.size = g7 at *
      generalize wr.alloc (.cells #[.int .i64 (n : Int), .int .i64 x1, .int .i64 x2] 54) = w2 at *
      have gn := hg.n n hn9
      have gt := hg.t n hn9
      have gs := hg.s n hn9
      have p0 := B7.cell 0
      have p1 := B7.cell 1
      have p2 := B7.cell 2
      simp only [List.getElem?_toArray, List.getElem?_cons_zero, List.getElem?_cons_succ] at p0 p1 p2
      have hzc : ∀ (a : Addr) (v : Value), w2.cell? a = some v → (w2.alloc (.cells #[.int .i64 0, .int .i64 0, .int .i64 0] 54)).cell? a = some v := fun a v h => (World.cell?_alloc_lt w2 _ a (lt_of_cell h)).trans h
      have z0 := hzc _ _ p0
      have z1 := hzc _ _ gn
      have z2 := hzc _ _ gt
      have z3 := hzc _ _ gs
      clear hzc
      go_region
      have hbA : Below w2.heap.size w2 (w2.alloc (.cells #[.int .i64 (gN G1 n), .int .i64 (G1.T n), .int .i64 (G1.S n)] 54)).drew := below_drewN ((Below.refl _ _).alloc (Nat.le_refl _) _) 1
      have hg := hg.below hbA
      have ho := ho.below hbA
      have B7 := B7.below hbA B7.lt
      have B8 := (Box.new w2 54 #[.int .i64 (gN G1 n), .int .i64 (G1.T n), .int .i64 (G1.S n)]).drew
      clear hbA gn gt gs p0 p1 p2 z0 z1 z2 z3
      generalize w2.heap.size = g8 at *
      generalize (w2.alloc (.cells #[.int .i64 (gN G1 n), .int .i64 (G1.T n), .int .i64 (G1.S n)] 54)).drew = w3 at *
      have q0 := B8.cell 0
      have q1 := B8.cell 1
      have q2 := B8.cell 2
      simp only [List.getElem?_toArray, List.getElem?_cons_zero, List.getElem?_cons_succ] at q0 q1 q2
      by_cases hK : G1.K n = true
      · have hz : gN G1 n = n := by unfold gN; rw [hK]; rfl
        have bz : ((gN G1 n) != 0) = true := by rw [hz]; simp; omega
        have HST := Lib.hid (stale_newer G1 n ((n : Int), x1, x2) (gN G1 n) hK)
        have HNW := Lib.hid (newer_any ((n : Int), x1, x2) (gN G1 n, G1.T n, G1.S n) w3)
        unfold grV at HNW
        generalize newerB ((n : Int), x1, x2) (gN G1 n, G1.T n, G1.S n) = q at *
        simp only at HST HNW
        rw [hz] at HNW
        have p0 := B7.cell 0
        have p1 := B7.cell 1
        have p2 := B7.cell 2
        simp only [List.getElem?_toArray, List.getElem?_cons_zero, List.getElem?_cons_succ] at p0 p1 p2
        go_wp2_with fail
        refine HNW.out.mono ?_
        rintro e w4 ⟨rfl, hb4⟩
        have hg := hg.below hb4
        have ho := ho.below hb4
        have B7 := B7.below hb4 B7.lt
        clear hb4 HNW p0 p1 p2 q0 q1 q2 hz hK B8
        cases q
        · have HEE := Lib.hid (show hearG me G1 ((n : Int), x1, x2) = G1 ∧ hearV me G1 V1 ((n : Int), x1, x2) = V1 by
            unfold hearG hearV
            simp only [Int.toNat_natCast, HST.out]
            exact ⟨rfl, rfl⟩)
          go_wp2_with fail
          go_roundg (l.length - (k + 1))
          case measure => have := HK.out; omega
          case rel => exact ⟨k + 1, rfl, by omega, by go_num, ho, by rw [HE1.out, HE2.out, HEE.out.1, HEE.out.2]; exact hg⟩
        · simp only [Bool.not_true] at HST
          have c0 := hg.c0
          have gn := hg.n n hn9
          have gt := hg.t n hn9
          have gs := hg.s n hn9
          have gv := hg.v n hn9
          have f0 := hg.frozen (3 + n * 3)
          have f1 := hg.frozen (3 + n * 3 + 1)
          have f2 := hg.frozen (3 + n * 3 + 2)
          have f3 := hg.frozen (30 + n)
          have p0 := B7.cell 0
          have p1 := B7.cell 1
          have p2 := B7.cell 2
          simp only [List.getElem?_toArray, List.getElem?_cons_zero, List.getElem?_cons_succ] at p0 p1 p2
          have HGG := Lib.hid hg
          have HO := Lib.hid ho
          clear hg ho B7
          have hn7 : g7 ≠ g := Ne.symm hne7
          by_cases hm : n = me
          · have bm : ((n : Int) == (me : Int)) = true := by simp [hm]
            have bm' : (n == me) = true := by simp [hm]
            by_cases hx2 : x2 = 1
            · have bx : (x2 != 1) = false := by simp [hx2]
              have HP := Lib.hid ((HGG.out.put hn9 x1 x2).time hn9 0)
              have HEE := Lib.hid (show hearG me G1 ((n : Int), x1, x2) = G1.set n x1 x2 ∧ hearV me G1 V1 ((n : Int), x1, x2) = upd V1 n 0 by
                unfold hearG hearV
                simp only [Int.toNat_natCast, HST.out, Bool.false_eq_true, if_false]
                rw [if_neg (fun h => h.2 hx2), if_neg (fun h => h.2 hx2)]
                exact ⟨rfl, rfl⟩)
              clear hm hx2
              go_wp2_with fail
              go_quiet (fail)
              go_wp2_with fail
              go_region
              go_wp2_with fail
              go_roundg (l.length - (k + 1))
              case measure => have := HK.out; omega
              case rel =>
                refine ⟨k + 1, rfl, by omega, by go_num, ?_, ?_⟩
                · have := (((HO.out.set1 (g := g) (o := 3 + n * 3) (.int .i64 n)).set1 (o := 3 + n * 3 + 1) (.int .i64 x1)).set1 (o := 3 + n * 3 + 2) (.int .i64 x2)).set1 (o := 30 + n) (.int .i64 0)
                  exact ⟨this.os, this.tape, this.output, this.size, this.block⟩
                · rw [HE1.out, HE2.out, HEE.out.1, HEE.out.2]
                  exact HP.out.same rfl
            · have bx : (x2 != 1) = true := by simp [hx2]
              have HP := Lib.hid (HGG.out.put hn9 (capT x1) 1)
              have HEE := Lib.hid (show hearG me G1 ((n : Int), x1, x2) = G1.set n (capT x1) 1 ∧ hearV me G1 V1 ((n : Int), x1, x2) = V1 by
                unfold hearG hearV
                simp only [Int.toNat_natCast, HST.out, Bool.false_eq_true, if_false]
                rw [if_pos ⟨hm, hx2⟩, if_pos ⟨hm, hx2⟩, hm]
                exact ⟨rfl, rfl⟩)
              clear hx2
              unfold capT at HP HEE
              subst hm
              by_cases hcap : x1 + 1 ≤ 1099511627776
              · rw [if_pos hcap] at HP HEE
                go_wp2_with fail
                go_quiet (fail)
                go_wp2_with fail
                go_region
                go_wp2_with fail
                go_roundg (l.length - (k + 1))
                case measure => have := HK.out; omega
                case rel =>
                  refine ⟨k + 1, rfl, by omega, by go_num, ?_, ?_⟩
                  · have := ((HO.out.set1 (g := g) (o := 3 + n * 3) (.int .i64 n)).set1 (o := 3 + n * 3 + 1) (.int .i64 (x1 + 1))).set1 (o := 3 + n * 3 + 2) (.int .i64 1)
                    exact ⟨this.os, this.tape, this.output, this.size, this.block⟩
                  · rw [HE1.out, HE2.out, HEE.out.1, HEE.out.2]
                    exact HP.out.same rfl
              · rw [if_neg hcap] at HP HEE
                go_wp2_with fail
                go_quiet (fail)
                go_wp2_with fail
                go_region
                go_wp2_with fail
                go_roundg (l.length - (k + 1))
                case measure => have := HK.out; omega
                case rel =>
                  refine ⟨k + 1, rfl, by omega, by go_num, ?_, ?_⟩
                  · have := ((HO.out.set1 (g := g) (o := 3 + n * 3) (.int .i64 n)).set1 (o := 3 + n * 3 + 1) (.int .i64 1099511627776)).set1 (o := 3 + n * 3 + 2) (.int .i64 1)
                    exact ⟨this.os, this.tape, this.output, this.size, this.block⟩
                  · rw [HE1.out, HE2.out, HEE.out.1, HEE.out.2]
                    exact HP.out.same rfl
          · have bm : ((n : Int) == (me : Int)) = false := by simp; omega
            have bm' : (n == me) = false := by simp [hm]
            have HP := Lib.hid ((HGG.out.put hn9 x1 x2).time hn9 0)
            have HEE := Lib.hid (show hearG me G1 ((n : Int), x1, x2) = G1.set n x1 x2 ∧ hearV me G1 V1 ((n : Int), x1, x2) = upd V1 n 0 by
              unfold hearG hearV
              simp only [Int.toNat_natCast, HST.out, Bool.false_eq_true, if_false]
              rw [if_neg (fun h => hm h.1), if_neg (fun h => hm h.1)]
              exact ⟨rfl, rfl⟩)
            clear hm
            go_wp2_with fail
            go_quiet (fail)
            go_wp2_with fail
            go_region
            go_wp2_with fail
            go_roundg (l.length - (k + 1))
            case measure => have := HK.out; omega
            case rel =>
              refine ⟨k + 1, rfl, by omega, by go_num, ?_, ?_⟩
              · have := (((HO.out.set1 (g := g) (o := 3 + n * 3) (.int .i64 n)).set1 (o := 3 + n * 3 + 1) (.int .i64 x1)).set1 (o := 3 + n * 3 + 2) (.int .i64 x2)).set1 (o := 30 + n) (.int .i64 0)
                exact ⟨this.os, this.tape, this.output, this.size, this.block⟩
              · rw [HE1.out, HE2.out, HEE.out.1, HEE.out.2]
                exact HP.out.same rfl
      · have bz : ((gN G1 n) != 0) = false := by unfold gN; rw [if_neg hK]; rfl
        have HST := Lib.hid (show stale G1 n x1 x2 = false by unfold stale; simp [hK])
        clear hK B8
        have c0 := hg.c0
        have gn := hg.n n hn9
        have gt := hg.t n hn9
        have gs := hg.s n hn9
        have gv := hg.v n hn9
        have f0 := hg.frozen (3 + n * 3)
        have f1 := hg.frozen (3 + n * 3 + 1)
        have f2 := hg.frozen (3 + n * 3 + 2)
        have f3 := hg.frozen (30 + n)
        have p0 := B7.cell 0
        have p1 := B7.cell 1
        have p2 := B7.cell 2
        simp only [List.getElem?_toArray, List.getElem?_cons_zero, List.getElem?_cons_succ] at p0 p1 p2
        have HGG := Lib.hid hg
        have HO := Lib.hid ho
        clear hg ho B7
        have hn7 : g7 ≠ g := Ne.symm hne7
        by_cases hm : n = me
        · have bm : ((n : Int) == (me : Int)) = true := by simp [hm]
          have bm' : (n == me) = true := by simp [hm]
          by_cases hx2 : x2 = 1
          · have bx : (x2 != 1) = false := by simp [hx2]
            have HP := Lib.hid ((HGG.out.put hn9 x1 x2).time hn9 0)
            have HEE := Lib.hid (show hearG me G1 ((n : Int), x1, x2) = G1.set n x1 x2 ∧ hearV me G1 V1 ((n : Int), x1, x2) = upd V1 n 0 by
              unfold hearG hearV
              simp only [Int.toNat_natCast, HST.out, Bool.false_eq_true, if_false]
              rw [if_neg (fun h => h.2 hx2), if_neg (fun h => h.2 hx2)]
              exact ⟨rfl, rfl⟩)
            clear hm hx2
            go_wp2_with fail
            go_quiet (fail)
            go_wp2_with fail
            go_region
            go_wp2_with fail
            go_roundg (l.length - (k + 1))
            case measure => have := HK.out; omega
            case rel =>
              refine ⟨k + 1, rfl, by omega, by go_num, ?_, ?_⟩
              · have := (((HO.out.set1 (g := g) (o := 3 + n * 3) (.int .i64 n)).set1 (o := 3 + n * 3 + 1) (.int .i64 x1)).set1 (o := 3 + n * 3 + 2) (.int .i64 x2)).set1 (o := 30 + n) (.int .i64 0)
                exact ⟨this.os, this.tape, this.output, this.size, this.block⟩
              · rw [HE1.out, HE2.out, HEE.out.1, HEE.out.2]
                exact HP.out.same rfl
          · have bx : (x2 != 1) = true := by simp [hx2]
            have HP := Lib.hid (HGG.out.put hn9 (capT x1) 1)
            have HEE := Lib.hid (show hearG me G1 ((n : Int), x1, x2) = G1.set n (capT x1) 1 ∧ hearV me G1 V1 ((n : Int), x1, x2) = V1 by
              unfold hearG hearV
              simp only [Int.toNat_natCast, HST.out, Bool.false_eq_true, if_false]
              rw [if_pos ⟨hm, hx2⟩, if_pos ⟨hm, hx2⟩, hm]
              exact ⟨rfl, rfl⟩)
            clear hx2
            unfold capT at HP HEE
            subst hm
            by_cases hcap : x1 + 1 ≤ 1099511627776
            · rw [if_pos hcap] at HP HEE
              go_wp2_with fail
              go_quiet (fail)
              go_wp2_with fail
              go_region
              go_wp2_with fail
              go_roundg (l.length - (k + 1))
              case measure => have := HK.out; omega
              case rel =>
                refine ⟨k + 1, rfl, by omega, by go_num, ?_, ?_⟩
                · have := ((HO.out.set1 (g := g) (o := 3 + n * 3) (.int .i64 n)).set1 (o := 3 + n * 3 + 1) (.int .i64 (x1 + 1))).set1 (o := 3 + n * 3 + 2) (.int .i64 1)
                  exact ⟨this.os, this.tape, this.output, this.size, this.block⟩
                · rw [HE1.out, HE2.out, HEE.out.1, HEE.out.2]
                  exact HP.out.same rfl
            · rw [if_neg hcap] at HP HEE
              go_wp2_with fail
              go_quiet (fail)
              go_wp2_with fail
              go_region
              go_wp2_with fail
              go_roundg (l.length - (k + 1))
              case measure => have := HK.out; omega
              case rel =>
                refine ⟨k + 1, rfl, by omega, by go_num, ?_, ?_⟩
                · have := ((HO.out.set1 (g := g) (o := 3 + n * 3) (.int .i64 n)).set1 (o := 3 + n * 3 + 1) (.int .i64 1099511627776)).set1 (o := 3 + n * 3 + 2) (.int .i64 1)
                  exact ⟨this.os, this.tape, this.output, this.size, this.block⟩
                · rw [HE1.out, HE2.out, HEE.out.1, HEE.out.2]
                  exact HP.out.same rfl
        · have bm : ((n : Int) == (me : Int)) = false := by simp; omega
          have bm' : (n == me) = false := by simp [hm]
          have HP := Lib.hid ((HGG.out.put hn9 x1 x2).time hn9 0)
          have HEE := Lib.hid (show hearG me G1 ((n : Int), x1, x2) = G1.set n x1 x2 ∧ hearV me G1 V1 ((n : Int), x1, x2) = upd V1 n 0 by
            unfold hearG hearV
            simp only [Int.toNat_natCast, HST.out, Bool.false_eq_true, if_false]
            rw [if_neg (fun h => hm h.1), if_neg (fun h => hm h.1)]
            exact ⟨rfl, rfl⟩)
          clear hm
          go_wp2_with fail
          go_quiet (fail)
          go_wp2_with fail
          go_region
          go_wp2_with fail
          go_roundg (l.length - (k + 1))
          case measure => have := HK.out; omega
          case rel =>
            refine ⟨k + 1, rfl, by omega, by go_num, ?_, ?_⟩
            · have := (((HO.out.set1 (g := g) (o := 3 + n * 3) (.int .i64 n)).set1 (o := 3 + n * 3 + 1) (.int .i64 x1)).set1 (o := 3 + n * 3 + 2) (.int .i64 x2)).set1 (o := 30 + n) (.int .i64 0)
              exact ⟨this.os, this.tape, this.output, this.size, this.block⟩
            · rw [HE1.out, HE2.out, HEE.out.1, HEE.out.2]
              exact HP.out.same rfl
    · obtain rfl : k = l.length := by omega
      rw [List.take_length] at hg
      go_wp2_with fail
      go_ret
      exact ⟨rfl, ho, hg⟩
end Go.Proofs.Ytaecgapoaagjfaa
