/-
  FencePlays: every sequence of calls of a lease has the specified results. For every input, no condition.
-/
import Derived.Test.YtjblfkoepedhpaaTaken
import Derived.Test.YtjblfkoepedhpaaStore
import Derived.Test.YtjblfkoepedhpaaOpen
import Derived.Deep.DeepCutAuto
import Derived.Deep.CutBlock
import Derived.Deep.RegionHeld3
namespace Go.Proofs.Ytjblfkoepedhpaa
open Go.ChangeShapes Go.WideShapes Go.ChangeAt Go.RowKit

/-- The reference's lease, with or without a term. -/
def Ref (w : World) (base gm : Nat) (now : Int) (n : Nat) (nd till : Int) : Prop :=
  (n = 0 ∧ nd = 0 ∧ Box w gm 45 #[.int .i64 now, .slice none 0 0]) ∨ ∃ b cap, 0 < n ∧ Mod w base gm now b cap n nd till

/-- Lease and reference go together. -/
def Both (W : World) (g gm : Nat) (k : Nat) (now : Int) (n : Nat) (nd en : Int) (w : World) : Prop :=
  Ls w g now n nd en ∧ Ref w W.heap.size gm now n nd en ∧ Below W.heap.size W w ∧ 0 ≤ now ∧ now ≤ 1099511627776 ∧ n ≤ k ∧ 0 ≤ nd ∧ nd ≤ 8 ∧ 0 ≤ en ∧ en ≤ 1099511628776

theorem Both.drewN {W : World} {g gm k : Nat} {now : Int} {n : Nat} {nd en : Int} {w : World} (h : Both W g gm k now n nd en w) (m : Nat) : Both W g gm k now n nd en (w.drewN m) := by
  obtain ⟨h1, h2, h3, h4⟩ := h
  exact ⟨h1, h2, below_drewN h3 m, h4⟩

theorem Ref.keep {w w' : World} {base gm g : Nat} {now now' : Int} {n : Nat} {nd till e' n' en' : Int} (h : Ref w base gm now n nd till) (hl : Ls w g now' e' n' en') (hs : Sole g w w') : Ref w' base gm now n nd till := by
  rcases h with ⟨h1, h2, h3⟩ | ⟨b, cap, hn, cs, h1, h2, h3, h4, h5⟩
  · exact .inl ⟨h1, h2, hs.box h3 (by
      rintro rfl
      unfold Ls Box at hl; unfold Box at h3
      rw [h3] at hl; injection hl with hl; injection hl with _ ht; cases ht)⟩
  · refine .inr ⟨b, cap, hn, cs, hs.box h1 (by
      rintro rfl
      unfold Ls Box at hl; unfold Box at h1
      rw [h1] at hl; injection hl with hl; injection hl with _ ht; cases ht), h2.kept hs (.inr ?_), h3, h4, h5⟩
    intro he
    have e : b = g := by simpa [Value.ownBlock] using he
    subst e
    rcases h2.2 with ⟨h, _⟩ | ⟨g', cap', cur, hv, _, hh, _⟩
    · cases h
    · cases hv
      unfold Ls Box at hl
      rw [hh] at hl; injection hl with hl; injection hl with _ ht; cases ht
theorem Ref.gm_ne {w : World} {base gm g : Nat} {now now' : Int} {n : Nat} {nd till e' n' en' : Int} (h : Ref w base gm now n nd till) (hl : Ls w g now' e' n' en') : g ≠ gm := by
  rintro rfl
  rcases h with ⟨_, _, h3⟩ | ⟨b, cap, hn, cs, h3, _⟩
  all_goals
    unfold Ls Box at hl; unfold Box at h3
    rw [h3] at hl; injection hl with hl; injection hl with _ ht; cases ht
/-- the reference's time -/
theorem Ref.cells {w : World} {base gm : Nat} {now : Int} {n : Nat} {nd till : Int} (h : Ref w base gm now n nd till) :
    w.cell? ⟨gm, 0, none⟩ = some (.int .i64 now) ∧ w.frozen? ⟨gm, 0, none⟩ = false ∧ w.frozen? ⟨gm, 1, none⟩ = false ∧ ∃ A c, w.cell? ⟨gm, 1, none⟩ = some (.slice A n c) := by
  rcases h with ⟨rfl, _, h3⟩ | ⟨b, cap, hn, cs, h3, _⟩
  · exact ⟨by simpa using h3.cell 0, h3.frozen 0, h3.frozen 1, _, _, by simpa using h3.cell 1⟩
  · exact ⟨by simpa using h3.cell 0, h3.frozen 0, h3.frozen 1, _, _, by simpa using h3.cell 1⟩
theorem Ref.setNow {w : World} {base gm : Nat} {now : Int} {n : Nat} {nd till : Int} (h : Ref w base gm now n nd till) (now' : Int) : Ref (w.setCell ⟨gm, 0, none⟩ (.int .i64 now')) base gm now' n nd till := by
  rcases h with ⟨h1, h2, h3⟩ | ⟨b, cap, hn, cs, h3, h4, h5⟩
  · exact .inl ⟨h1, h2, h3.set 0 _⟩
  · refine .inr ⟨b, cap, hn, cs, h3.set 0 _, h4.kept (row := some gm) ((Sole.refl gm w).own 0 _) (.inr ?_), h5⟩
    intro he
    have e : b = gm := by simpa [Value.ownBlock] using he
    subst e
    rcases h4.2 with ⟨h, _⟩ | ⟨g', cap', cur, hv, _, hh, _⟩
    · cases h
    · cases hv
      unfold Box at h3
      rw [hh] at h3; injection h3 with h3; injection h3 with _ ht; cases ht
theorem term_info : (Try.prog.info? 47).map (fun i => (i.zero, i.size, i.bytes)) = some (some (.agg #[.int .i64 0, .int .i64 0]), 2, 16) := by kernel_rfl
theorem had_ref {w : World} {base gm : Nat} {now : Int} {n : Nat} {nd till : Int} (h : Ref w base gm now n nd till) (h0 : 0 ≤ nd) :
    Calls Try.prog 31 #[.pointer (some ⟨gm, 0, none⟩)] w fun e w' => e = .returned (.bool (heldB now nd till)) ∧ ∃ k, w' = w.drewN k := by
  rcases h with ⟨_, rfl, hbox⟩ | ⟨b', cap', hn, hmod⟩
  · have := had_none _ _ _ hbox
    rwa [show heldB now 0 till = false by simp [heldB]]
  · have := had_any _ _ _ _ _ _ _ _ _ hmod hn
    rwa [show (decide (0 < nd) && decide (now < till)) = heldB now nd till by
      unfold heldB
      rw [show decide (0 < nd) = (nd != 0) by rw [Bool.eq_iff_iff]; simp; omega]] at this
theorem Ref.drewN {w : World} {base gm : Nat} {now : Int} {n : Nat} {nd till : Int} (h : Ref w base gm now n nd till) (k : Nat) : Ref (w.drewN k) base gm now n nd till := h
theorem held_pos {w : World} {base gm : Nat} {now : Int} {n : Nat} {nd till : Int} (h : Ref w base gm now n nd till) (hh : heldB now nd till = true) : ∃ b cap, 0 < n ∧ Mod w base gm now b cap n nd till := by
  rcases h with ⟨_, rfl, _⟩ | h
  · simp [heldB] at hh
  · exact h
/-- a term appended and stored -/
theorem ref_push {w w1 : World} {base gm : Nat} {now a till : Int} {n : Nat} {v : Value} {cs : List Value} {g2 cap2 : Nat} {x : Value} (hbox : Box w1 gm 45 #[.int .i64 now, x])
    (hown : w1.ownsRow base 47 2 (.slice (some ⟨g2, 0, none⟩) (n + 1) cap2) (n + 1) (cs ++ [.int .i64 a, .int .i64 till])) (hcs : cs.length = n * 2) (_h : w.ownsRow base 47 2 v n cs) :
    Ref (w1.setCell ⟨gm, 1, none⟩ (.slice (some ⟨g2, 0, none⟩) (n + 1) cap2)) base gm now (n + 1) a till := by
  refine .inr ⟨g2, cap2, by omega, cs ++ [.int .i64 a, .int .i64 till], hbox.set 1 _, hown.kept (row := some gm) ((Sole.refl gm w1).own 1 _) (.inr (own_ne_box hown hbox (by decide))), by omega, ?_, ?_⟩
  · rw [Nat.add_sub_cancel, ← hcs, List.getElem?_append_right (by omega)]; simp
  · rw [Nat.add_sub_cancel, ← hcs, List.getElem?_append_right (by omega)]; simp

theorem fp_take_end {W w5 w6 : World} {g gm k n : Nat} {now a bb : Int} {x : Value} {cs : List Value} {A5 : Option Addr} {c5 g6 cap6 : Nat} {oo : Obj} (hl5 : Ls w5 g now (n + 1) a (now + bb)) (h35 : Below W.heap.size W w5) (hgm : W.heap.size ≤ gm) (hne : g ≠ gm)
    (hown5 : w5.ownsRow W.heap.size 47 2 (.slice A5 n c5) n cs) (hg6 : ((w5.alloc oo).drew).grownBy w6 (Value.slice A5 n c5).ownBlock) (hbx6 : Box w6 gm 45 #[.int .i64 now, x])
    (hown6 : w6.ownsRow W.heap.size 47 2 (.slice (some ⟨g6, 0, none⟩) (n + 1) cap6) (n + 1) (cs ++ [.int .i64 a, .int .i64 (now + bb)]))
    (h1 : 0 ≤ now) (h2 : now ≤ 1099511627776) (h3 : n ≤ k) (h4 : 1 ≤ a) (h5 : a ≤ 8) (h6 : 1 ≤ bb) (h7 : bb ≤ 1000) :
    Both W g gm (k + 1) now (n + 1) a (now + bb) (w6.setCell ⟨gm, 1, none⟩ (.slice (some ⟨g6, 0, none⟩) (n + 1) cap6)) := by
  have hlg : Box w6 g 142 #[.int .i64 now, .int .i64 (n + 1), .int .i64 a, .int .i64 (now + bb)] := ((Box.alloc hl5 oo).drew).grown hg6 (Ne.symm (own_ne_box hown5 hl5 (by decide)))
  refine ⟨Box.far (p := ⟨gm, 1, none⟩) hlg hne _, ref_push hbx6 hown6 hown5.1 hown5, ?_, h1, h2, by omega, by omega, h5, by omega, by omega⟩
  exact (((h35.alloc h35.size oo).drew).grown hg6 (Nat.le_trans h35.size (by simp)) (fun q hq => (hown5.lt q hq).1)).setCell (p := ⟨gm, 1, none⟩) hgm _

theorem Mod.setTill {w : World} {base gm : Nat} {now : Int} {b cap n : Nat} {nd till : Int} (h : Mod w base gm now b cap n nd till) (t' : Int) : Mod (w.setCell ⟨b, (n - 1) * 2 + 1, none⟩ (.int .i64 t')) base gm now b cap n nd t' := by
  obtain ⟨cs, h1, h2, h3, h4, h5⟩ := h
  have hlen : cs.length = n * 2 := h2.1
  have hst := h2.stored ((n - 1) * 2 + 1) (.int .i64 t')
  refine ⟨_, Box.far (p := ⟨b, (n - 1) * 2 + 1, none⟩) h1 ?_ _, hst.1, h3, ?_, ?_⟩
  · rintro rfl
    exact own_ne_box h2 h1 (by decide) rfl
  · rw [List.getElem?_set_ne (by omega)]; exact h4
  · rw [List.getElem?_set_self (by omega)]
theorem Mod.setNode {w : World} {base gm : Nat} {now : Int} {b cap n : Nat} {nd till : Int} (h : Mod w base gm now b cap n nd till) (t' : Int) : Mod (w.setCell ⟨b, (n - 1) * 2, none⟩ (.int .i64 t')) base gm now b cap n t' till := by
  obtain ⟨cs, h1, h2, h3, h4, h5⟩ := h
  have hlen : cs.length = n * 2 := h2.1
  have hst := h2.stored ((n - 1) * 2) (.int .i64 t')
  refine ⟨_, Box.far (p := ⟨b, (n - 1) * 2, none⟩) h1 ?_ _, hst.1, h3, ?_, ?_⟩
  · rintro rfl
    exact own_ne_box h2 h1 (by decide) rfl
  · rw [List.getElem?_set_self (by omega)]
  · rw [List.getElem?_set_ne (by omega)]; exact h5
theorem Mod.base_le {w : World} {base gm : Nat} {now : Int} {b cap n : Nat} {nd till : Int} (h : Mod w base gm now b cap n nd till) : base ≤ b := by
  obtain ⟨cs, h1, h2, h3, h4, h5⟩ := h
  exact (h2.lt b rfl).1
theorem Mod.ne_ls {w : World} {base gm g : Nat} {now : Int} {b cap n : Nat} {nd till x1 x2 x3 x4 : Int} (h : Mod w base gm now b cap n nd till) (hl : Ls w g x1 x2 x3 x4) : g ≠ b := by
  obtain ⟨cs, h1, h2, h3, h4, h5⟩ := h
  rintro rfl
  exact own_ne_box h2 hl (by decide) rfl

theorem owns_zero (n a b : Int) : ownsB 0 n a b = false := by simp [ownsB]

set_option maxRecDepth 100000 in
set_option maxHeartbeats 20000000 in
theorem fencePlays_walk (A : Option Addr) (c : Nat) (xss : List (List Int)) (W : World) (h : IntRows W W.heap.size A xss) (hm : xss.length * 24 ≤ 140737488351232) :
    Calls Try.prog 6 #[.slice A xss.length c] W fun e w' => e = .returned (.bool true) ∧ Below W.heap.size W w' := by
  go_enter Try.func6, Try.ntmps6
  go_wp2_with fail
  refine (newLease_any _).mono ?_
  rintro e w' ⟨rfl, rfl⟩
  have l0 : Ls (W.alloc (.cells #[.int .i64 0, .int .i64 0, .int .i64 0, .int .i64 0] 142)) W.heap.size 0 0 0 0 := Box.new _ _ _
  have b0 : Below W.heap.size W (W.alloc (.cells #[.int .i64 0, .int .i64 0, .int .i64 0, .int .i64 0] 142)) := (Below.refl _ _).alloc (Nat.le_refl _) _
  generalize W.alloc (.cells #[.int .i64 0, .int .i64 0, .int .i64 0, .int .i64 0] 142) = w0 at *
  go_wp2_with fail
  refine (leave_no _ _ _ _ _ _ _ _ l0 (by decide)).mono ?_
  rintro e w' ⟨rfl, rfl⟩
  go_wp2_with fail
  refine (take_ok _ _ _ _ _ _ _ _ l0 (by omega) (by omega) (by omega) (by omega) (by decide) (by omega) (by omega) (by omega) (by omega)).mono ?_
  rintro e w1 ⟨rfl, _, o1⟩
  have b1 := o1.below b0 b0.size (Nat.le_refl _)
  clear o1 l0 b0
  go_wp2_with fail
  refine (newLease_any _).mono ?_
  rintro e w' ⟨rfl, rfl⟩
  have l2 : Ls (w1.alloc (.cells #[.int .i64 0, .int .i64 0, .int .i64 0, .int .i64 0] 142)) w1.heap.size 0 0 0 0 := Box.new _ _ _
  have b2 : Below W.heap.size W (w1.alloc (.cells #[.int .i64 0, .int .i64 0, .int .i64 0, .int .i64 0] 142)) := b1.alloc b1.size _
  have hg : W.heap.size ≤ w1.heap.size := b1.size
  have hlt2 := l2.lt
  generalize w1.alloc (.cells #[.int .i64 0, .int .i64 0, .int .i64 0, .int .i64 0] 142) = w2 at *
  generalize w1.heap.size = g at *
  clear b1
  go_wp2_with fail
  have hB0 : Both W g w2.heap.size 0 0 0 0 0 (w2.alloc (.cells #[.int .i64 0, .slice none 0 0] 45)) :=
    ⟨Box.alloc l2 _, .inl ⟨rfl, rfl, Box.new _ _ _⟩, b2.alloc b2.size _, by omega, by omega, by omega, by omega, by omega, by omega, by omega⟩
  have hgm : W.heap.size ≤ w2.heap.size := b2.size
  generalize w2.alloc (.cells #[.int .i64 0, .slice none 0 0] 45) = w3 at *
  generalize w2.heap.size = gm at *
  clear l2 b2
  go_loopw [44] (fun i wr => ∃ (k n : Nat) (now nd en : Int), k ≤ xss.length ∧ i = .int .i64 k ∧ Both W g gm k now n nd en wr) (fun i _ => xss.length - (intOf i).toNat)
  case atStart => exact ⟨0, 0, 0, 0, 0, Nat.zero_le _, rfl, hB0⟩
  case round =>
    obtain ⟨k, n, now, nd, en, hk, rfl, hB⟩ := hrel
    by_cases hlt : k < xss.length
    · have hb := hB.2.2.1
      obtain ⟨b, o, a', c', rfl, hcellW, hrowW, hlen, hI⟩ := h.at hlt
      have hcell := (hb.cell (p := ⟨b, o + k, none⟩) (lt_of_cell hcellW)).trans hcellW
      have hrow := hrowW.below hb
      clear hcellW
      have i0 := I64.getD hI 0
      have i1 := I64.getD hI 1
      have i2 := I64.getD hI 2
      have i3 := I64.getD hI 3
      generalize xss.getD k [] = xs at *
      go_wp2_with fail
      refine (at_any _ _ _ _ _ _ _ hrow rfl hlen (by omega)).mono ?_
      rintro e w' ⟨rfl, rfl⟩
      rw [show Int.toNat 1 = 1 from rfl]
      generalize xs.getD 1 0 = a at *
      go_wp2_with fail
      refine (at_any _ _ _ _ _ _ _ hrow rfl hlen (by omega)).mono ?_
      rintro e w' ⟨rfl, rfl⟩
      rw [show Int.toNat 2 = 2 from rfl]
      generalize xs.getD 2 0 = bb at *
      go_wp2_with fail
      refine (at_any _ _ _ _ _ _ _ hrow rfl hlen (by omega)).mono ?_
      rintro e w' ⟨rfl, rfl⟩
      rw [show Int.toNat 3 = 3 from rfl]
      generalize xs.getD 3 0 = d at *
      go_upto_region 14 with fail
      go_cut [15] (fun s wx => s = .bool (ownsB nd n a bb) ∧ Both W g gm k now n nd en wx)
      case first =>
        obtain ⟨h1, h2, h3, h4, h5, h6, h7, h8, h9, h10⟩ := hB
        have HB := Lib.hid (show Both W g gm k now n nd en wr from ⟨h1, h2, h3, h4, h5, h6, h7, h8, h9, h10⟩)
        clear hB0
        rcases h2 with ⟨rfl, rfl, hbox⟩ | ⟨b', cap', hn, hmod⟩
        · as_aux_lemma =>
            have c1 : wr.cell? ⟨gm, 1, none⟩ = some (.slice none 0 0) := by simpa using hbox.cell 1
            go_wp2_with fail
            go_meet
            exact ⟨by rw [owns_zero], HB.out⟩
        · have c1 := hmod.c1
          have t0 := hmod.t0
          have d0 : decide ((0 : Int) < (n : Int)) = true := by simp; omega
          have d0' : decide (0 < n) = true := by simp; omega
          by_cases ha : 0 < a
          · have d1 : decide (0 < a) = true := by simp; omega
            by_cases he : nd = a
            · as_aux_lemma =>
                have d2 : (nd == a) = true := by simp [he]
                have HO := Lib.hid (show ownsB nd n a bb = (bb == (n : Int)) by
                  have : (nd != 0) = true := by simp; omega
                  rw [ownsB, this, d2, Bool.true_and, Bool.true_and]
                  exact BEq.comm)
                clear he
                go_wp2_with fail
                refine (last_any _ _ _ _ _ _ _ _ _ hmod hn).mono ?_
                rintro e w' ⟨rfl, kq, rfl⟩
                go_wp2_with fail
                go_meet
                exact ⟨by rw [HO.out], HB.out.drewN kq⟩
            · as_aux_lemma =>
                have d2 : (nd == a) = false := by simp [he]
                have HO := Lib.hid (show ownsB nd n a bb = false by rw [ownsB, d2]; simp)
                clear he
                go_wp2_with fail
                refine (last_any _ _ _ _ _ _ _ _ _ hmod hn).mono ?_
                rintro e w' ⟨rfl, kq, rfl⟩
                go_wp2_with fail
                go_meet
                exact ⟨by rw [HO.out], HB.out.drewN kq⟩
          · as_aux_lemma =>
              have d1 : decide (0 < a) = false := by simp; omega
              have HO := Lib.hid (show ownsB nd n a bb = false by
                simp only [ownsB, Bool.and_eq_false_iff, bne_eq_false_iff_eq, beq_eq_false_iff_ne]
                omega)
              go_wp2_with fail
              go_meet
              exact ⟨by rw [HO.out], HB.out⟩
      case rest =>
        obtain ⟨rfl, hB⟩ := hcut
        obtain ⟨wx, rfl⟩ : ∃ wx : World, wx = wc := ⟨_, rfl⟩
        have hrow2 := hrowW.below hB.2.2.1
        generalize hO : ownsB nd n a bb = L at *
        have HO := Lib.hid hO
        clear hO
        go_wp2_with fail
        refine (at_any _ _ _ _ _ _ _ hrow2 rfl hlen (by omega)).mono ?_
        rintro e w' ⟨rfl, rfl⟩
        rw [show Int.toNat 0 = 0 from rfl]
        generalize xs.getD 0 0 = kd at *
        go_upto_block 2 with fail
        go_cut [13, 14] (fun e q wy => ∃ (E : Int) (n' : Nat) (now' nd' en' : Int), e = .int .i64 E ∧ q = .int .i64 E ∧ Both W g gm (k + 1) now' n' nd' en' wy)
        case first =>
          obtain ⟨h1, h2, h3, h4, h5, h6, h7, h8, h9, h10⟩ := hB
          have hne := h2.gm_ne h1
          have hup : ∀ wy, Both W g gm k now n nd en wy → Both W g gm (k + 1) now n nd en wy := fun wy hh => ⟨hh.1, hh.2.1, hh.2.2.1, h4, h5, by omega, h7, h8, h9, h10⟩
          have HB := Lib.hid (show Both W g gm (k + 1) now n nd en wx from hup _ ⟨h1, h2, h3, h4, h5, h6, h7, h8, h9, h10⟩)
          have HU := Lib.hid hup
          clear hB0 hup
          by_cases k1 : kd = 1
          · have b1 : (kd == 1) = true := by simp [k1]
            clear k1
            by_cases t1 : a < 0
            · as_aux_lemma =>
                have d1 : decide (a < 0) = true := by simp; omega
                go_wp2_with fail
                refine (tick_bad _ _ _ (.inl t1)).mono ?_
                rintro e w' ⟨rfl, rfl⟩
                go_wp2_with fail
                go_meet
                exact ⟨1, n, now, nd, en, rfl, rfl, HB.out⟩
            have d1 : decide (a < 0) = false := by simp; omega
            by_cases t2 : 1000 < a
            · as_aux_lemma =>
                have d2 : decide (1000 < a) = true := by simp; omega
                go_wp2_with fail
                refine (tick_bad _ _ _ (.inr t2)).mono ?_
                rintro e w' ⟨rfl, rfl⟩
                go_wp2_with fail
                go_meet
                exact ⟨1, n, now, nd, en, rfl, rfl, HB.out⟩
            have d2 : decide (1000 < a) = false := by simp; omega
            obtain ⟨x0, f0, f1, A1, C1, x1⟩ := h2.cells
            by_cases t3 : 1099511627776 < now + a
            · as_aux_lemma =>
              go_wp2_with fail
              refine (tick_late _ _ _ _ _ _ _ h1 (by omega) (by omega) h4 h5 t3).mono ?_
              rintro e w' ⟨rfl, rfl⟩
              go_wp2_with fail
              go_meet
              exact ⟨2, n, now, nd, en, rfl, rfl, HB.out⟩
            · as_aux_lemma =>
              go_wp2_with fail
              refine (tick_ok _ _ _ _ _ _ _ h1 (by omega) (by omega) h4 (by omega)).mono ?_
              rintro e w' ⟨rfl, hl', hs'⟩
              have h2' := h2.keep h1 hs'
              obtain ⟨x0', f0', f1', A1', C1', x1'⟩ := h2'.cells
              have hend : Both W g gm (k + 1) (now + a) n nd en (w'.setCell ⟨gm, 0, none⟩ (.int .i64 (now + a))) :=
                ⟨Box.far hl' (p := ⟨gm, 0, none⟩) hne _, h2'.setNow _, (hs'.below h3 h3.size hg).setCell (p := ⟨gm, 0, none⟩) hgm _, by omega, by omega, by omega, h7, h8, h9, h10⟩
              have HE := Lib.hid hend
              clear hend hl' hs' h2'
              go_wp2_with fail
              go_meet
              exact ⟨0, n, now + a, nd, en, rfl, rfl, HE.out⟩
          have b1 : (kd == 1) = false := by simp [k1]
          by_cases k2 : kd = 2
          · have b2 : (kd == 2) = true := by simp [k2]
            clear k1 k2
            by_cases t1 : a < 1
            · as_aux_lemma =>
                have d1 : decide (a < 1) = true := by simp; omega
                go_wp2_with fail
                refine (take_bad _ _ _ _ (.inl t1)).mono ?_
                rintro e w' ⟨rfl, rfl⟩
                go_wp2_with fail
                go_meet
                exact ⟨1, n, now, nd, en, rfl, rfl, HB.out⟩
            have d1 : decide (a < 1) = false := by simp; omega
            by_cases t2 : 8 < a
            · as_aux_lemma =>
                have d2 : decide (8 < a) = true := by simp; omega
                go_wp2_with fail
                refine (take_bad _ _ _ _ (.inr (.inl t2))).mono ?_
                rintro e w' ⟨rfl, rfl⟩
                go_wp2_with fail
                go_meet
                exact ⟨1, n, now, nd, en, rfl, rfl, HB.out⟩
            have d2 : decide (8 < a) = false := by simp; omega
            by_cases t3 : bb < 1
            · as_aux_lemma =>
                have d3 : decide (bb < 1) = true := by simp; omega
                go_wp2_with fail
                refine (take_bad _ _ _ _ (.inr (.inr (.inl t3)))).mono ?_
                rintro e w' ⟨rfl, rfl⟩
                go_wp2_with fail
                go_meet
                exact ⟨1, n, now, nd, en, rfl, rfl, HB.out⟩
            have d3 : decide (bb < 1) = false := by simp; omega
            by_cases t4 : 1000 < bb
            · as_aux_lemma =>
                have d4 : decide (1000 < bb) = true := by simp; omega
                go_wp2_with fail
                refine (take_bad _ _ _ _ (.inr (.inr (.inr t4)))).mono ?_
                rintro e w' ⟨rfl, rfl⟩
                go_wp2_with fail
                go_meet
                exact ⟨1, n, now, nd, en, rfl, rfl, HB.out⟩
            have d4 : decide (1000 < bb) = false := by simp; omega
            by_cases t5 : heldB now nd en = true
            · as_aux_lemma =>
                have HD := Lib.hid t5
                clear t5
                go_wp2_with fail
                refine (take_there _ _ _ _ _ _ _ _ h1 (by omega) (by omega) (by omega) (by omega) HD.out).mono ?_
                rintro e w' ⟨rfl, kq, rfl⟩
                go_wp2_with fail
                refine (had_ref (h2.drewN kq) h7).mono ?_
                rintro e w' ⟨rfl, kr, rfl⟩
                rw [HD.out]
                go_wp2_with fail
                go_meet
                exact ⟨5, n, now, nd, en, rfl, rfl, HB.out.drewN (kq + kr)⟩
            · have HD := Lib.hid (show heldB now nd en = false by simpa using t5)
              clear t5
              go_wp2_with fail
              refine (take_ok _ _ _ _ _ _ _ _ h1 (by omega) (by omega) (by omega) (by omega) HD.out (by omega) (by omega) (by omega) (by omega)).mono ?_
              rintro e w4 ⟨rfl, hl4, hs4⟩
              have h24 := h2.keep h1 hs4
              have h34 := hs4.below h3 h3.size hg
              go_wp2_with fail
              refine (had_ref h24 h7).mono ?_
              rintro e w' ⟨rfl, kr, rfl⟩
              rw [HD.out]
              have h25 := h24.drewN kr
              have hl5 : Ls (w4.drewN kr) g now (n + 1) a (now + bb) := Box.drewN hl4 kr
              have h35 := below_drewN h34 kr
              generalize w4.drewN kr = w5 at *
              clear h24 h34 hl4 hs4
              obtain ⟨i0, hi0, hz0, hz1, hz2⟩ := info_parts term_info
              have hrow5 : ∃ (v : Value) (cs : List Value) (A5 : Option Addr) (c5 : Nat), v = .slice A5 n c5 ∧ Box w5 gm 45 #[.int .i64 now, v] ∧ w5.ownsRow W.heap.size 47 2 v n cs := by
                rcases h25 with ⟨rfl, _, hbox⟩ | ⟨b', cap', hn, cs, hbox, hown, _⟩
                · exact ⟨_, [], none, 0, rfl, hbox, World.ownsRow_nil _ _ _ _⟩
                · exact ⟨_, cs, _, _, rfl, hbox, hown⟩
              obtain ⟨v, cs, A5, c5, rfl, hbox5, hown5⟩ := hrow5
              have x0 : w5.cell? ⟨gm, 0, none⟩ = some (.int .i64 now) := by simpa using hbox5.cell 0
              have x1 : w5.cell? ⟨gm, 1, none⟩ = some (.slice A5 n c5) := by simpa using hbox5.cell 1
              have hwrap : IntKind.i64.wrap (now + bb) = now + bb := IntWalk.i64_in _ (by omega)
              have hsz5 : W.heap.size ≤ w5.heap.size := h35.size
              have x0' : ∀ oo, (w5.alloc oo).cell? ⟨gm, 0, none⟩ = some (.int .i64 now) := fun oo => (World.cell?_alloc_lt w5 oo ⟨gm, 0, none⟩ hbox5.lt).trans x0
              have x1' : ∀ oo, (w5.alloc oo).cell? ⟨gm, 1, none⟩ = some (.slice A5 n c5) := fun oo => (World.cell?_alloc_lt w5 oo ⟨gm, 1, none⟩ hbox5.lt).trans x1
              go_wp2_with fail
              go_region_law ((refine step_append_own rfl (.tmp 125) (.tmp 134) 43 rfl W.heap.size 47 i0 _ 2 16 Try.underlying43 hi0 hz0 hz1 hz2 rfl (by decide) (.slice A5 n c5) n cs rfl (by exact (hown5.alloc _).drew) ⟨w5.heap.size, 0, none⟩ 1 1 [.int .i64 a, .int .i64 (now + bb)] rfl rfl (by exact cells_new2 w5 _ _ _) (one_ints _ _) (by unfold maxLen; omega) (by omega) (by simp; omega) ?_; intro v6 w6 hown6 hg6 _; obtain ⟨g6, cap6, rfl⟩ := own_form hown6 (by omega); have hbx6 : Box w6 gm 45 #[.int .i64 now, .slice A5 n c5] := ((hbox5.alloc _).drew).grown hg6 (Ne.symm (own_ne_box hown5 hbox5 (by decide))); have y1 : w6.cell? ⟨gm, 1, none⟩ = some (.slice A5 n c5) := (by simpa using hbx6.cell 1); have y2 : w6.frozen? ⟨gm, 1, none⟩ = false := hbx6.frozen 1))
              all_goals
                have HE := Lib.hid (fp_take_end (k := k) hl5 h35 hgm hne hown5 hg6 hbx6 hown6 h4 h5 h6 (by omega) (by omega) (by omega) (by omega))
                have z1 : (w6.setCell ⟨gm, 1, none⟩ (.slice (some ⟨g6, 0, none⟩) (n + 1) cap6)).cell? ⟨gm, 1, none⟩ = some (.slice (some ⟨g6, 0, none⟩) (n + 1) cap6) := by simpa using (hbx6.set 1 (.slice (some ⟨g6, 0, none⟩) (n + 1) cap6)).cell 1
                clear x0' x1' hown6 hg6 hbx6
                go_wp2_with fail
                go_meet
                exact ⟨0, n + 1, now, a, now + bb, rfl, rfl, HE.out⟩
          have b2 : (kd == 2) = false := by simp [k2]
          by_cases k3 : kd = 3
          · have b3 : (kd == 3) = true := by simp [k3]
            clear k1 k2 k3
            by_cases t1 : d < 1
            · as_aux_lemma =>
                have d1 : decide (d < 1) = true := by simp; omega
                go_wp2_with fail
                refine (keep_bad _ _ _ _ _ (.inl t1)).mono ?_
                rintro e w' ⟨rfl, rfl⟩
                go_wp2_with fail
                go_meet
                exact ⟨1, n, now, nd, en, rfl, rfl, HB.out⟩
            have d1 : decide (d < 1) = false := by simp; omega
            by_cases t2 : 1000 < d
            · as_aux_lemma =>
                have d2 : decide (1000 < d) = true := by simp; omega
                go_wp2_with fail
                refine (keep_bad _ _ _ _ _ (.inr t2)).mono ?_
                rintro e w' ⟨rfl, rfl⟩
                go_wp2_with fail
                go_meet
                exact ⟨1, n, now, nd, en, rfl, rfl, HB.out⟩
            have d2 : decide (1000 < d) = false := by simp; omega
            cases L
            · as_aux_lemma =>
              go_wp2_with fail
              refine (keep_none _ _ _ _ _ _ _ _ _ h1 (by omega) (by omega) HO.out).mono ?_
              rintro e w' ⟨rfl, rfl⟩
              go_wp2_with fail
              go_meet
              exact ⟨4, n, now, nd, en, rfl, rfl, HB.out⟩
            · have HN := Lib.hid (show nd ≠ 0 by
                have := HO.out
                simp only [ownsB, Bool.and_eq_true, bne_iff_ne, ne_eq] at this
                exact this.1)
              rcases h2 with ⟨_, hz, _⟩ | ⟨b', cap', hn, hmod⟩
              · exact absurd hz HN.out
              have HM := Lib.hid hmod
              by_cases t3 : heldB now nd en = true
              · have HD := Lib.hid t3
                clear t3
                go_wp2_with fail
                refine (keep_ok _ _ _ _ _ _ _ _ _ h1 (by omega) (by omega) HO.out HD.out h4 h5).mono ?_
                rintro e w4 ⟨rfl, hl4, hs4⟩
                have h24 := Ref.keep (.inr ⟨b', cap', hn, HM.out⟩) h1 hs4
                have h34 := hs4.below h3 h3.size hg
                go_wp2_with fail
                refine (had_ref h24 h7).mono ?_
                rintro e w' ⟨rfl, kr, rfl⟩
                rw [HD.out]
                have hl5 : Ls (w4.drewN kr) g now n nd (max en (now + d)) := Box.drewN hl4 kr
                have h35 := below_drewN h34 kr
                obtain ⟨b5, cap5, _, hm5⟩ := held_pos (h24.drewN kr) HD.out
                generalize w4.drewN kr = w5 at *
                clear h24 h34 hl4 hs4 HM hmod
                have x0 := hm5.c0
                have tt := hm5.t1
                have ff := hm5.f ((n - 1) * 2 + 1)
                have HE := Lib.hid (show Both W g gm (k + 1) now n nd (max en (now + d)) (w5.setCell ⟨b5, (n - 1) * 2 + 1, none⟩ (.int .i64 (max en (now + d)))) from
                  ⟨Box.far (p := ⟨b5, (n - 1) * 2 + 1, none⟩) hl5 (hm5.ne_ls hl5) _, .inr ⟨b5, cap5, hn, hm5.setTill _⟩, h35.setCell (p := ⟨b5, (n - 1) * 2 + 1, none⟩) hm5.base_le _, h4, h5, by omega, h7, h8, by omega, by omega⟩)
                have HL := Lib.hid (fun kq => last_any _ _ _ _ _ _ _ _ (w5.drewN kq) (hm5.drewN kq) hn)
                have hwrap : IntKind.i64.wrap (now + d) = now + d := IntWalk.i64_in _ (by omega)
                have hcase : (en < now + d ∧ max en (now + d) = now + d) ∨ (¬ en < now + d ∧ max en (now + d) = en) := by omega
                clear hl5 hm5
                rcases hcase with ⟨hlt', hmx⟩ | ⟨hlt', hmx⟩
                all_goals
                  as_aux_lemma =>
                  rw [hmx] at HE
                  clear hmx
                  go_wp2_with fail
                  go_region_law ((go_simp; go_at_call 29; refine (HL.out _).mono ?_; rintro e w' ⟨rfl, kq, rfl⟩))
                  all_goals
                    as_aux_lemma =>
                    go_wp2_with fail
                    go_meet
                    first
                      | exact ⟨0, n, now, nd, _, rfl, rfl, HE.out.drewN _⟩
                      | exact ⟨0, n, now, nd, _, rfl, rfl, HE.out⟩
              · as_aux_lemma =>
                  have HD := Lib.hid (show heldB now nd en = false by simpa using t3)
                  clear t3
                  go_wp2_with fail
                  refine (keep_gone _ _ _ _ _ _ _ _ _ h1 (by omega) (by omega) HO.out HD.out).mono ?_
                  rintro e w' ⟨rfl, kq, rfl⟩
                  go_wp2_with fail
                  refine (had_any _ _ _ _ _ _ _ _ _ (HM.out.drewN kq) hn).mono ?_
                  rintro e w' ⟨rfl, kr, rfl⟩
                  rw [show (decide (0 < nd) && decide (now < en)) = false by
                    have := HD.out
                    have hnz := HN.out
                    simp only [heldB, Bool.and_eq_false_iff, bne_eq_false_iff_eq, decide_eq_false_iff_not] at this ⊢
                    omega]
                  go_wp2_with fail
                  go_meet
                  exact ⟨23, n, now, nd, en, rfl, rfl, HB.out.drewN (kq + kr)⟩
          have b3 : (kd == 3) = false := by simp [k3]
          by_cases k4 : kd = 4
          · have b4 : (kd == 4) = true := by simp [k4]
            clear k1 k2 k3 k4
            cases L
            · as_aux_lemma =>
              go_wp2_with fail
              refine (leave_no _ _ _ _ _ _ _ _ h1 HO.out).mono ?_
              rintro e w' ⟨rfl, rfl⟩
              go_wp2_with fail
              go_meet
              exact ⟨4, n, now, nd, en, rfl, rfl, HB.out⟩
            · have HN := Lib.hid (show nd ≠ 0 by
                have := HO.out
                simp only [ownsB, Bool.and_eq_true, bne_iff_ne, ne_eq] at this
                exact this.1)
              rcases h2 with ⟨_, hz, _⟩ | ⟨b', cap', hn, hmod⟩
              · exact absurd hz HN.out
              have HM := Lib.hid hmod
              clear hmod
              as_aux_lemma =>
              go_wp2_with fail
              refine (leave_yes _ _ _ _ _ _ _ _ h1 HO.out).mono ?_
              rintro e w4 ⟨rfl, hl4, hs4⟩
              have h24 := Ref.keep (.inr ⟨b', cap', hn, HM.out⟩) h1 hs4
              have h34 := hs4.below h3 h3.size hg
              rcases h24 with ⟨_, hz, _⟩ | ⟨b5, cap5, _, hm5⟩
              · exact absurd hz HN.out
              clear HM hs4
              go_wp2_with fail
              refine (last_any _ _ _ _ _ _ _ _ _ hm5 hn).mono ?_
              rintro e w' ⟨rfl, kr, rfl⟩
              have hl5 : Ls (w4.drewN kr) g now n 0 en := Box.drewN hl4 kr
              have h35 := below_drewN h34 kr
              have hm6 := hm5.drewN kr
              generalize w4.drewN kr = w5 at *
              clear h34 hl4 hm5
              have tt := hm6.t0
              have ff := hm6.f ((n - 1) * 2)
              have HE := Lib.hid (show Both W g gm (k + 1) now n 0 en (w5.setCell ⟨b5, (n - 1) * 2, none⟩ (.int .i64 0)) from
                ⟨Box.far (p := ⟨b5, (n - 1) * 2, none⟩) hl5 (hm6.ne_ls hl5) _, .inr ⟨b5, cap5, hn, hm6.setNode _⟩, h35.setCell (p := ⟨b5, (n - 1) * 2, none⟩) hm6.base_le _, h4, h5, by omega, by omega, by omega, h9, h10⟩)
              clear hl5 hm6
              go_wp2_with fail
              go_meet
              exact ⟨0, n, now, 0, en, rfl, rfl, HE.out⟩
          · as_aux_lemma =>
              have b4 : (kd == 4) = false := by simp [k4]
              clear k1 k2 k3 k4
              go_wp2_with fail
              go_meet
              exact ⟨0, n, now, nd, en, rfl, rfl, HB.out⟩
        case rest =>
          obtain ⟨E, n', now', nd', en', rfl, rfl, hB'⟩ := hcut
          obtain ⟨h1, h2, h3, h4, h5, h6, h7, h8, h9, h10⟩ := hB'
          obtain ⟨wy, rfl⟩ : ∃ wy : World, wy = wc := ⟨_, rfl⟩
          have HB := Lib.hid (show Both W g gm (k + 1) now' n' nd' en' wy from ⟨h1, h2, h3, h4, h5, h6, h7, h8, h9, h10⟩)
          by_cases t3 : heldB now' nd' en' = true
          · as_aux_lemma =>
              have HD := Lib.hid t3
              obtain ⟨b5, cap5, hn, hm5⟩ := held_pos h2 t3
              go_wp2_with fail
              refine (who_yes _ _ _ _ _ _ h1 t3 h4 (by omega) h9 (by omega)).mono ?_
              rintro e w' ⟨rfl, kq, rfl⟩
              clear t3
              have x1 : (wy.drewN kq).cell? ⟨gm, 1, none⟩ = some (.slice (some ⟨b5, 0, none⟩) n' cap5) := hm5.c1
              go_wp2_with fail
              refine (had_ref (h2.drewN kq) h7).mono ?_
              rintro e w' ⟨rfl, kr, rfl⟩
              rw [HD.out, World.drewN_drewN]
              have hm6 := hm5.drewN (kq + kr)
              have HB6 := Lib.hid (HB.out.drewN (kq + kr))
              generalize wy.drewN (kq + kr) = w5 at *
              have x0 := hm6.c0
              have tt0 := hm6.t0
              have tt1 := hm6.t1
              have HL := Lib.hid (fun kq => last_any _ _ _ _ _ _ _ _ (w5.drewN kq) (hm6.drewN kq) hn)
              have hwrap : IntKind.i64.wrap (en' - now') = en' - now' := IntWalk.i64_in _ (by omega)
              clear hm5 hm6
              go_wp2_with fail
              go_quiet ((go_at_call 29; exact Calls.quiet_of (HL.out _)))
              go_wp2_with fail
              go_roundw
              case rel => exact ⟨k + 1, n', now', nd', en', by omega, by go_num, HB6.out.drewN _⟩
              case measure => simp [intOf]; omega
          · as_aux_lemma =>
              have hd' : heldB now' nd' en' = false := by simpa using t3
              go_wp2_with fail
              refine (who_no _ _ _ _ _ _ h1 hd').mono ?_
              rintro e w' ⟨rfl, kq, rfl⟩
              obtain ⟨x0, f0, f1, A1, C1, x1⟩ := (show Ref (wy.drewN kq) W.heap.size gm now' n' nd' en' from h2).cells
              have HD := Lib.hid hd'
              clear hd' t3
              go_wp2_with fail
              have hhad : Calls Try.prog 31 #[.pointer (some ⟨gm, 0, none⟩)] (wy.drewN kq) fun e w' => e = .returned (.bool false) ∧ ∃ k, w' = (wy.drewN kq).drewN k := by
                rcases h2 with ⟨_, _, hbox⟩ | ⟨b', cap', hn, hmod⟩
                · exact had_none _ _ _ (hbox.drewN kq)
                · have := had_any _ _ _ _ _ _ _ _ _ (hmod.drewN kq) hn
                  rw [show (decide (0 < nd') && decide (now' < en')) = false by
                    have := HD.out
                    simp only [heldB, Bool.and_eq_false_iff, bne_eq_false_iff_eq, decide_eq_false_iff_not] at this ⊢
                    omega] at this
                  exact this
              refine hhad.mono ?_
              rintro e w' ⟨rfl, kr, rfl⟩
              clear hhad
              go_wp2_with fail
              go_roundw
              case rel => exact ⟨k + 1, n', now', nd', en', by omega, by go_num, HB.out.drewN (kq + kr)⟩
              case measure => simp [intOf]; omega
    · go_wp2_with fail
      go_ret
      exact ⟨rfl, hB.2.2.1⟩
end Go.Proofs.Ytjblfkoepedhpaa
