
/-
  CodeChecks: the law's walk.
-/
import Derived.Test.YthglcnodoophaaaCk8
import Derived.Test.YthglcnodoophaaaCkSm
namespace Go.Proofs.Ythglcnodoophaaa
open Go.RowKit

/-- The two programs that the law builds. -/
def oneP : CkP := ⟨0, 0, [⟨0, 0, 1, [⟨1, 0, 1, 0, none, 0, []⟩, ⟨25, 0, 0, 0, none, 0, []⟩]⟩], [], [], [], []⟩
def badP : CkP := ⟨0, 0, [⟨0, 0, 0, []⟩], [], [], [], []⟩
theorem oneP_ok : faultF oneP = 0 := by kernel_rfl
theorem badP_no : faultF badP = 3 := by kernel_rfl
def litV (g : Nat) : CkV := ⟨slc0, slc0, some ⟨g, 0, none⟩, 1, none, 0, none, 0, none, 0, none, 0⟩
theorem argsIn_nil {w : World} {B : Nat} (o a b c : Int) : ArgsIn w B ⟨o, a, b, c, none, 0, []⟩ := ⟨Row.nil, by simp, by simp, Nat.zero_le _, fun _ => rfl⟩
theorem row_cells {w : World} {g B : Nat} {t : TypeId} {vs : List Value} (h : Box w g t vs.toArray) (hB : g < B) : Row w B (some ⟨g, 0, none⟩) vs := fun _ =>
  ⟨g, 0, rfl, hB, fun i v hv => by rw [Nat.zero_add, h.cell i, ← hv]; simp⟩
theorem ckIn_lit {w : World} {B n g : Nat} {y : FcC} {f : FnP} {t : TypeId} (hx : Box w g t (fcC y).toArray) (hg : g < B) (hf : FnIn w B y f) : CkIn w B n (litV g) ⟨0, 0, [f], [], [], [], []⟩ where
  small := by simp
  fns := ⟨[y], rfl, by rw [flat_one]; exact row_cells hx hg, fun i hi => by
    have : i = 0 := by simpa using hi
    subst this
    exact hf⟩
  acs := Row.nil
  ims := Row.nil
  mks := Row.nil
  pats := ⟨[], rfl, Row.nil, fun i hi => absurd hi (by simp)⟩
theorem fnIn_one {w : World} {B g : Nat} {t : TypeId} (hx : Box w g t #[.int .i64 1, .int .i64 0, .int .i64 1, .int .i64 0, .slice none 0 0, .int .i64 25, .int .i64 0, .int .i64 0, .int .i64 0, .slice none 0 0]) (hg : g < B) : FnIn w B ⟨⟨#[]⟩, 0, 0, 1, some ⟨g, 0, none⟩, 2, 2⟩ ⟨0, 0, 1, [⟨1, 0, 1, 0, none, 0, []⟩, ⟨25, 0, 0, 0, none, 0, []⟩]⟩ where
  hp := rfl
  hh := rfl
  hr := rfl
  len := rfl
  row := row_cells (vs := flat inC [⟨1, 0, 1, 0, none, 0, []⟩, ⟨25, 0, 0, 0, none, 0, []⟩]) hx hg
  max := by simp
  args := fun x hx => by
    rcases List.mem_cons.1 hx with rfl | hx
    · exact argsIn_nil _ _ _ _
    · rw [List.mem_singleton.1 hx]
      exact argsIn_nil _ _ _ _
theorem fnIn_bad {w : World} {B : Nat} : FnIn w B ⟨⟨#[]⟩, 0, 0, 0, none, 0, 0⟩ ⟨0, 0, 0, []⟩ where
  hp := rfl
  hh := rfl
  hr := rfl
  len := rfl
  row := Row.nil
  max := by simp
  args := fun x hx => by cases hx
theorem check_one (n g2 g3 : Nat) (t2 t3 : TypeId) (w : World) (h2 : Box w g2 t2 #[.string ⟨#[]⟩, .int .i64 0, .int .i64 0, .int .i64 1, .slice (some ⟨g3, 0, none⟩) 2 2]) (h3 : Box w g3 t3 #[.int .i64 1, .int .i64 0, .int .i64 1, .int .i64 0, .slice none 0 0, .int .i64 25, .int .i64 0, .int .i64 0, .int .i64 0, .slice none 0 0]) :
    Calls Try.prog 5 #[.agg #[.slice none 0 0, .slice none 0 0, .slice (some ⟨g2, 0, none⟩) 1 1, .slice none 0 0, .slice none 0 0, .slice none 0 0, .slice none 0 0]] w fun e w' => e = .returned (.int .i64 0) ∧ Below w.heap.size w w' := by
  have h := check_any w.heap.size n (litV g2) oneP w (ckIn_lit (y := ⟨⟨#[]⟩, 0, 0, 1, some ⟨g3, 0, none⟩, 2, 2⟩) h2 h2.lt (fnIn_one h3 h3.lt)) (Nat.le_refl _)
  rw [oneP_ok] at h
  exact h
theorem check_bad (n : Nat) (w : World) :
    Calls Try.prog 5 #[.agg #[.slice none 0 0, .slice none 0 0, .slice (some ⟨w.heap.size, 0, none⟩) 1 1, .slice none 0 0, .slice none 0 0, .slice none 0 0, .slice none 0 0]] (w.alloc (.cells #[.string ⟨#[]⟩, .int .i64 0, .int .i64 0, .int .i64 0, .slice none 0 0] 36)) fun e w' => e = .returned (.int .i64 3) ∧ Below (w.alloc (.cells #[.string ⟨#[]⟩, .int .i64 0, .int .i64 0, .int .i64 0, .slice none 0 0] 36)).heap.size (w.alloc (.cells #[.string ⟨#[]⟩, .int .i64 0, .int .i64 0, .int .i64 0, .slice none 0 0] 36)) w' := by
  have hx := Box.new w 36 #[.string ⟨#[]⟩, .int .i64 0, .int .i64 0, .int .i64 0, .slice none 0 0]
  have h := check_any (w.alloc (.cells #[.string ⟨#[]⟩, .int .i64 0, .int .i64 0, .int .i64 0, .slice none 0 0] 36)).heap.size n (litV w.heap.size) badP _ (ckIn_lit (y := ⟨⟨#[]⟩, 0, 0, 0, none, 0, 0⟩) hx hx.lt fnIn_bad) (Nat.le_refl _)
  rw [badP_no] at h
  exact h

set_option maxRecDepth 100000 in
set_option maxHeartbeats 4000000 in
theorem codeChecks_any (B n : Nat) (v : CkV) (P : CkP) (w : World) (h : CkIn w B n v P) (hB : B ≤ w.heap.size) :
    Calls Try.prog 3 #[.agg (ckC v P)] w fun e w' => e = .returned (.bool true) ∧ Below w.heap.size w w' := by
  have HSM := Lib.hid (fun (w1 : World) (hb : Below w.heap.size w w1) => small_ck B n v P w1 (Nat.le_trans hB hb.size) (h.below (hb.mono hB)))
  have HCK := Lib.hid (fun (w1 : World) (hb : Below w.heap.size w w1) => check_any B n v P w1 (h.below (hb.mono hB)) (Nat.le_trans hB hb.size))
  have HFA := Lib.hid (fun (w1 : World) (hb : Below w.heap.size w w1) => fault_any B n v P w1 (h.below (hb.mono hB)) (Nat.le_trans hB hb.size))
  generalize faultF P = fv at *
  obtain ⟨q0, q1, A2, c2, A3, c3, A4, c4, A5, c5, A6, c6⟩ := v
  unfold ckC at HSM HCK HFA ⊢
  dsimp only at HSM HCK HFA ⊢
  have HB := Lib.hid (show Below w.heap.size w (w.alloc (.cells #[.slice q0.A P.nT q0.cap, .slice q1.A P.nN q1.cap, .slice A2 P.fns.length c2, .slice A3 P.acs.length c3, .slice A4 P.ims.length c4, .slice A5 P.mks.length c5, .slice A6 P.pats.length c6] 30)) from (Below.refl _ _).alloc (Nat.le_refl _) _)
  have HXC := Lib.hid (Box.new w 30 #[.slice q0.A P.nT q0.cap, .slice q1.A P.nN q1.cap, .slice A2 P.fns.length c2, .slice A3 P.acs.length c3, .slice A4 P.ims.length c4, .slice A5 P.mks.length c5, .slice A6 P.pats.length c6])
  clear h
  go_enter Try.func3, Try.ntmps3
  go_upto_region 1 with fail
  generalize w.alloc (.cells #[.slice q0.A P.nT q0.cap, .slice q1.A P.nN q1.cap, .slice A2 P.fns.length c2, .slice A3 P.acs.length c3, .slice A4 P.ims.length c4, .slice A5 P.mks.length c5, .slice A6 P.pats.length c6] 30) = w1 at *
  have u0 : w1.cell? ⟨w.heap.size, 0, none⟩ = some (.slice q0.A P.nT q0.cap) := HXC.out.cell 0
  have u1 : w1.cell? ⟨w.heap.size, 1, none⟩ = some (.slice q1.A P.nN q1.cap) := HXC.out.cell 1
  have u2 : w1.cell? ⟨w.heap.size, 2, none⟩ = some (.slice A2 P.fns.length c2) := HXC.out.cell 2
  have u3 : w1.cell? ⟨w.heap.size, 3, none⟩ = some (.slice A3 P.acs.length c3) := HXC.out.cell 3
  have u4 : w1.cell? ⟨w.heap.size, 4, none⟩ = some (.slice A4 P.ims.length c4) := HXC.out.cell 4
  have u5 : w1.cell? ⟨w.heap.size, 5, none⟩ = some (.slice A5 P.mks.length c5) := HXC.out.cell 5
  have u6 : w1.cell? ⟨w.heap.size, 6, none⟩ = some (.slice A6 P.pats.length c6) := HXC.out.cell 6
  go_wp2_with fail
  refine (HSM.out _ HB.out).mono ?_
  rintro e wa ⟨⟨b, rfl⟩, hba⟩
  have HBA := Lib.hid (HB.out.trans (hba.mono HB.out.size))
  have HXA := Lib.hid (HXC.out.below hba HXC.out.lt)
  clear hba HSM
  cases b with
  | false =>
    go_wp2_with fail
    go_ret
    exact ⟨rfl, HBA.out⟩
  | true =>
  go_upto_region 4 with fail
  have hb2 : Below w.heap.size w (((wa.alloc (.cells #[.int .i64 1, .int .i64 0, .int .i64 1, .int .i64 0, .slice none 0 0, .int .i64 25, .int .i64 0, .int .i64 0, .int .i64 0, .slice none 0 0] 33)).alloc (.cells #[.string ⟨#[]⟩, .int .i64 0, .int .i64 0, .int .i64 1, .slice (some ⟨wa.heap.size, 0, none⟩) 2 2] 36)).alloc (.cells #[.slice none 0 0, .slice none 0 0, .slice (some ⟨wa.heap.size + 1, 0, none⟩) 1 1, .slice none 0 0, .slice none 0 0, .slice none 0 0, .slice none 0 0] 30)) := ((HBA.out.alloc HBA.out.size _).alloc (Nat.le_trans HBA.out.size (by simp)) _).alloc (Nat.le_trans HBA.out.size (by simp; omega)) _
  have hx3 := ((Box.new wa 33 #[.int .i64 1, .int .i64 0, .int .i64 1, .int .i64 0, .slice none 0 0, .int .i64 25, .int .i64 0, .int .i64 0, .int .i64 0, .slice none 0 0]).alloc (.cells #[.string ⟨#[]⟩, .int .i64 0, .int .i64 0, .int .i64 1, .slice (some ⟨wa.heap.size, 0, none⟩) 2 2] 36)).alloc (.cells #[.slice none 0 0, .slice none 0 0, .slice (some ⟨wa.heap.size + 1, 0, none⟩) 1 1, .slice none 0 0, .slice none 0 0, .slice none 0 0, .slice none 0 0] 30)
  have hx2 := (Box.new (wa.alloc (.cells #[.int .i64 1, .int .i64 0, .int .i64 1, .int .i64 0, .slice none 0 0, .int .i64 25, .int .i64 0, .int .i64 0, .int .i64 0, .slice none 0 0] 33)) 36 #[.string ⟨#[]⟩, .int .i64 0, .int .i64 0, .int .i64 1, .slice (some ⟨wa.heap.size, 0, none⟩) 2 2]).alloc (.cells #[.slice none 0 0, .slice none 0 0, .slice (some ⟨wa.heap.size + 1, 0, none⟩) 1 1, .slice none 0 0, .slice none 0 0, .slice none 0 0, .slice none 0 0] 30)
  rw [show (wa.alloc (.cells #[.int .i64 1, .int .i64 0, .int .i64 1, .int .i64 0, .slice none 0 0, .int .i64 25, .int .i64 0, .int .i64 0, .int .i64 0, .slice none 0 0] 33)).heap.size = wa.heap.size + 1 by simp] at hx2
  have hx1 := Box.new ((wa.alloc (.cells #[.int .i64 1, .int .i64 0, .int .i64 1, .int .i64 0, .slice none 0 0, .int .i64 25, .int .i64 0, .int .i64 0, .int .i64 0, .slice none 0 0] 33)).alloc (.cells #[.string ⟨#[]⟩, .int .i64 0, .int .i64 0, .int .i64 1, .slice (some ⟨wa.heap.size, 0, none⟩) 2 2] 36)) 30 #[.slice none 0 0, .slice none 0 0, .slice (some ⟨wa.heap.size + 1, 0, none⟩) 1 1, .slice none 0 0, .slice none 0 0, .slice none 0 0, .slice none 0 0]
  rw [show ((wa.alloc (.cells #[.int .i64 1, .int .i64 0, .int .i64 1, .int .i64 0, .slice none 0 0, .int .i64 25, .int .i64 0, .int .i64 0, .int .i64 0, .slice none 0 0] 33)).alloc (.cells #[.string ⟨#[]⟩, .int .i64 0, .int .i64 0, .int .i64 1, .slice (some ⟨wa.heap.size, 0, none⟩) 2 2] 36)).heap.size = wa.heap.size + 1 + 1 by simp] at hx1
  have hxc := ((HXA.out.alloc (.cells #[.int .i64 1, .int .i64 0, .int .i64 1, .int .i64 0, .slice none 0 0, .int .i64 25, .int .i64 0, .int .i64 0, .int .i64 0, .slice none 0 0] 33)).alloc (.cells #[.string ⟨#[]⟩, .int .i64 0, .int .i64 0, .int .i64 1, .slice (some ⟨wa.heap.size, 0, none⟩) 2 2] 36)).alloc (.cells #[.slice none 0 0, .slice none 0 0, .slice (some ⟨wa.heap.size + 1, 0, none⟩) 1 1, .slice none 0 0, .slice none 0 0, .slice none 0 0, .slice none 0 0] 30)
  have HB2 := Lib.hid hb2
  have HX1 := Lib.hid hx1
  have HX2 := Lib.hid hx2
  have HX3 := Lib.hid hx3
  have HXD := Lib.hid hxc
  clear hb2 hx1 hx2 hx3 hxc
  generalize ((wa.alloc (.cells #[.int .i64 1, .int .i64 0, .int .i64 1, .int .i64 0, .slice none 0 0, .int .i64 25, .int .i64 0, .int .i64 0, .int .i64 0, .slice none 0 0] 33)).alloc (.cells #[.string ⟨#[]⟩, .int .i64 0, .int .i64 0, .int .i64 1, .slice (some ⟨wa.heap.size, 0, none⟩) 2 2] 36)).alloc (.cells #[.slice none 0 0, .slice none 0 0, .slice (some ⟨wa.heap.size + 1, 0, none⟩) 1 1, .slice none 0 0, .slice none 0 0, .slice none 0 0, .slice none 0 0] 30) = w2 at *
  have HC1 := Lib.hid (fun (w' : World) (hb : Below w2.heap.size w2 w') => check_one n (wa.heap.size + 1) wa.heap.size 36 33 w' (HX2.out.below hb HX2.out.lt) (HX3.out.below hb HX3.out.lt))
  have HC2 := Lib.hid (fun (w' : World) => check_bad n w')
  have HC3 := Lib.hid (fun (w' : World) (hb : Below w2.heap.size w2 w') => HCK.out w' (HB2.out.trans (hb.mono HB2.out.size)))
  have HC4 := Lib.hid (fun (w' : World) (hb : Below w2.heap.size w2 w') => HFA.out w' (HB2.out.trans (hb.mono HB2.out.size)))
  have HSK : Hid (∀ w', Below w2.heap.size w2 w' → Below w2.heap.size w2 w' ∧ w'.cell? ⟨w.heap.size, 0, none⟩ = some (.slice q0.A P.nT q0.cap) ∧ w'.cell? ⟨w.heap.size, 1, none⟩ = some (.slice q1.A P.nN q1.cap) ∧ w'.cell? ⟨w.heap.size, 2, none⟩ = some (.slice A2 P.fns.length c2) ∧ w'.cell? ⟨w.heap.size, 3, none⟩ = some (.slice A3 P.acs.length c3) ∧ w'.cell? ⟨w.heap.size, 4, none⟩ = some (.slice A4 P.ims.length c4) ∧ w'.cell? ⟨w.heap.size, 5, none⟩ = some (.slice A5 P.mks.length c5) ∧ w'.cell? ⟨w.heap.size, 6, none⟩ = some (.slice A6 P.pats.length c6) ∧ w'.cell? ⟨wa.heap.size + 1 + 1, 0, none⟩ = some (.slice none 0 0) ∧ w'.cell? ⟨wa.heap.size + 1 + 1, 1, none⟩ = some (.slice none 0 0) ∧ w'.cell? ⟨wa.heap.size + 1 + 1, 2, none⟩ = some (.slice (some ⟨wa.heap.size + 1, 0, none⟩) 1 1) ∧ w'.cell? ⟨wa.heap.size + 1 + 1, 3, none⟩ = some (.slice none 0 0) ∧ w'.cell? ⟨wa.heap.size + 1 + 1, 4, none⟩ = some (.slice none 0 0) ∧ w'.cell? ⟨wa.heap.size + 1 + 1, 5, none⟩ = some (.slice none 0 0) ∧ w'.cell? ⟨wa.heap.size + 1 + 1, 6, none⟩ = some (.slice none 0 0)) := fun w' hb => ⟨hb, (HXD.out.below hb HXD.out.lt).cell 0, (HXD.out.below hb HXD.out.lt).cell 1, (HXD.out.below hb HXD.out.lt).cell 2, (HXD.out.below hb HXD.out.lt).cell 3, (HXD.out.below hb HXD.out.lt).cell 4, (HXD.out.below hb HXD.out.lt).cell 5, (HXD.out.below hb HXD.out.lt).cell 6, (HX1.out.below hb HX1.out.lt).cell 0, (HX1.out.below hb HX1.out.lt).cell 1, (HX1.out.below hb HX1.out.lt).cell 2, (HX1.out.below hb HX1.out.lt).cell 3, (HX1.out.below hb HX1.out.lt).cell 4, (HX1.out.below hb HX1.out.lt).cell 5, (HX1.out.below hb HX1.out.lt).cell 6⟩
  have hbk0 := Below.refl w2.heap.size w2
  clear HCK HFA u0 u1 u2 u3 u4 u5 u6
  refine wp_region_held_drew (S := (fun w' => Below w2.heap.size w2 w' ∧ w'.cell? ⟨w.heap.size, 0, none⟩ = some (.slice q0.A P.nT q0.cap) ∧ w'.cell? ⟨w.heap.size, 1, none⟩ = some (.slice q1.A P.nN q1.cap) ∧ w'.cell? ⟨w.heap.size, 2, none⟩ = some (.slice A2 P.fns.length c2) ∧ w'.cell? ⟨w.heap.size, 3, none⟩ = some (.slice A3 P.acs.length c3) ∧ w'.cell? ⟨w.heap.size, 4, none⟩ = some (.slice A4 P.ims.length c4) ∧ w'.cell? ⟨w.heap.size, 5, none⟩ = some (.slice A5 P.mks.length c5) ∧ w'.cell? ⟨w.heap.size, 6, none⟩ = some (.slice A6 P.pats.length c6) ∧ w'.cell? ⟨wa.heap.size + 1 + 1, 0, none⟩ = some (.slice none 0 0) ∧ w'.cell? ⟨wa.heap.size + 1 + 1, 1, none⟩ = some (.slice none 0 0) ∧ w'.cell? ⟨wa.heap.size + 1 + 1, 2, none⟩ = some (.slice (some ⟨wa.heap.size + 1, 0, none⟩) 1 1) ∧ w'.cell? ⟨wa.heap.size + 1 + 1, 3, none⟩ = some (.slice none 0 0) ∧ w'.cell? ⟨wa.heap.size + 1 + 1, 4, none⟩ = some (.slice none 0 0) ∧ w'.cell? ⟨wa.heap.size + 1 + 1, 5, none⟩ = some (.slice none 0 0) ∧ w'.cell? ⟨wa.heap.size + 1 + 1, 6, none⟩ = some (.slice none 0 0))) (by kernel_rfl) (by exact HSK.out _ (below_drewK hbk0)) (fun hHeld => ?_)
  refine wpAnyH_take (i := 0) (v := ?_) rfl (by kernel_rfl) (by kernel_rfl) (by kernel_rfl) (fun _ _ _ h => h) (Or.inl ⟨by rfl, ?_⟩) (by assumption) ?_
  rotate_left
  · (intro w hSw; (try dsimp only at hSw); go_simp; (try with_reducible rfl))
  try simp only [List.getElem_toArray]
  try simp only [List.getElem_cons_succ]
  try simp only [List.getElem_cons_zero]
  try simp only [Act.put]
  try simp only [List.setIfInBounds_toArray]
  try simp only [List.set_cons_succ]
  try simp only [List.set_cons_zero]
  refine wpAnyH_ready (rs := [1]) (by kernel_rfl) (by simp) ?_
  refine AllReadyH.cons rfl (fun K hK => ?_) AllReadyH.nil
  go_simp
  go_at_call 5
  refine (HC1.out _ hHeld.1).mono ?_
  rintro e wk ⟨rfl, hbw⟩
  have hbk := hHeld.1.trans (hbw.mono hHeld.1.size)
  clear hbw
  go_wp2_with fail
  refine hK.out _ _ (HSK.out _ hbk) (fun hHeld => ?_)
  clear hK K
  try simp only [List.getElem_toArray]
  try simp only [List.getElem_cons_succ]
  try simp only [List.getElem_cons_zero]
  try simp only [Act.put]
  try simp only [List.setIfInBounds_toArray]
  try simp only [List.set_cons_succ]
  try simp only [List.set_cons_zero]
  refine wpAnyH_take (i := 2) (v := ?_) rfl (by kernel_rfl) (by kernel_rfl) (by kernel_rfl) (fun _ _ _ h => h) (Or.inl ⟨by rfl, ?_⟩) (by assumption) ?_
  rotate_left
  · (intro w hSw; (try dsimp only at hSw); go_simp; (try with_reducible rfl))
  try simp only [List.getElem_toArray]
  try simp only [List.getElem_cons_succ]
  try simp only [List.getElem_cons_zero]
  try simp only [Act.put]
  try simp only [List.setIfInBounds_toArray]
  try simp only [List.set_cons_succ]
  try simp only [List.set_cons_zero]
  refine wpAnyH_take (i := 3) (v := ?_) rfl (by kernel_rfl) (by kernel_rfl) (by kernel_rfl) (fun _ _ _ h => h) (Or.inl ⟨by rfl, ?_⟩) (by assumption) ?_
  rotate_left
  · (intro w hSw; (try dsimp only at hSw); go_simp; (try with_reducible rfl))
  try simp only [List.getElem_toArray]
  try simp only [List.getElem_cons_succ]
  try simp only [List.getElem_cons_zero]
  try simp only [Act.put]
  try simp only [List.setIfInBounds_toArray]
  try simp only [List.set_cons_succ]
  try simp only [List.set_cons_zero]
  refine wpAnyH_take (i := 4) (v := ?_) rfl (by kernel_rfl) (by kernel_rfl) (by kernel_rfl) (fun _ _ _ h => h) (Or.inl ⟨by rfl, ?_⟩) (by assumption) ?_
  rotate_left
  · (intro w hSw; (try dsimp only at hSw); go_simp; (try with_reducible rfl))
  try simp only [List.getElem_toArray]
  try simp only [List.getElem_cons_succ]
  try simp only [List.getElem_cons_zero]
  try simp only [Act.put]
  try simp only [List.setIfInBounds_toArray]
  try simp only [List.set_cons_succ]
  try simp only [List.set_cons_zero]
  refine wpAnyH_ready (rs := [5]) (by kernel_rfl) (by simp) ?_
  refine AllReadyH.cons rfl (fun K hK => ?_) AllReadyH.nil
  go_simp
  refine hK.out _ _ ?_ (fun hHeld => ?_)
  · exact HSK.out _ (hbk.alloc hbk.size _)
  clear hK K
  try simp only [List.getElem_toArray]
  try simp only [List.getElem_cons_succ]
  try simp only [List.getElem_cons_zero]
  try simp only [Act.put]
  try simp only [List.setIfInBounds_toArray]
  try simp only [List.set_cons_succ]
  try simp only [List.set_cons_zero]
  refine wpAnyH_take (i := 6) (v := ?_) rfl (by kernel_rfl) (by kernel_rfl) (by kernel_rfl) (fun _ _ _ h => h) (Or.inl ⟨by rfl, ?_⟩) (by assumption) ?_
  rotate_left
  · (intro w hSw; (try dsimp only at hSw); go_simp; (try with_reducible rfl))
  try simp only [List.getElem_toArray]
  try simp only [List.getElem_cons_succ]
  try simp only [List.getElem_cons_zero]
  try simp only [Act.put]
  try simp only [List.setIfInBounds_toArray]
  try simp only [List.set_cons_succ]
  try simp only [List.set_cons_zero]
  refine wpAnyH_ready (rs := [7]) (by kernel_rfl) (by simp) ?_
  refine AllReadyH.cons rfl (fun K hK => ?_) AllReadyH.nil
  go_simp
  go_at_call 5
  refine (HC2.out _).mono ?_
  rintro e wk ⟨rfl, hbw⟩
  have hbk := hHeld.1.trans (hbw.mono hHeld.1.size)
  clear hbw
  go_wp2_with fail
  refine hK.out _ _ (HSK.out _ hbk) (fun hHeld => ?_)
  clear hK K
  try simp only [List.getElem_toArray]
  try simp only [List.getElem_cons_succ]
  try simp only [List.getElem_cons_zero]
  try simp only [Act.put]
  try simp only [List.setIfInBounds_toArray]
  try simp only [List.set_cons_succ]
  try simp only [List.set_cons_zero]
  refine wpAnyH_take (i := 8) (v := ?_) rfl (by kernel_rfl) (by kernel_rfl) (by kernel_rfl) (fun _ _ _ h => h) (Or.inl ⟨by rfl, ?_⟩) (by assumption) ?_
  rotate_left
  · (intro w hSw; (try dsimp only at hSw); go_simp; (try with_reducible rfl))
  try simp only [List.getElem_toArray]
  try simp only [List.getElem_cons_succ]
  try simp only [List.getElem_cons_zero]
  try simp only [Act.put]
  try simp only [List.setIfInBounds_toArray]
  try simp only [List.set_cons_succ]
  try simp only [List.set_cons_zero]
  refine wpAnyH_take (i := 9) (v := ?_) rfl (by kernel_rfl) (by kernel_rfl) (by kernel_rfl) (fun _ _ _ h => h) (Or.inl ⟨by rfl, ?_⟩) (by assumption) ?_
  rotate_left
  · (intro w hSw; (try dsimp only at hSw); go_simp; (try with_reducible rfl))
  try simp only [List.getElem_toArray]
  try simp only [List.getElem_cons_succ]
  try simp only [List.getElem_cons_zero]
  try simp only [Act.put]
  try simp only [List.setIfInBounds_toArray]
  try simp only [List.set_cons_succ]
  try simp only [List.set_cons_zero]
  refine wpAnyH_take (i := 10) (v := ?_) rfl (by kernel_rfl) (by kernel_rfl) (by kernel_rfl) (fun _ _ _ h => h) (Or.inl ⟨by rfl, ?_⟩) (by assumption) ?_
  rotate_left
  · (intro w hSw; (try dsimp only at hSw); go_simp; (try with_reducible rfl))
  try simp only [List.getElem_toArray]
  try simp only [List.getElem_cons_succ]
  try simp only [List.getElem_cons_zero]
  try simp only [Act.put]
  try simp only [List.setIfInBounds_toArray]
  try simp only [List.set_cons_succ]
  try simp only [List.set_cons_zero]
  refine wpAnyH_take (i := 11) (v := ?_) rfl (by kernel_rfl) (by kernel_rfl) (by kernel_rfl) (fun _ _ _ h => h) (Or.inl ⟨by rfl, ?_⟩) (by assumption) ?_
  rotate_left
  · (intro w hSw; (try dsimp only at hSw); go_simp; (try with_reducible rfl))
  try simp only [List.getElem_toArray]
  try simp only [List.getElem_cons_succ]
  try simp only [List.getElem_cons_zero]
  try simp only [Act.put]
  try simp only [List.setIfInBounds_toArray]
  try simp only [List.set_cons_succ]
  try simp only [List.set_cons_zero]
  refine wpAnyH_take (i := 13) (v := ?_) rfl (by kernel_rfl) (by kernel_rfl) (by kernel_rfl) (fun _ _ _ h => h) (Or.inl ⟨by rfl, ?_⟩) (by assumption) ?_
  rotate_left
  · (intro w hSw; (try dsimp only at hSw); go_simp; (try with_reducible rfl))
  try simp only [List.getElem_toArray]
  try simp only [List.getElem_cons_succ]
  try simp only [List.getElem_cons_zero]
  try simp only [Act.put]
  try simp only [List.setIfInBounds_toArray]
  try simp only [List.set_cons_succ]
  try simp only [List.set_cons_zero]
  refine wpAnyH_ready (rs := [12]) (by kernel_rfl) (by simp) ?_
  refine AllReadyH.cons rfl (fun K hK => ?_) AllReadyH.nil
  go_simp
  go_at_call 5
  refine (HC3.out _ hHeld.1).mono ?_
  rintro e wk ⟨rfl, hbw⟩
  have hbk := hHeld.1.trans (hbw.mono hHeld.1.size)
  clear hbw
  go_wp2_with fail
  refine hK.out _ _ (HSK.out _ hbk) (fun hHeld => ?_)
  clear hK K
  try simp only [List.getElem_toArray]
  try simp only [List.getElem_cons_succ]
  try simp only [List.getElem_cons_zero]
  try simp only [Act.put]
  try simp only [List.setIfInBounds_toArray]
  try simp only [List.set_cons_succ]
  try simp only [List.set_cons_zero]
  refine wpAnyH_ready (rs := [14]) (by kernel_rfl) (by simp) ?_
  refine AllReadyH.cons rfl (fun K hK => ?_) AllReadyH.nil
  go_simp
  go_at_call 6
  refine (HC4.out _ hHeld.1).mono ?_
  rintro e wk ⟨rfl, hbw⟩
  have hbk := hHeld.1.trans (hbw.mono hHeld.1.size)
  clear hbw
  go_wp2_with fail
  refine hK.out _ _ (HSK.out _ hbk) (fun hHeld => ?_)
  clear hK K
  try simp only [List.getElem_toArray]
  try simp only [List.getElem_cons_succ]
  try simp only [List.getElem_cons_zero]
  try simp only [Act.put]
  try simp only [List.setIfInBounds_toArray]
  try simp only [List.set_cons_succ]
  try simp only [List.set_cons_zero]
  refine wpAnyH_take (i := 15) (v := ?_) rfl (by kernel_rfl) (by kernel_rfl) (by kernel_rfl) (fun _ _ _ h => h) (Or.inl ⟨by rfl, ?_⟩) (by assumption) ?_
  rotate_left
  · (intro w hSw; (try dsimp only at hSw); go_simp; (try with_reducible rfl))
  try simp only [List.getElem_toArray]
  try simp only [List.getElem_cons_succ]
  try simp only [List.getElem_cons_zero]
  try simp only [Act.put]
  try simp only [List.setIfInBounds_toArray]
  try simp only [List.set_cons_succ]
  try simp only [List.set_cons_zero]
  refine wpAnyH_take (i := 16) (v := ?_) rfl (by kernel_rfl) (by kernel_rfl) (by kernel_rfl) (fun _ _ _ h => h) (Or.inl ⟨by rfl, ?_⟩) (by assumption) ?_
  rotate_left
  · (intro w hSw; (try dsimp only at hSw); go_simp; (try with_reducible rfl))
  try simp only [List.getElem_toArray]
  try simp only [List.getElem_cons_succ]
  try simp only [List.getElem_cons_zero]
  try simp only [Act.put]
  try simp only [List.setIfInBounds_toArray]
  try simp only [List.set_cons_succ]
  try simp only [List.set_cons_zero]
  refine wpAnyH_take (i := 17) (v := ?_) rfl (by kernel_rfl) (by kernel_rfl) (by kernel_rfl) (fun _ _ _ h => h) (Or.inl ⟨by rfl, ?_⟩) (by assumption) ?_
  rotate_left
  · (intro w hSw; (try dsimp only at hSw); go_simp; (try with_reducible rfl))
  try simp only [List.getElem_toArray]
  try simp only [List.getElem_cons_succ]
  try simp only [List.getElem_cons_zero]
  try simp only [Act.put]
  try simp only [List.setIfInBounds_toArray]
  try simp only [List.set_cons_succ]
  try simp only [List.set_cons_zero]
  refine wpAnyH_done (by kernel_rfl) ?_ _
  have HBK := Lib.hid (HB2.out.trans (hbk.mono HB2.out.size))
  clear hbk hbk0 hHeld
  go_wp2_with fail
  go_ret
  exact ⟨rfl, HBK.out⟩
end Go.Proofs.Ythglcnodoophaaa
