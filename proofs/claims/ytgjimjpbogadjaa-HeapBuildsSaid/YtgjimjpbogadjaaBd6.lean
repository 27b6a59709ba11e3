
/-
  A word read as a value (roadref3.ReadOf).
-/
import Derived.Test.YtgjimjpbogadjaaBd5
import Derived.Test.YtgjimjpbogadjaaBdMap
import Derived.Test.YtgjimjpbogadjaaRdF
namespace Go.Proofs.Ytgjimjpbogadjaa
open Go.RowKit

/-- The counter's block. -/
abbrev RfBox (w : World) (gl : Nat) (_A : Option Addr) (_n _c : Nat) (left : Int) : Prop := Box w gl 3 #[.int .i64 left]
def RReadsAt (d : Nat) : Prop := ∀ (u : Nat) (h : List Nat) (A : Option Addr) (c : Nat) (left level : Int) (gl : Nat) (w : World), u < 18446744073709551616 → HpIn w A c h → Row w gl A (flat huC h) → RfBox w gl A h.length c left → 0 ≤ left → left ≤ 400 → level + d = 41 → d ≤ 40 →
  Calls Try.prog 12 #[.slice A h.length c, .int .u64 (u : Int), .int .i64 level, .pointer (some ⟨gl, 0, none⟩)] w fun e w' => VRes d (readV h d left u) w e w' ∧ Only (fun b => b = gl) w w' ∧ RfBox w' gl A h.length c (readV h d left u).1

/-- The call's state: the loader, its result. -/
structure RlSt (w wr : World) (gl : Nat) (A : Option Addr) (n c : Nat) (left : Int) : Prop where
  only : Only (fun b => b = gl) w wr
  ld : RfBox wr gl A n c left
  b0 : Box wr w.heap.size 26 #[.int .i64 0, .int .i64 0, .string ⟨#[]⟩, .slice none 0 0]
  glt : gl < w.heap.size
section
variable {w wr w' : World} {gl n c : Nat} {A : Option Addr} {left l' : Int}
theorem RlSt.alloc (s : RlSt w wr gl A n c left) (o : Obj) : RlSt w (wr.alloc o) gl A n c left := ⟨s.only.alloc o, s.ld.alloc o, s.b0.alloc o, s.glt⟩
theorem RlSt.drew (s : RlSt w wr gl A n c left) : RlSt w wr.drew gl A n c left := ⟨s.only.drew, s.ld.drew, s.b0.drew, s.glt⟩
theorem RlSt.on (s : RlSt w wr gl A n c left) (hb : Below wr.heap.size wr w') : RlSt w w' gl A n c left := ⟨s.only.below hb, s.ld.below hb s.ld.lt, s.b0.below hb s.b0.lt, s.glt⟩
theorem RlSt.call (s : RlSt w wr gl A n c left) (ho : Only (fun b => b = gl) wr w') (hl : RfBox w' gl A n c l') : RlSt w w' gl A n c l' := ⟨s.only.trans ho, hl, ho.box s.b0 (fun e => by have := s.glt; omega), s.glt⟩
theorem RlSt.err (s : RlSt w wr gl A n c left) {d : Nat} {r : Int × Except Int Val} {er : Int} (ho : Only (fun b => b = w.heap.size) wr w') (hr : r = (left, .error er)) : VRes d r w (.returned (.tuple #[valV vc0, .int .i64 er])) w' ∧ Only (fun b => b = gl) w w' ∧ RfBox w' gl A n c r.1 := by
  subst hr
  refine ⟨rfl, s.only.trans2 ho, ho.box s.ld (fun e => by have := s.glt; omega)⟩
theorem RlSt.ok (s : RlSt w wr gl A n c left) {d : Nat} {r : Int × Except Int Val} {v : Val} {y : VC} (ho : Only (fun b => b = w.heap.size) wr w') (hr : r = (left, .ok v)) (hv : VIn wr (fun b => w.heap.size < b) d y v) : VRes d r w (.returned (.tuple #[valV y, .int .i64 0])) w' ∧ Only (fun b => b = gl) w w' ∧ RfBox w' gl A n c r.1 := by
  subst hr
  refine ⟨⟨y, rfl, hv.lt.keep (fun p hp => ?_) (fun b hb => Nat.le_of_lt hb.1)⟩, s.only.trans2 ho, ho.box s.ld (fun e => by have := s.glt; omega)⟩
  simp only [World.cell?, ho.block p.block hp.2 (fun e => by have := hp.1; omega)]
end

/-- The loop's state: the value that is being made (block g), its parts. -/
structure RwSt (w ws wr : World) (gl : Nat) (A : Option Addr) (n c : Nat) (left : Int) (g : Nat) (k m : Int) (t : ByteArray) (d : Nat) (AV : Option Addr) (cV : Nat) (l : List VC) (vs : List Val) : Prop where
  vl : RlSt w wr gl A n c left
  box : Box wr g 26 #[.int .i64 k, .int .i64 m, .string t, .slice AV l.length cV]
  mv : valMk wr ws.heap.size (fun b => ws.heap.size ≤ b) d AV cV l vs
  fr : Only (fun b => b = gl ∨ b = g) ws wr
  glt : w.heap.size < g
  gs : g < ws.heap.size
section
variable {w ws wr w' : World} {gl n c g d cV : Nat} {A AV : Option Addr} {left l' k m : Int} {t : ByteArray} {l : List VC} {vs : List Val}
theorem RwSt.alloc (s : RwSt w ws wr gl A n c left g k m t d AV cV l vs) (o : Obj) : RwSt w ws (wr.alloc o) gl A n c left g k m t d AV cV l vs :=
  ⟨s.vl.alloc o, s.box.alloc o, s.mv.below ((Below.refl _ _).alloc (Nat.le_refl _) o), s.fr.alloc o, s.glt, s.gs⟩
theorem RwSt.call (s : RwSt w ws wr gl A n c left g k m t d AV cV l vs) (ho : Only (fun b => b = gl) wr w') (hl : RfBox w' gl A n c l') : RwSt w ws w' gl A n c l' g k m t d AV cV l vs := by
  have h1 := s.vl.glt
  have h2 := s.glt
  have h3 := s.gs
  refine ⟨s.vl.call ho hl, ho.box s.box (fun e => by omega), valMk_only s.mv ho (fun b hb e => ?_) (fun b hb e => by omega), s.fr.trans (ho.more (fun _ h => .inl h)), s.glt, s.gs⟩
  rcases s.mv.2.1.form with ⟨hn, _⟩ | ⟨q, o, hn⟩
  · rw [hn] at hb; cases hb
  · have h4 := s.mv.2.1
    rw [hn] at h4 hb
    have h5 := h4.lt
    simp at hb
    omega
theorem RwSt.push (s : RwSt w ws wr gl A n c left g k m t d AV cV l vs) {A' : Option Addr} {c' : Nat} {y : VC} {v : Val} (hm : valMk w' ws.heap.size (fun b => ws.heap.size ≤ b) d A' c' (l ++ [y]) (vs ++ [v])) (hb : Below ws.heap.size wr w') : RwSt w ws (w'.setCell ⟨g, 3, none⟩ (.slice A' (l.length + 1) c')) gl A n c left g k m t d A' c' (l ++ [y]) (vs ++ [v]) := by
  have h1 := s.vl.glt
  have h2 := s.glt
  have h3 := s.gs
  have h4 := s.fr.size
  have hset : Only (fun b => b = g) w' (w'.setCell ⟨g, 3, none⟩ (.slice A' (l.length + 1) c')) := (Only.refl (fun b => b = g) w').set (p := ⟨g, 3, none⟩) rfl _
  have hbx := (s.box.below hb s.gs).set 3 (.slice A' (l.length + 1) c')
  refine ⟨⟨(s.vl.only.beneath (hb.mono (by omega))).trans2' hset (by omega), hset.box (s.vl.ld.below hb (by omega)) (fun e => by omega), hset.box (s.vl.b0.below hb (by omega)) (fun e => by omega), s.vl.glt⟩, ?_, valMk_only hm hset (fun b hb e => ?_) (fun b hb e => by omega), (s.fr.beneath hb).trans (hset.more (fun _ h => .inr h)), s.glt, s.gs⟩
  · rw [List.length_append]
    exact hbx
  · rcases hm.2.1.form with ⟨hn, _⟩ | ⟨q, o, hn⟩
    · rw [hn] at hb; cases hb
    · have h5 := hm.2.1
      rw [hn] at h5 hb
      have h6 := h5.lt
      simp at hb
      omega
theorem RwSt.value (s : RwSt w ws wr gl A n c left g k m t d AV cV l vs) (hk : I64 k) (hm : I64 m) (ht : t.size ≤ maxLen) (hl : l.length ≤ 400) : VIn wr (fun b => w.heap.size < b) (d + 1) ⟨k, m, t, AV, l.length, cV⟩ (.mk k m t vs) := by
  have hr := s.mv.row (by unfold reachBytes; omega)
  have h2 := s.glt
  have h3 := s.gs
  have hr2 : valRow wr (fun b => w.heap.size < b) d AV cV l vs := hr.keep (fun _ _ => rfl) (fun b hb => by rcases hb with h | h <;> omega)
  exact ⟨⟨rfl, rfl, rfl, hr2.1, ht, hk, hm⟩, ⟨hr2.2.2.2.1, hr2.2.2.2.2.1, hr2.2.2.2.2.2.1, hr2.2.2.2.2.2.2⟩, l, rfl, hr2.2.1, hr2.2.2.1⟩
end


set_option maxRecDepth 100000 in
set_option maxHeartbeats 4000000 in
theorem rreads_any : ∀ d, RReadsAt d := by
  intro d
  induction d with
  | zero =>
    intro u h A c left level gl w _ hh hrow hld hl0 hl4 hlev _
    have hgl := hld.lt
    have hcap := hh.cap
    have hle := hh.le
    unfold maxLen at hcap
    have HRV := Lib.hid (readV_zero h left u)
    have HHH := Lib.hid hh
    have HROW := Lib.hid hrow
    have hst := show RlSt w ((w.alloc (.cells #[.int .i64 0, .int .i64 0, .string ⟨#[]⟩, .slice none 0 0] 26)).setCell ⟨gl, 0, none⟩ (.int .i64 (left - 1))) gl A h.length c (left - 1) from
      ⟨((Only.refl (fun b => b = gl) w).alloc _).set (p := ⟨gl, 0, none⟩) rfl _, (hld.alloc _).set 0 _, (Box.new w 26 #[.int .i64 0, .int .i64 0, .string ⟨#[]⟩, .slice none 0 0]).far (p := ⟨gl, 0, none⟩) (by simp; omega) _, hgl⟩
    have hld1 := hld.alloc (.cells #[.int .i64 0, .int .i64 0, .string ⟨#[]⟩, .slice none 0 0] 26)
    clear hh hrow hld
    go_enter Try.func12, Try.ntmps12
    go_upto_region 1 with fail
    generalize w.alloc (.cells #[.int .i64 0, .int .i64 0, .string ⟨#[]⟩, .slice none 0 0] 26) = w1 at *
    have l0 := hld1.cell 0
    have f1 := hld1.frozen 0
    simp at l0
    have HST := Lib.hid hst
    clear hst hld1
    go_upto_region 2 with fail
    have l0' := HST.out.ld.cell 0
    simp at l0'
    clear l0 f1
    generalize w1.setCell ⟨gl, 0, none⟩ (.int .i64 (left - 1)) = w2 at *
    have hrv := HRV.out
    clear HRV
    have HST0 := HST.out
    clear HST
    generalize hlf : left - 1 = lf at *
    have HST := Lib.hid HST0
    clear HST0
    clear HHH HROW
    have hlev41 : 40 < level := by omega
    have d2 : decide (40 < level) = true := decide_eq_true hlev41
    have HRV := Lib.hid hrv
    clear hrv
    by_cases hneg : lf < 0
    · have d1 : decide (lf < 0) = true := decide_eq_true hneg
      obtain ⟨e0, e1, e2, e3, z0, z1, z2, z3⟩ := own_cells4 HST.out.b0
      go_wp2_with fail
      obtain ⟨wr9, hwr9⟩ : ∃ wr9, wr9 = (((w2.setCell ⟨w.heap.size, 0, none⟩ (.int .i64 0)).setCell ⟨w.heap.size, 1, none⟩ (.int .i64 0)).setCell ⟨w.heap.size, 2, none⟩ (.string ⟨#[]⟩)).setCell ⟨w.heap.size, 3, none⟩ (.slice none 0 0) := ⟨_, rfl⟩
      rw [← hwr9]
      obtain ⟨hx9, ho9⟩ := four_put HST.out.b0 0 0 ⟨#[]⟩ none 0 0 wr9 hwr9
      obtain ⟨q0, q1, q2, q3, _⟩ := own_cells4 hx9
      refine bodyPost_ret (v := .tuple #[valV vc0, .int .i64 2]) (by unfold valV vc0; simp [results, Try.results12, q0, q1, q2, q3, go_sem]) rfl ?_
      exact RlSt.err HST.out ho9 HRV.out
    · have d1 : decide (lf < 0) = false := decide_eq_false hneg
      obtain ⟨e0, e1, e2, e3, z0, z1, z2, z3⟩ := own_cells4 HST.out.b0
      go_wp2_with fail
      obtain ⟨wr9, hwr9⟩ : ∃ wr9, wr9 = (((w2.setCell ⟨w.heap.size, 0, none⟩ (.int .i64 0)).setCell ⟨w.heap.size, 1, none⟩ (.int .i64 0)).setCell ⟨w.heap.size, 2, none⟩ (.string ⟨#[]⟩)).setCell ⟨w.heap.size, 3, none⟩ (.slice none 0 0) := ⟨_, rfl⟩
      rw [← hwr9]
      obtain ⟨hx9, ho9⟩ := four_put HST.out.b0 0 0 ⟨#[]⟩ none 0 0 wr9 hwr9
      obtain ⟨q0, q1, q2, q3, _⟩ := own_cells4 hx9
      refine bodyPost_ret (v := .tuple #[valV vc0, .int .i64 2]) (by unfold valV vc0; simp [results, Try.results12, q0, q1, q2, q3, go_sem]) rfl ?_
      exact RlSt.err HST.out ho9 HRV.out
  | succ d ih =>
    intro u h A c left level gl w hu hh hrow hld hl0 hl4 hlev hd
    have hgl := hld.lt
    have hcap := hh.cap
    have hle := hh.le
    unfold maxLen at hcap
    have HIH := Lib.hid ih
    have HRV := Lib.hid (readV_succ h d left u)
    have HHH := Lib.hid hh
    have HROW := Lib.hid hrow
    have hst := show RlSt w ((w.alloc (.cells #[.int .i64 0, .int .i64 0, .string ⟨#[]⟩, .slice none 0 0] 26)).setCell ⟨gl, 0, none⟩ (.int .i64 (left - 1))) gl A h.length c (left - 1) from
      ⟨((Only.refl (fun b => b = gl) w).alloc _).set (p := ⟨gl, 0, none⟩) rfl _, (hld.alloc _).set 0 _, (Box.new w 26 #[.int .i64 0, .int .i64 0, .string ⟨#[]⟩, .slice none 0 0]).far (p := ⟨gl, 0, none⟩) (by simp; omega) _, hgl⟩
    have hld1 := hld.alloc (.cells #[.int .i64 0, .int .i64 0, .string ⟨#[]⟩, .slice none 0 0] 26)
    clear hh hrow hld ih
    go_enter Try.func12, Try.ntmps12
    go_upto_region 1 with fail
    generalize w.alloc (.cells #[.int .i64 0, .int .i64 0, .string ⟨#[]⟩, .slice none 0 0] 26) = w1 at *
    have l0 := hld1.cell 0
    have f1 := hld1.frozen 0
    simp at l0
    have HST := Lib.hid hst
    clear hst hld1
    go_upto_region 2 with fail
    have l0' := HST.out.ld.cell 0
    simp at l0'
    clear l0 f1
    generalize w1.setCell ⟨gl, 0, none⟩ (.int .i64 (left - 1)) = w2 at *
    have hrv := HRV.out
    clear HRV
    have HST0 := HST.out
    clear HST
    generalize hlf : left - 1 = lf at *
    have HST := Lib.hid HST0
    clear HST0
    have HHW : Hid (∀ w', Only (fun b => b = gl) w w' → HpIn w' A c h) := Lib.hid (fun w' ho => ⟨((HROW.out.below (ho.to_below (Below.refl gl w) (Nat.le_of_lt hgl) (fun i hi => Nat.le_of_eq hi.symm))).more (Nat.le_trans (Nat.le_of_lt hgl) ho.size)), HHH.out.none, HHH.out.le, HHH.out.cap, HHH.out.fit⟩)
    clear HHH
    by_cases hneg : lf < 0
    · have d1 : decide (lf < 0) = true := decide_eq_true hneg
      rw [if_pos hneg] at hrv
      have HRV := Lib.hid hrv
      clear hrv
      obtain ⟨e0, e1, e2, e3, z0, z1, z2, z3⟩ := own_cells4 HST.out.b0
      go_wp2_with fail
      obtain ⟨wr9, hwr9⟩ : ∃ wr9, wr9 = (((w2.setCell ⟨w.heap.size, 0, none⟩ (.int .i64 0)).setCell ⟨w.heap.size, 1, none⟩ (.int .i64 0)).setCell ⟨w.heap.size, 2, none⟩ (.string ⟨#[]⟩)).setCell ⟨w.heap.size, 3, none⟩ (.slice none 0 0) := ⟨_, rfl⟩
      rw [← hwr9]
      obtain ⟨hx9, ho9⟩ := four_put HST.out.b0 0 0 ⟨#[]⟩ none 0 0 wr9 hwr9
      obtain ⟨q0, q1, q2, q3, _⟩ := own_cells4 hx9
      refine bodyPost_ret (v := .tuple #[valV vc0, .int .i64 2]) (by unfold valV vc0; simp [results, Try.results12, q0, q1, q2, q3, go_sem]) rfl ?_
      exact RlSt.err HST.out ho9 HRV.out
    have d1 : decide (lf < 0) = false := decide_eq_false hneg
    have hlev40 : ¬ 40 < level := by omega
    have d2 : decide (40 < level) = false := decide_eq_false hlev40
    rw [if_neg hneg] at hrv
    have hva := fun w' => valueOf_any (u : Int) w' (nat_u64 hu).1 (nat_u64 hu).2
    unfold leafAgg at hva
    have HRD := Lib.hid (fun w' => tagRead_any (u : Int) w' (nat_u64 hu).1 (nat_u64 hu).2)
    cases hrb : readB (u : Int) with
    | false =>
      rw [if_neg (by rw [valB_eq, hrb, Bool.false_and]; decide), hrb, if_pos rfl] at hrv
      rw [hrb] at HRD
      simp only [Bool.false_eq_true, if_false] at HRD
      have HRV := Lib.hid hrv
      clear hrv hrb hva
      go_upto_region 6 with (go_at_call 67; refine (HRD.out _).mono ?_; rintro e wk ⟨rfl, rfl⟩)
      obtain ⟨e0, e1, e2, e3, z0, z1, z2, z3⟩ := own_cells4 HST.out.b0
      go_wp2_with fail
      obtain ⟨wr9, hwr9⟩ : ∃ wr9, wr9 = (((w2.setCell ⟨w.heap.size, 0, none⟩ (.int .i64 0)).setCell ⟨w.heap.size, 1, none⟩ (.int .i64 0)).setCell ⟨w.heap.size, 2, none⟩ (.string ⟨#[]⟩)).setCell ⟨w.heap.size, 3, none⟩ (.slice none 0 0) := ⟨_, rfl⟩
      rw [← hwr9]
      obtain ⟨hx9, ho9⟩ := four_put HST.out.b0 0 0 ⟨#[]⟩ none 0 0 wr9 hwr9
      obtain ⟨q0, q1, q2, q3, _⟩ := own_cells4 hx9
      refine bodyPost_ret (v := .tuple #[valV vc0, .int .i64 3]) (by unfold valV vc0; simp [results, Try.results12, q0, q1, q2, q3, go_sem]) rfl ?_
      exact RlSt.err HST.out ho9 HRV.out
    | true =>
      rw [hrb] at HRD
      simp only [if_true] at HRD
      have hn0 : (u : Int) % 8 = 4 → 0 ≤ readN (u : Int) := fun h4 => by
        have h1 := hrb
        unfold readB at h1
        rw [h4, Bool.and_eq_true] at h1
        have h2 := h1.2
        unfold validB at h2
        rw [if_neg (by decide), if_neg (by decide), if_neg (by decide), decide_eq_true_iff] at h2
        exact h2.1
      by_cases h4 : (u : Int) % 8 = 4
      · have hvb : valB (u : Int) = false := by rw [valB_eq, hrb, h4]; decide
        rw [if_neg (by rw [hvb]; decide), hrb, if_neg (by decide)] at hrv
        have hn0 := hn0 h4
        rw [h4] at HRD
        generalize readN (u : Int) = nn at *
        clear hva hvb hrb h4
        by_cases hnl : (h.length : Int) ≤ nn
        · have hee := (rdF_out (h := h) (p := nn) (Or.inr hnl)).1
          rw [hee] at hrv
          dsimp only at hrv
          rw [if_pos (by decide)] at hrv
          have HRV := Lib.hid hrv
          have b5 : decide ((h.length : Int) ≤ nn) = true := decide_eq_true hnl
          clear hrv hee
          go_upto_region 11 with (go_at_call 67; refine (HRD.out _).mono ?_; rintro e wk ⟨rfl, rfl⟩)
          obtain ⟨e0, e1, e2, e3, z0, z1, z2, z3⟩ := own_cells4 HST.out.b0
          go_wp2_with fail
          obtain ⟨wr9, hwr9⟩ : ∃ wr9, wr9 = (((w2.setCell ⟨w.heap.size, 0, none⟩ (.int .i64 0)).setCell ⟨w.heap.size, 1, none⟩ (.int .i64 0)).setCell ⟨w.heap.size, 2, none⟩ (.string ⟨#[]⟩)).setCell ⟨w.heap.size, 3, none⟩ (.slice none 0 0) := ⟨_, rfl⟩
          rw [← hwr9]
          obtain ⟨hx9, ho9⟩ := four_put HST.out.b0 0 0 ⟨#[]⟩ none 0 0 wr9 hwr9
          obtain ⟨q0, q1, q2, q3, _⟩ := own_cells4 hx9
          refine bodyPost_ret (v := .tuple #[valV vc0, .int .i64 4]) (by unfold valV vc0; simp [results, Try.results12, q0, q1, q2, q3, go_sem]) rfl ?_
          exact RlSt.err HST.out ho9 HRV.out
        · have hp : ¬ (nn < 0 ∨ (h.length : Int) ≤ nn) := by omega
          have b5 : decide ((h.length : Int) ≤ nn) = false := decide_eq_false hnl
          have HOA := Lib.hid (objectAt_any A c h nn w2 (HHW.out w2 HST.out.only))
          have HOKF := fun e => rdF_ok (h := h) (p := nn) e
          have HNI := num_i64 h nn
          have HPX := parts_fit (h := h) (p := nn) (HHW.out w (Only.refl _ _)).fit
          have HPP := Lib.hid hp
          have hw4 : w.heap.size < w2.heap.size := HST.out.b0.lt
          clear hp
          go_upto_region 13 with (first
            | (go_at_call 67; refine (HRD.out _).mono ?_; rintro e wk ⟨rfl, rfl⟩)
            | (go_at_call 69; refine HOA.out.mono ?_; rintro e w5 ⟨hb5, y, zb, rfl, hz1, _, hyp⟩; unfold ocV; have HZ1 := Lib.hid hz1; have HYP := Lib.hid hyp; clear hz1 hyp; obtain ⟨⟨y1, y2, y3, y4, y5⟩, PA, pc⟩ := y; dsimp only))
          generalize hlen5 : y5.length = n5 at *
          have HL5 := Lib.hid hlen5
          have hal6 := (Below.refl w5.heap.size w5).alloc (Nat.le_refl _) (.cells #[.int .i64 y1, .int .i64 y2, .int .i64 y3, .string ⟨y4.toArray⟩, .slice PA n5 pc] 139)
          have hst6 := (HST.out.on hb5).alloc (.cells #[.int .i64 y1, .int .i64 y2, .int .i64 y3, .string ⟨y4.toArray⟩, .slice PA n5 pc] 139)
          have hob6 : ObBox (w5.alloc (.cells #[.int .i64 y1, .int .i64 y2, .int .i64 y3, .string ⟨y4.toArray⟩, .slice PA n5 pc] 139)) w5.heap.size y1 y2 y3 y4 PA n5 pc := Box.new w5 139 #[.int .i64 y1, .int .i64 y2, .int .i64 y3, .string ⟨y4.toArray⟩, .slice PA n5 pc]
          have hpn6 := HYP.out.below hal6
          generalize w5.alloc (.cells #[.int .i64 y1, .int .i64 y2, .int .i64 y3, .string ⟨y4.toArray⟩, .slice PA n5 pc] 139) = w6 at *
          generalize w5.heap.size = g5 at *
          clear hb5 hal6 hlen5 HYP HOA l0'
          cases zb with
          | false =>
            have hee := rdF_none HPP.out (by rw [HZ1.out]; rfl)
            rw [hee] at hrv
            dsimp only at hrv
            rw [if_pos (by decide)] at hrv
            have HRV := Lib.hid hrv
            clear hrv hee HPX HNI HOKF
            obtain ⟨e0, e1, e2, e3, z0, z1, z2, z3⟩ := own_cells4 hst6.b0
            go_wp2_with fail
            obtain ⟨wr9, hwr9⟩ : ∃ wr9, wr9 = (((w6.setCell ⟨w.heap.size, 0, none⟩ (.int .i64 0)).setCell ⟨w.heap.size, 1, none⟩ (.int .i64 0)).setCell ⟨w.heap.size, 2, none⟩ (.string ⟨#[]⟩)).setCell ⟨w.heap.size, 3, none⟩ (.slice none 0 0) := ⟨_, rfl⟩
            rw [← hwr9]
            obtain ⟨hx9, ho9⟩ := four_put hst6.b0 0 0 ⟨#[]⟩ none 0 0 wr9 hwr9
            obtain ⟨q0, q1, q2, q3, _⟩ := own_cells4 hx9
            refine bodyPost_ret (v := .tuple #[valV vc0, .int .i64 3]) (by unfold valV vc0; simp [results, Try.results12, q0, q1, q2, q3, go_sem]) rfl ?_
            exact RlSt.err hst6 ho9 HRV.out
          | true =>
            have hee := rdF_some HPP.out HZ1.out
            rw [hee] at hrv HOKF HNI HPX
            dsimp only at hrv HOKF HNI HPX
            rw [if_neg (by decide)] at hrv
            have hoko := HOKF rfl
            have HPN := Lib.hid hpn6
            have HST6 := Lib.hid hst6
            have HOB6 := Lib.hid hob6
            have hk1 : 1 ≤ y2 := hoko.1
            have hk5 : y2 ≤ 5 := hoko.2.1
            have htx : y4.length ≤ 64 := hoko.2.2.1
            have hps : n5 ≤ 400 := by have := hoko.2.2.2.1; rw [← HL5.out]; exact this
            have HRV0 := Lib.hid hrv
            have HNUM := Lib.hid HNI
            have HPF := Lib.hid hpn6.far
            have HFIT := Lib.hid (fun j (hj : j < y5.length) => HPX (y5.getD j 0) (by rw [List.getD_eq_getElem?_getD, List.getElem?_eq_getElem hj]; exact List.getElem_mem hj))
            obtain ⟨m1, m2, m3, m4, m5, r1, r2, r3, r4, r5, hb5, hlook⟩ := map5 w6 1 2 2 4 3 5 4 7 5 8 (by unfold I64; omega) (by unfold I64; omega) (by unfold I64; omega) (by unfold I64; omega) (by unfold I64; omega)
            have hlk := hlook y2 (by unfold I64; omega)
            have hkd : (if y2 = 5 then (8 : Int) else if y2 = 4 then 7 else if y2 = 3 then 5 else if y2 = 2 then 4 else if y2 = 1 then 2 else 0) = kindOut y2 := by
              have hc : y2 = 1 ∨ y2 = 2 ∨ y2 = 3 ∨ y2 = 4 ∨ y2 = 5 := by omega
              rcases hc with rfl | rfl | rfl | rfl | rfl <;> rfl
            rw [hkd] at hlk
            have hmm := @run_makeMap_plain Try.prog
            obtain ⟨c0, c1, c2, c3, c4⟩ := ObBox.cells (HOB6.out.below hb5 HOB6.out.lt)
            clear hoko hpn6 hst6 hrv HST hob6 HPX HNI HOKF hee hlook hkd
            go_upto_region 16 with fail
            have hbc := hb5.alloc hb5.size (.cells #[.int .i64 (kindOut y2), .int .i64 y3, .string ⟨y4.toArray⟩, .slice none 0 0] 26)
            have hbx14 := Box.new m5 26 #[.int .i64 (kindOut y2), .int .i64 y3, .string ⟨y4.toArray⟩, .slice none 0 0]
            have hg14 : w6.heap.size ≤ m5.heap.size := hb5.size
            clear r1 r2 r3 r4 r5 hlk hmm c0 c1 c2 c3 c4 hb5
            generalize m5.alloc (.cells #[.int .i64 (kindOut y2), .int .i64 y3, .string ⟨y4.toArray⟩, .slice none 0 0] 26) = wc at *
            generalize m5.heap.size = g14 at *
            have hst7 := HST6.out.on hbc
            have hgw : w.heap.size < w6.heap.size := HST6.out.b0.lt
            have HRV := Lib.hid (show RwSt w wc wc gl A h.length c lf g14 (kindOut y2) y3 ⟨y4.toArray⟩ d none 0 [] [] from ⟨hst7, hbx14, valMk.nil, Only.refl _ _, by omega, hbx14.lt⟩)
            have HOBC := Lib.hid (HOB6.out.below hbc HOB6.out.lt)
            have HPNC := Lib.hid (HPN.out.below hbc)
            clear HPN HOB6 HST6 hbc hbx14 hst7
            obtain ⟨c0, c1, c2, c3, c4⟩ := ObBox.cells HOBC.out
            go_wp2_with fail
            clear c0 c1 c2 c3 c4
            go_loopg [18, 19, 20, 79] n5 (fun gk _a _b _e iv wr => ∃ (j : Nat) (lj : Int) (AV : Option Addr) (cV : Nat) (l : List VC) (vs : List Val), gk = n5 - j ∧ j ≤ n5 ∧ iv = .int .i64 j ∧ l.length = j ∧ FoldVSt (readV h d) lf y5 j lj vs ∧ 0 ≤ lj ∧ lj ≤ 400 ∧ RwSt w wc wr gl A h.length c lj g14 (kindOut y2) y3 ⟨y4.toArray⟩ d AV cV l vs)
            case atStart => exact ⟨0, lf, none, 0, [], [], by omega, by omega, rfl, rfl, FoldVSt.nil _ _ _, by omega, by omega, HRV.out⟩
            case round =>
              clear HRV
              obtain ⟨j, lj, AV, cV, l, vs, hgk, hj, rfl, hll, hfs, hlj0, hlj4, hst⟩ := hrel
              have HGK := Lib.hid hgk
              have HFS := Lib.hid hfs
              have HST := Lib.hid hst
              have HLL := Lib.hid hll
              clear hgk hfs hll hst
              by_cases hlt : j < n5
              · have hlt5 : j < y5.length := by rw [HL5.out]; exact hlt
                have hprow : Row wr wc.heap.size PA (flat huC y5) := HPNC.out.row.only (Nat.le_refl _) HST.out.fr (fun a ha e => by
                  have h1 := HPF.out a ha
                  rcases e with e | e
                  · have := HST.out.vl.glt; omega
                  · omega)
                obtain ⟨pb, po, rfl, _, hpc⟩ := Row.u hprow hlt5
                have hx64 := HFIT.out j hlt5
                have HFAIL := Lib.hid (fun l' e he => HFS.out.fail (l' := l') (e := e) hlt5 he)
                have HSTEP := Lib.hid (fun l' v he => HFS.out.step (l' := l') (v := v) hlt5 he)
                generalize y5.getD j 0 = x at *
                have hcall := HIH.out x h A c lj (level + 1) gl wr hx64 (HHW.out wr HST.out.vl.only) (HROW.out.below (HST.out.vl.only.to_below (Below.refl gl w) (Nat.le_of_lt hgl) (fun i hi => Nat.le_of_eq hi.symm))) HST.out.vl.ld hlj0 hlj4 (by omega) (by omega)
                unfold VRes at hcall
                rcases hr : readV h d lj x with ⟨l', er' | v'⟩
                · rw [hr] at hcall
                  dsimp only at hcall
                  have HC := Lib.hid hcall
                  have hne := readV_err h d lj x l' er' hr
                  have b3 : (er' != 0) = true := by simp [hne]
                  have HRV : Hid (readV h (d + 1) left u = (l', .error er')) := Lib.hid (by rw [HRV0.out, HFAIL.out l' er' hr])
                  clear hcall hr HSTEP HFAIL
                  go_upto_region 20 with (go_at_call 12; refine HC.out.mono ?_; rintro e w8 ⟨rfl, ho8, hl8⟩; unfold valV vc0; dsimp only)
                  have hst9 := (HST.out.call ho8 hl8).vl.alloc (.cells #[.int .i64 0, .int .i64 0, .string ⟨#[]⟩, .slice none 0 0] 26)
                  generalize w8.alloc (.cells #[.int .i64 0, .int .i64 0, .string ⟨#[]⟩, .slice none 0 0] 26) = w9 at *
                  clear hpc
                  obtain ⟨e0, e1, e2, e3, z0, z1, z2, z3⟩ := own_cells4 hst9.b0
                  go_wp2_with fail
                  obtain ⟨wr9, hwr9⟩ : ∃ wr9, wr9 = (((w9.setCell ⟨w.heap.size, 0, none⟩ (.int .i64 0)).setCell ⟨w.heap.size, 1, none⟩ (.int .i64 0)).setCell ⟨w.heap.size, 2, none⟩ (.string ⟨#[]⟩)).setCell ⟨w.heap.size, 3, none⟩ (.slice none 0 0) := ⟨_, rfl⟩
                  rw [← hwr9]
                  obtain ⟨hx9, ho9⟩ := four_put hst9.b0 0 0 ⟨#[]⟩ none 0 0 wr9 hwr9
                  obtain ⟨q0, q1, q2, q3, _⟩ := own_cells4 hx9
                  refine bodyPost_ret (v := .tuple #[valV vc0, .int .i64 er']) (by unfold valV vc0; simp [results, Try.results12, q0, q1, q2, q3, go_sem]) rfl ?_
                  exact RlSt.err hst9 ho9 HRV.out
                · rw [hr] at hcall
                  dsimp only at hcall
                  have HC := Lib.hid hcall
                  have HS2 := Lib.hid (HSTEP.out l' v' hr)
                  have hl'0 := readV_left h d lj x l' v' hr
                  clear hcall hr HSTEP HFAIL
                  go_upto_region 22 with (go_at_call 12; refine HC.out.mono ?_; rintro e w8 ⟨⟨⟨vk, vm, vt, vA, vl, vc⟩, rfl, hv8⟩, ho8, hl8⟩; unfold valV; dsimp only)
                  have hst8 := HST.out.call ho8 hl8
                  have hal := (Below.refl w8.heap.size w8).alloc (Nat.le_refl _) (.cells #[.int .i64 vk, .int .i64 vm, .string vt, .slice vA vl vc] 26)
                  have hst9 := hst8.alloc (.cells #[.int .i64 vk, .int .i64 vm, .string vt, .slice vA vl vc] 26)
                  have hbx9 := Box.new w8 26 #[.int .i64 vk, .int .i64 vm, .string vt, .slice vA vl vc]
                  have hv9 := hv8.lt.keep (S' := fun b => wr.heap.size ≤ b ∧ b < w8.heap.size) (fun p hp => hal.cell hp.2) (fun b hb => hb)
                  have hsz9 : w8.heap.size < (w8.alloc (.cells #[.int .i64 vk, .int .i64 vm, .string vt, .slice vA vl vc] 26)).heap.size := hbx9.lt
                  clear hst8 hal hv8 ho8 hl8
                  generalize w8.alloc (.cells #[.int .i64 vk, .int .i64 vm, .string vt, .slice vA vl vc] 26) = w9 at *
                  generalize w8.heap.size = g9 at *
                  obtain ⟨d0, d1', d2', d3, _⟩ := own_cells4 hbx9
                  obtain ⟨e0, e1, e2, e3, _⟩ := own_cells4 hst9.box
                  have hjl := HLL.out
                  have hst9a := hst9.alloc (.cells #[.int .i64 vk, .int .i64 vm, .string vt, .slice vA vl vc] 26)
                  have HMV := Lib.hid hst9a.mv
                  have HS9 := Lib.hid hst9a
                  have hsw : wc.heap.size ≤ wr.heap.size := HST.out.fr.size
                  have HV9 : Hid (VIn (w9.alloc (.cells #[.int .i64 vk, .int .i64 vm, .string vt, .slice vA vl vc] 26)) (Off (fun b => wc.heap.size ≤ b) AV) d ⟨vk, vm, vt, vA, vl, vc⟩ v') := Lib.hid (hv9.keep (fun p hp => World.cell?_alloc_lt w9 _ p (by omega)) (fun b hb => ⟨by omega, fun e => by
                    rcases HST.out.mv.2.1.form with ⟨hn, _⟩ | ⟨q, o, hn⟩
                    · rw [hn] at e; cases e
                    · have h5 := HST.out.mv.2.1
                      rw [hn] at h5 e
                      have h6 := h5.lt
                      simp at e
                      omega⟩))
                  have HVN := Lib.hid (val_new w9 ⟨vk, vm, vt, vA, vl, vc⟩)
                  have h400 : l.length < 400 := by omega
                  have hbs9 : wc.heap.size ≤ (w9.alloc (.cells #[.int .i64 vk, .int .i64 vm, .string vt, .slice vA vl vc] 26)).heap.size := hst9a.fr.size
                  clear hst9 hst9a hv9 hbx9
                  go_wp2_with (at_builtin; go_loud (refine wpList_mk_val rfl (.tmp 97) (.tmp 99) rfl wc.heap.size (fun b => wc.heap.size ≤ b) d AV cV j l vs HLL.out rfl HMV.out w9.heap.size ⟨vk, vm, vt, vA, vl, vc⟩ v' rfl HVN.out HV9.out (by omega) hbs9 ?_; intro A5 c5 w10 hmk5 hb5; have hp10 := HS9.out.push hmk5 hb5; rw [HLL.out] at hp10; have HST10 := Lib.hid hp10; clear hp10; have hbx10 := HS9.out.box.below hb5 HS9.out.gs; obtain ⟨n0, n1, n2, n3, m0, m1, m2, m3⟩ := own_cells4 hbx10; clear hmk5 hb5 hbx10))
                  go_roundg (n5 - (j + 1))
                  case measure => have := HGK.out; omega
                  case rel => exact ⟨j + 1, l', A5, c5, _, _, rfl, by omega, by go_num, by rw [List.length_append, HLL.out]; rfl, HS2.out, hl'0.1, by omega, HST10.out⟩
              · obtain rfl : j = n5 := by omega
                have hdone := HFS.out.done (by rw [HL5.out]; exact Nat.le_refl _)
                have HRV : Hid (readV h (d + 1) left u = (lj, .ok (.mk (kindOut y2) y3 ⟨y4.toArray⟩ vs))) := Lib.hid (by rw [HRV0.out, hdone])
                clear hdone
                obtain ⟨e0, e1, e2, e3, _⟩ := own_cells4 HST.out.box
                obtain ⟨b0, b1, b2, b3, z0, z1, z2, z3⟩ := own_cells4 HST.out.vl.b0
                go_wp2_with fail
                obtain ⟨wr9, hwr9⟩ : ∃ wr9, wr9 = (((wr.setCell ⟨w.heap.size, 0, none⟩ (.int .i64 (kindOut y2))).setCell ⟨w.heap.size, 1, none⟩ (.int .i64 y3)).setCell ⟨w.heap.size, 2, none⟩ (.string ⟨y4.toArray⟩)).setCell ⟨w.heap.size, 3, none⟩ (.slice AV l.length cV) := ⟨_, rfl⟩
                rw [← hwr9]
                obtain ⟨hx9, ho9⟩ := four_put HST.out.vl.b0 (kindOut y2) y3 ⟨y4.toArray⟩ AV l.length cV wr9 hwr9
                obtain ⟨q0, q1, q2, q3, _⟩ := own_cells4 hx9
                refine bodyPost_ret (v := .tuple #[valV ⟨kindOut y2, y3, ⟨y4.toArray⟩, AV, l.length, cV⟩, .int .i64 0]) (by unfold valV; simp [results, Try.results12, q0, q1, q2, q3, go_sem]) rfl ?_
                exact RlSt.ok HST.out.vl ho9 HRV.out (HST.out.value (kindOut_i64 y2) HNUM.out (by have := htx; show y4.length ≤ maxLen; unfold maxLen; omega) (by have := HLL.out; omega))
      · have hvb : valB (u : Int) = true := by rw [valB_eq, hrb]; simp [h4]
        rw [hvb, if_pos rfl, leafV_eq] at hrv
        rw [hvb] at hva
        simp only [if_true] at hva
        have HVA := Lib.hid hva
        have HRV := Lib.hid hrv
        have HKO := Lib.hid (kindOf_i64 ((u : Int) % 8))
        have HNO := Lib.hid (readN_i64 (u : Int))
        have b4 : ((u : Int) % 8 != 4) = true := by simp [h4]
        generalize kindOf ((u : Int) % 8) = kq at *
        generalize readN (u : Int) = nq at *
        generalize (u : Int) % 8 = tq at *
        clear hva hrv hn0 hvb hrb h4
        go_upto_region 9 with (first
          | (go_at_call 67; refine (HRD.out _).mono ?_; rintro e wk ⟨rfl, rfl⟩)
          | (go_at_call 68; refine (HVA.out _).mono ?_; rintro e w3 ⟨rfl, hb3⟩))
        have hst4 := (HST.out.on hb3).alloc (.cells #[.int .i64 kq, .int .i64 nq, .string ⟨#[]⟩, .slice none 0 0] 26)
        have hbx4 := Box.new w3 26 #[.int .i64 kq, .int .i64 nq, .string ⟨#[]⟩, .slice none 0 0]
        generalize w3.alloc (.cells #[.int .i64 kq, .int .i64 nq, .string ⟨#[]⟩, .slice none 0 0] 26) = w4 at *
        generalize w3.heap.size = g4 at *
        obtain ⟨c0, c1, c2, c3, _⟩ := own_cells4 hbx4
        obtain ⟨e0, e1, e2, e3, z0, z1, z2, z3⟩ := own_cells4 hst4.b0
        clear l0'
        go_wp2_with fail
        obtain ⟨wr9, hwr9⟩ : ∃ wr9, wr9 = (((w4.setCell ⟨w.heap.size, 0, none⟩ (.int .i64 kq)).setCell ⟨w.heap.size, 1, none⟩ (.int .i64 nq)).setCell ⟨w.heap.size, 2, none⟩ (.string ⟨#[]⟩)).setCell ⟨w.heap.size, 3, none⟩ (.slice none 0 0) := ⟨_, rfl⟩
        rw [← hwr9]
        obtain ⟨hx9, ho9⟩ := four_put hst4.b0 kq nq ⟨#[]⟩ none 0 0 wr9 hwr9
        obtain ⟨q0, q1, q2, q3, _⟩ := own_cells4 hx9
        refine bodyPost_ret (v := .tuple #[valV ⟨kq, nq, ⟨#[]⟩, none, 0, 0⟩, .int .i64 0]) (by unfold valV; simp [results, Try.results12, q0, q1, q2, q3, go_sem]) rfl ?_
        exact RlSt.ok hst4 ho9 HRV.out (leaf_in HKO.out HNO.out)
end Go.Proofs.Ytgjimjpbogadjaa
