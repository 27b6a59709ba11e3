
/-
  cycle: start.
-/
import Derived.Test.YtbhdagjilmgahaaKn4
import Derived.Test.YtbhdagjilmgahaaHeldC
namespace Go.Proofs.Ytbhdagjilmgahaa
open Go.RowKit

def recs (K : List KnC) (k : Nat) (x : Int) : Bool := ((K.take k).map (·.ref)).contains x
/-- The node in the making: the first k records are in; fs are live of themselves. -/
structure StS (w0 w : World) (gn gr gm gt : Nat) (K : List KnC) (k : Nat) (RA : Int → Option Addr × Nat) (fs : List Int) (A1 : Option Addr) (c1 : Nat) : Prop where
  bl : Below w0.heap.size w0 w
  box : Box w gn 61 #[.map (some gr), .map (some gm), .slice none 0 0, .map (some gt), .int .i64 0]
  refs : IntMap w gr k (fun x => if recs K k x = true then some (.slice (RA x).1 (refsF K x).length (RA x).2) else none)
  rows : ∀ x, recs K k x = true → RowZ w (fun b => b < w.heap.size ∧ b ≠ gn ∧ b ≠ gr ∧ b ≠ gm ∧ b ≠ gt ∧ A1.map (·.block) ≠ some b) (RA x).1 (ints (refsF K x))
  mr : IntSet w gm 0 []
  tl : IntSet w gt 0 []
  fi : OwnAt w w0.heap.size 3 1 A1 fs.length c1 (ints fs)
  lo : w0.heap.size ≤ gn ∧ w0.heap.size ≤ gr ∧ w0.heap.size ≤ gm ∧ w0.heap.size ≤ gt
  ne : gn ≠ gr ∧ gn ≠ gm ∧ gn ≠ gt ∧ gr ≠ gm ∧ gr ≠ gt ∧ gm ≠ gt
  fn : ∀ b, A1.map (·.block) = some b → b ≠ gn ∧ b ≠ gr ∧ b ≠ gm ∧ b ≠ gt
section
variable {w0 w w' : World} {gn gr gm gt : Nat} {K : List KnC} {k : Nat} {RA : Int → Option Addr × Nat} {fs : List Int} {A1 : Option Addr} {c1 : Nat}
theorem SetB.off {S : Nat → Prop} {b n : Nat} {M : List Int} (h : IntSet w b n M) (ho : Only S w w') (hS : ¬ S b) : IntSet w' b n M := by
  have hlt := h.lt
  obtain ⟨D', ⟨es, clock, hb, k1⟩, k2⟩ := h
  exact ⟨D', ⟨es, clock, (ho.block b hlt hS).trans hb, k1⟩, k2⟩
theorem RowZ.off {S T T' : Nat → Prop} {A : Option Addr} {vs : List Value} (h : RowZ w T A vs) (ho : Only S w w') (hT : ∀ b, T b → b < w.heap.size ∧ ¬ S b) (hm : ∀ b, T b → T' b) : RowZ w' T' A vs := fun hp => by
  obtain ⟨b, o, e, hb, hc⟩ := h hp
  refine ⟨b, o, e, hm b hb, fun i v hv => ?_⟩
  have e2 : w'.cell? ⟨b, o + i, none⟩ = w.cell? ⟨b, o + i, none⟩ := by simp only [World.cell?, ho.block b (hT b hb).1 (hT b hb).2]
  exact e2.trans (hc i v hv)
theorem StS.lt (h : StS w0 w gn gr gm gt K k RA fs A1 c1) : gn < w.heap.size ∧ gr < w.heap.size ∧ gm < w.heap.size ∧ gt < w.heap.size := ⟨h.box.lt, h.refs.lt, SetB.lt h.mr, SetB.lt h.tl⟩
theorem StS.below (h : StS w0 w gn gr gm gt K k RA fs A1 c1) (hb : Below w.heap.size w w') : StS w0 w' gn gr gm gt K k RA fs A1 c1 :=
  ⟨h.bl.trans (hb.mono h.bl.size), h.box.below hb h.box.lt, h.refs.under hb, fun x hx => (h.rows x hx).off (S := fun _ => False) (Only.of_below hb) (fun _ hb => ⟨hb.1, fun e => e⟩) (fun _ hb' => ⟨Nat.lt_of_lt_of_le hb'.1 hb.size, hb'.2⟩), h.mr.under hb, h.tl.under hb, h.fi.below hb, h.lo, h.ne, h.fn⟩
theorem recs_succ (hk : k < K.length) (x : Int) : recs K (k + 1) x = (recs K k x || x == (K.getD k knc0).ref) := by
  unfold recs
  rw [take_map hk]
  simp
  rfl
/-- The next record put in. -/
theorem StS.put {base : Nat} (h : StS w0 w gn gr gm gt K k RA fs A1 c1) (hk : k < K.length) (hn : (K.map (·.ref)).Nodup) (h64 : I64 (K.getD k knc0).ref) (hkl : K.length ≤ 480) {A' : Option Addr} {c' : Nat} (hq : OwnAt w base 3 1 A' (K.getD k knc0).refs.length c' (ints (K.getD k knc0).refs)) (hbase : ∀ b, base ≤ b → b ≠ gn ∧ b ≠ gr ∧ b ≠ gm ∧ b ≠ gt ∧ A1.map (·.block) ≠ some b) :
    ∃ w9, (Instr.mapUpdate 58 (.map (some gr)) (.int .i64 (K.getD k knc0).ref) (.slice A' (K.getD k knc0).refs.length c')).run Try.prog w = .ok () w9 ∧ StS w0 w9 gn gr gm gt K (k + 1) (fun y => if y = (K.getD k knc0).ref then (A', c') else RA y) fs A1 c1 ∧ Only (fun b => b = gr) w w9 := by
  obtain ⟨w9, hrun, h1, h2⟩ := h.refs.put ints_keyed (t := 58) (e := 23) Try.underlying58 (show k < maxLen by unfold maxLen; omega) intL_inj intL_key (int_key h64) (.slice A' (K.getD k knc0).refs.length c')
  have ho := only_of_grown h2
  have hne := h.ne
  have hlo := h.lo
  have hrf : refsF K (K.getD k knc0).ref = (K.getD k knc0).refs := refsF_at hn hk
  have hrs := fun z => recs_succ (K := K) hk z
  generalize K.getD k knc0 = x at *
  refine ⟨w9, hrun, ⟨ho.to_below h.bl h.bl.size (fun b e => by omega), ho.box h.box (fun e => by omega), ?_, fun z hz => ?_, SetB.off h.mr ho (fun e => by omega), SetB.off h.tl ho (fun e => by omega), h.fi.only ho (fun b hb e => (h.fn b hb).2.1 e), h.lo, h.ne, h.fn⟩, ho⟩
  · refine Eq.mp ?_ h1
    congr 1
    funext z
    rw [show recs K (k + 1) z = (recs K k z || z == x.ref) from hrs z]
    by_cases e : z = x.ref
    · subst e
      simp [hrf]
    · simp [e]
  · rw [show recs K (k + 1) z = (recs K k z || z == x.ref) from hrs z] at hz
    by_cases e : z = x.ref
    · subst e
      rw [if_pos rfl, hrf]
      intro hp
      obtain ⟨g, o, e1, _⟩ := hq.some_of (by simpa [ints] using hp)
      have hq2 := hq.only ho (fun b hb e => (hbase b (own_lo' hq b hb)).2.1 e)
      obtain ⟨b, o', e2, hlt, hc⟩ := hq2.row hp
      have := own_lo' hq b (by rw [e2]; rfl)
      exact ⟨b, o', e2, ⟨hlt, hbase b this⟩, hc⟩
    · rw [if_neg e]
      have hz' : recs K k z = true := by simpa [e] using hz
      exact (h.rows z hz').off ho (fun b hb => ⟨hb.1, hb.2.2.1⟩) (fun b hb => ⟨Nat.lt_of_lt_of_le hb.1 ho.size, hb.2⟩)
/-- The list of the live ones grown. -/
theorem StS.first (h : StS w0 w gn gr gm gt K k RA fs A1 c1) {fs' : List Int} {A' : Option Addr} {c' : Nat} (hg : w.grownBy w' (A1.map (·.block))) (hown : OwnAt w' w0.heap.size 3 1 A' fs'.length c' (ints fs')) (hA : ∀ g, A'.map (·.block) = some g → A1.map (·.block) = some g ∨ w.heap.size ≤ g) :
    StS w0 w' gn gr gm gt K k RA fs' A' c' := by
  have ho : Only (fun b => A1.map (·.block) = some b) w w' := ⟨hg.os, hg.tape, hg.output, hg.size, fun i hi hne => hg.block i hi (fun e => hne e.symm)⟩
  have hf := h.fn
  have hl := h.lt
  refine ⟨ho.to_below h.bl h.bl.size (fun b hb => own_lo' h.fi b hb), ho.box h.box (fun e => (hf _ e).1 rfl), h.refs.only ho (fun e => (hf _ e).2.1 rfl), fun x hx => (h.rows x hx).off ho (fun b hb => ⟨hb.1, hb.2.2.2.2.2⟩) (fun b hb => ⟨Nat.lt_of_lt_of_le hb.1 ho.size, hb.2.1, hb.2.2.1, hb.2.2.2.1, hb.2.2.2.2.1, fun e => ?_⟩), SetB.off h.mr ho (fun e => (hf _ e).2.2.1 rfl), SetB.off h.tl ho (fun e => (hf _ e).2.2.2 rfl), hown, h.lo, h.ne, fun b hb => ?_⟩
  · rcases hA b e with e | e
    · exact hb.2.2.2.2.2 e
    · have := hb.1; omega
  · rcases hA b hb with e | e
    · exact hf b e
    · omega
end
theorem refs_le {K : List KnC} (h : (allR K).length ≤ 1048576) {x : KnC} (hx : x ∈ K) : x.refs.length ≤ 1048576 := by
  refine Nat.le_trans ?_ h
  unfold allR
  clear h
  induction K with
  | nil => cases hx
  | cons z t ih =>
    rw [List.flatMap_cons, List.length_append]
    rcases List.mem_cons.1 hx with rfl | hx
    · omega
    · have := ih hx
      omega
theorem first_take {K : List KnC} {k : Nat} (h : k < K.length) : firstF (K.take (k + 1)) = firstF (K.take k) ++ (if (K.getD k knc0).live = true then [(K.getD k knc0).ref] else []) := by
  unfold firstF
  rw [List.take_add_one, List.filter_append, List.map_append, List.getD_eq_getElem?_getD, List.getElem?_eq_getElem h]
  simp only [Option.toList_some, Option.getD_some]
  by_cases e : K[k].live = true
  · rw [if_pos e]; simp [e]
  · rw [if_neg e]; simp [e]
theorem StS.made (w : World) (K : List KnC) : StS w ((((w.alloc (.map #[] 0)).alloc (.map #[] 0)).alloc (.map #[] 0)).alloc (.cells #[.map (some w.heap.size), .map (some (w.heap.size + 1)), .slice none 0 0, .map (some (w.heap.size + 1 + 1)), .int .i64 0] 61)) (w.heap.size + 1 + 1 + 1) w.heap.size (w.heap.size + 1) (w.heap.size + 1 + 1) K 0 (fun _ => (none, 0)) [] none 0 := by
  have e1 : (w.alloc (.map #[] 0)).heap.size = w.heap.size + 1 := by simp
  have e2 : ((w.alloc (.map #[] 0)).alloc (.map #[] 0)).heap.size = w.heap.size + 1 + 1 := by simp
  have e3 : (((w.alloc (.map #[] 0)).alloc (.map #[] 0)).alloc (.map #[] 0)).heap.size = w.heap.size + 1 + 1 + 1 := by simp
  have hm1 : IntSet ((w.alloc (.map #[] 0)).alloc (.map #[] 0)) (w.heap.size + 1) 0 [] := by rw [← e1]; exact SetB.made _
  have hm2 : IntSet (((w.alloc (.map #[] 0)).alloc (.map #[] 0)).alloc (.map #[] 0)) (w.heap.size + 1 + 1) 0 [] := by rw [← e2]; exact SetB.made _
  have hbx := Box.new (((w.alloc (.map #[] 0)).alloc (.map #[] 0)).alloc (.map #[] 0)) 61 #[.map (some w.heap.size), .map (some (w.heap.size + 1)), .slice none 0 0, .map (some (w.heap.size + 1 + 1)), .int .i64 0]
  rw [e3] at hbx
  refine ⟨(((Below.refl _ _).alloc (Nat.le_refl _) _ |>.alloc (by simp) _).alloc (by simp; omega) _).alloc (by simp; omega) _, hbx, ?_, fun x hx => ?_, (hm1.alloc _).alloc _, hm2.alloc _, OwnAt.nil, by omega, by omega, fun b hb => by cases hb⟩
  · have h0 : IntMap (w.alloc (.map #[] 0)) w.heap.size 0 (fun _ => none) := MapV.made w
    refine Eq.mp ?_ (((h0.alloc (.map #[] 0)).alloc (.map #[] 0)).alloc (.cells #[.map (some w.heap.size), .map (some (w.heap.size + 1)), .slice none 0 0, .map (some (w.heap.size + 1 + 1)), .int .i64 0] 61))
    congr 1
  · unfold recs at hx
    simp at hx
set_option maxRecDepth 100000 in
set_option maxHeartbeats 4000000 in
theorem start_kn (A0 : Option Addr) (c0 B : Nat) (K : List KnC) (w : World) (h : KnIn w B A0 K) (hB : B ≤ w.heap.size) (hn : (K.map (·.ref)).Nodup) (hkl : K.length ≤ 480) :
    Calls Try.prog 26 #[.slice A0 K.length c0] w fun e w' => ∃ gn gr gm gt RA A1 c1, e = .returned (.tuple #[.pointer (some ⟨gn, 0, none⟩), .slice A1 (firstF K).length c1]) ∧ StS w w' gn gr gm gt K K.length RA (firstF K) A1 c1 := by
  have HK := Lib.hid h
  have HN := Lib.hid hn
  have HM := Lib.hid (StS.made w K)
  have hmm := @run_makeMap Try.prog
  clear h hn
  go_enter Try.func26, Try.ntmps26
  go_upto_region 2 with fail
  generalize (((w.alloc (.map #[] 0)).alloc (.map #[] 0)).alloc (.map #[] 0)).alloc (.cells #[.map (some w.heap.size), .map (some (w.heap.size + 1)), .slice none 0 0, .map (some (w.heap.size + 1 + 1)), .int .i64 0] 61) = w4 at *
  obtain ⟨gn, hgn⟩ : ∃ g, w.heap.size + 1 + 1 + 1 = g := ⟨_, rfl⟩
  obtain ⟨gt, hgt⟩ : ∃ g, w.heap.size + 1 + 1 = g := ⟨_, rfl⟩
  rw [hgn] at HM ⊢
  rw [hgt] at HM
  generalize w.heap.size + 1 = gm at HM
  clear hmm hgn hgt
  go_wp2_with fail
  go_loopg [15, 5] K.length (fun gk i v wr => ∃ (k : Nat) (RA : Int → Option Addr × Nat) (A1 : Option Addr) (c1 : Nat), gk = K.length - k ∧ k ≤ K.length ∧ i = .int .i64 k ∧ v = .slice A1 (firstF (K.take k)).length c1 ∧ StS w wr gn w.heap.size gm gt K k RA (firstF (K.take k)) A1 c1)
  case atStart => exact ⟨0, _, none, 0, by omega, by omega, rfl, rfl, HM.out⟩
  case round =>
    clear HM
    obtain ⟨k, RA, A1, c1, hgk, hk, rfl, rfl, hst⟩ := hrel
    have HKK := Lib.hid hgk
    clear hgk
    by_cases hlt : k < K.length
    · have hbB : Below B w wr := hst.bl.mono hB
      obtain ⟨b1, o1, rfl, _, z0, z1, z2, z3⟩ := (HK.out.row.below hbB).kn hlt knc0
      have h64 := (HK.out.k64 _ (getD_mem knc0 hlt)).1
      have hrf := HK.out.refs _ (getD_mem knc0 hlt)
      have HFT := Lib.hid (first_take hlt)
      have hkl2 : (k : Int) < (K.length : Int) := by omega
      obtain ⟨w5, hw5⟩ : ∃ w5, w5 = wr.alloc (.cells #[.int .i64 (K.getD k knc0).ref, .bool (K.getD k knc0).awake, .bool (K.getD k knc0).root, .slice (K.getD k knc0).A (K.getD k knc0).refs.length (K.getD k knc0).cap] 28) := ⟨_, rfl⟩
      have hb5 : Below wr.heap.size wr w5 := by rw [hw5]; exact (Below.refl _ _).alloc (Nat.le_refl _) _
      have hx5 : Box w5 wr.heap.size 28 #[.int .i64 (K.getD k knc0).ref, .bool (K.getD k knc0).awake, .bool (K.getD k knc0).root, .slice (K.getD k knc0).A (K.getD k knc0).refs.length (K.getD k knc0).cap] := by rw [hw5]; exact Box.new wr _ _
      have hst5 := hst.below hb5
      have hlt5 := hst5.lt
      have HPUT := Lib.hid (fun (wk : World) (A' : Option Addr) (c' : Nat) (hb : Below w5.heap.size w5 wk) (hq : OwnAt wk w5.heap.size 3 1 A' (K.getD k knc0).refs.length c' (ints (K.getD k knc0).refs)) =>
        (hst5.below hb).put hlt HN.out h64 hkl hq (fun b hb => ⟨by omega, by omega, by omega, by omega, fun e => by
          have := hst5.fi.form
          rcases this with ⟨e1, _⟩ | ⟨g1, o1, e1⟩
          · rw [e1] at e; cases e
          · subst e1
            have := hst5.fi.lt
            simp at e
            omega⟩))
      have HCL := Lib.hid (fun (w' : World) (hb : Below w5.heap.size w5 w') => clone_any (K.getD k knc0).A (K.getD k knc0).cap (K.getD k knc0).refs B w' ((hrf.1.below hbB).below (hb5.mono (Nat.le_trans hB hst.bl.size)) |>.below (hb.mono (Nat.le_trans (Nat.le_trans hB hst.bl.size) hb5.size))) hrf.2.2.2 (by have := hrf.2.1; have := HK.out.all; have := refs_le HK.out.all (getD_mem knc0 hlt); omega))
      have HST5 := Lib.hid hst5
      have HX5 := Lib.hid hx5
      generalize K.getD k knc0 = x at *
      obtain ⟨xr, xa, xt, xA, xc, xrefs⟩ := x
      dsimp only at z0 z1 z2 z3 hw5 HX5 HPUT HCL HFT
      have HSK : Hid (∀ w', Below w5.heap.size w5 w' → Below w5.heap.size w5 w' ∧ w'.cell? ⟨gn, 0, none⟩ = some (.map (some w.heap.size)) ∧ w'.cell? ⟨wr.heap.size, 0, none⟩ = some (.int .i64 xr) ∧ w'.cell? ⟨wr.heap.size, 3, none⟩ = some (.slice xA xrefs.length xc)) := fun w' hb => ⟨hb, (HST5.out.box.below hb HST5.out.box.lt).cell 0, (HX5.out.below hb HX5.out.lt).cell 0, (HX5.out.below hb HX5.out.lt).cell 3⟩
      have hst_gr : w.heap.size < wr.heap.size := hst.lt.2.1
      have HWS := Lib.hid (show wr.heap.size < w5.heap.size from hx5.lt)
      clear hst hst5 hx5 hb5 h64 hrf hlt5 hbB
      go_upto_region 6 with fail
      rw [← hw5]
      clear z0 z1 z2 z3 hw5
      have hbk0 : Below w5.heap.size w5 w5.drew := (Below.refl w5.heap.size w5).drew
      have hHeld := HSK.out w5.drew hbk0
      refine wp_region_C (S := (fun w' => Below w5.heap.size w5 w' ∧ w'.cell? ⟨gn, 0, none⟩ = some (.map (some w.heap.size)) ∧ w'.cell? ⟨wr.heap.size, 0, none⟩ = some (.int .i64 xr) ∧ w'.cell? ⟨wr.heap.size, 3, none⟩ = some (.slice xA xrefs.length xc))) (k := 9) (by kernel_rfl) ?_
      refine wpAnyC_takeU (i := 0) (v := ?_) rfl (by kernel_rfl) (by kernel_rfl) (by kernel_rfl) (by kernel_rfl) (fun _ _ _ h => h) (Or.inl ⟨by rfl, ?_⟩) (fun _ => by assumption) ?_
      rotate_left
      · (intro w _; go_simp; (try with_reducible rfl))
      try simp only [List.getElem_toArray]
      try simp only [List.getElem_cons_succ]
      try simp only [List.getElem_cons_zero]
      try simp only [Act.put]
      try simp only [List.setIfInBounds_toArray]
      try simp only [List.set_cons_succ]
      try simp only [List.set_cons_zero]
      refine wpAnyC_takeU (i := 1) (v := ?_) rfl (by kernel_rfl) (by kernel_rfl) (by kernel_rfl) (by kernel_rfl) (fun _ _ _ h => h) (Or.inl ⟨by rfl, ?_⟩) (fun _ => by assumption) ?_
      rotate_left
      · (intro w _; go_simp; (try with_reducible rfl))
      try simp only [List.getElem_toArray]
      try simp only [List.getElem_cons_succ]
      try simp only [List.getElem_cons_zero]
      try simp only [Act.put]
      try simp only [List.setIfInBounds_toArray]
      try simp only [List.set_cons_succ]
      try simp only [List.set_cons_zero]
      refine wpAnyC_takeU (i := 2) (v := ?_) rfl (by kernel_rfl) (by kernel_rfl) (by kernel_rfl) (by kernel_rfl) (fun _ _ _ h => h) (Or.inl ⟨by rfl, ?_⟩) (fun _ => by assumption) ?_
      rotate_left
      · (intro w _; go_simp; (try with_reducible rfl))
      try simp only [List.getElem_toArray]
      try simp only [List.getElem_cons_succ]
      try simp only [List.getElem_cons_zero]
      try simp only [Act.put]
      try simp only [List.setIfInBounds_toArray]
      try simp only [List.set_cons_succ]
      try simp only [List.set_cons_zero]
      refine wpAnyC_take (i := 3) (v := ?_) rfl (by kernel_rfl) (by kernel_rfl) (by kernel_rfl) (by kernel_rfl) (by kernel_rfl) (fun _ _ _ h => h) (Or.inl ⟨by rfl, ?_⟩) (by assumption) ?_
      rotate_left
      · (intro w hSw; (try dsimp only at hSw); go_simp; (try with_reducible rfl))
      try simp only [List.getElem_toArray]
      try simp only [List.getElem_cons_succ]
      try simp only [List.getElem_cons_zero]
      try simp only [Act.put]
      try simp only [List.setIfInBounds_toArray]
      try simp only [List.set_cons_succ]
      try simp only [List.set_cons_zero]
      refine wpAnyC_takeU (i := 4) (v := ?_) rfl (by kernel_rfl) (by kernel_rfl) (by kernel_rfl) (by kernel_rfl) (fun _ _ _ h => h) (Or.inl ⟨by rfl, ?_⟩) (fun _ => by assumption) ?_
      rotate_left
      · (intro w _; go_simp; (try with_reducible rfl))
      try simp only [List.getElem_toArray]
      try simp only [List.getElem_cons_succ]
      try simp only [List.getElem_cons_zero]
      try simp only [Act.put]
      try simp only [List.setIfInBounds_toArray]
      try simp only [List.set_cons_succ]
      try simp only [List.set_cons_zero]
      refine wpAnyC_take (i := 5) (v := ?_) rfl (by kernel_rfl) (by kernel_rfl) (by kernel_rfl) (by kernel_rfl) (by kernel_rfl) (fun _ _ _ h => h) (Or.inl ⟨by rfl, ?_⟩) (by assumption) ?_
      rotate_left
      · (intro w hSw; (try dsimp only at hSw); go_simp; (try with_reducible rfl))
      try simp only [List.getElem_toArray]
      try simp only [List.getElem_cons_succ]
      try simp only [List.getElem_cons_zero]
      try simp only [Act.put]
      try simp only [List.setIfInBounds_toArray]
      try simp only [List.set_cons_succ]
      try simp only [List.set_cons_zero]
      refine wpAnyC_takeU (i := 6) (v := ?_) rfl (by kernel_rfl) (by kernel_rfl) (by kernel_rfl) (by kernel_rfl) (fun _ _ _ h => h) (Or.inl ⟨by rfl, ?_⟩) (fun _ => by assumption) ?_
      rotate_left
      · (intro w _; go_simp; (try with_reducible rfl))
      try simp only [List.getElem_toArray]
      try simp only [List.getElem_cons_succ]
      try simp only [List.getElem_cons_zero]
      try simp only [Act.put]
      try simp only [List.setIfInBounds_toArray]
      try simp only [List.set_cons_succ]
      try simp only [List.set_cons_zero]
      refine wpAnyC_take (i := 7) (v := ?_) rfl (by kernel_rfl) (by kernel_rfl) (by kernel_rfl) (by kernel_rfl) (by kernel_rfl) (fun _ _ _ h => h) (Or.inl ⟨by rfl, ?_⟩) (by assumption) ?_
      rotate_left
      · (intro w hSw; (try dsimp only at hSw); go_simp; (try with_reducible rfl))
      try simp only [List.getElem_toArray]
      try simp only [List.getElem_cons_succ]
      try simp only [List.getElem_cons_zero]
      try simp only [Act.put]
      try simp only [List.setIfInBounds_toArray]
      try simp only [List.set_cons_succ]
      try simp only [List.set_cons_zero]
      refine wpAnyC_ready (rs := [8]) (by kernel_rfl) (by simp) ?_
      refine AllReadyC.cons rfl (fun K hK => ?_) AllReadyC.nil
      go_simp
      go_at_call 32
      refine (HCL.out w5.drew (Below.refl w5.heap.size w5).drew).mono ?_
      rintro e wk ⟨v, rfl, hown, hbk⟩
      obtain ⟨A7, c7, rfl, hq⟩ := OwnAt.of_own hown
      obtain ⟨w9, hrun, hst9, ho9⟩ := HPUT.out wk A7 c7 ((Below.refl w5.heap.size w5).drew.trans hbk) hq
      have HST9 := Lib.hid hst9
      have HO9 := Lib.hid ho9
      have hbk1 : Below w5.heap.size w5 wk := (Below.refl w5.heap.size w5).drew.trans hbk
      clear hown hq hst9 ho9
      go_wp2_with fail
      refine hK.out _ _ (fun _ => (HSK.out _ hbk1)) ?_
      clear hK K
      try simp only [List.getElem_toArray]
      try simp only [List.getElem_cons_succ]
      try simp only [List.getElem_cons_zero]
      try simp only [Act.put]
      try simp only [List.setIfInBounds_toArray]
      try simp only [List.set_cons_succ]
      try simp only [List.set_cons_zero]
      refine wpAnyC_ready (rs := [9]) (by kernel_rfl) (by simp) ?_
      refine AllReadyC.cons rfl (fun K hK => ?_) AllReadyC.nil
      go_simp
      refine hK.out _ _ (fun h => by cases h) ?_
      clear hK K
      try simp only [List.getElem_toArray]
      try simp only [List.getElem_cons_succ]
      try simp only [List.getElem_cons_zero]
      try simp only [Act.put]
      try simp only [List.setIfInBounds_toArray]
      try simp only [List.set_cons_succ]
      try simp only [List.set_cons_zero]
      refine wpAnyC_done (by kernel_rfl) ?_ _
      have hbx : Below w5.heap.size w5 wk := hbk1
      have e0 : w9.cell? ⟨wr.heap.size, 0, none⟩ = some (.int .i64 xr) := (HO9.out.box (HX5.out.below hbx HX5.out.lt) (fun e => by have := hst_gr; omega)).cell 0
      have e1 : w9.cell? ⟨wr.heap.size, 1, none⟩ = some (.bool xa) := (HO9.out.box (HX5.out.below hbx HX5.out.lt) (fun e => by have := hst_gr; omega)).cell 1
      have e2 : w9.cell? ⟨wr.heap.size, 2, none⟩ = some (.bool xt) := (HO9.out.box (HX5.out.below hbx HX5.out.lt) (fun e => by have := hst_gr; omega)).cell 2
      clear hrun hbk hbk0 hbk1 hHeld hbx
      cases hlv : (xt || xa) with
      | false =>
        have hxt : xt = false := by cases xt <;> simp_all
        have hxa : xa = false := by cases xa <;> simp_all
        subst hxt hxa
        have HF9 : Hid (firstF (K.take (k + 1)) = firstF (K.take k)) := by show _ = _; rw [HFT.out]; simp [KnC.live]
        clear hlv
        go_wp2_with fail
        go_roundg (K.length - (k + 1))
        case measure => have := HKK.out; omega
        case rel => exact ⟨k + 1, _, A1, c1, rfl, by omega, by go_num, by rw [HF9.out], by rw [HF9.out]; exact HST9.out⟩
      | true =>
        have HF9 : Hid (firstF (K.take (k + 1)) = firstF (K.take k) ++ [xr]) := by show _ = _; rw [HFT.out]; simp [KnC.live, hlv]
        have hst9 := HST9.out.below ((Below.refl w9.heap.size w9).alloc (Nat.le_refl _) (.cells #[.int .i64 xr] 3))
        have HSX := Lib.hid hst9
        have hfl : (firstF (K.take k)).length + 1 ≤ 4398046511104 := by
          have h1 : (firstF (K.take k)).length ≤ (K.take k).length := by
            unfold firstF
            rw [List.length_map]
            exact List.length_filter_le _ _
          rw [List.length_take] at h1
          omega
        have e3 : (w9.alloc (.cells #[.int .i64 xr] 3)).cell? ⟨w9.heap.size, 0, none⟩ = some (.int .i64 xr) := (Box.new w9 3 #[.int .i64 xr]).cell 0
        have HE3 := Lib.hid e3
        have HFL := Lib.hid hfl
        have HBS := Lib.hid hst9.bl.size
        obtain ⟨fs, hfs⟩ : ∃ fs, firstF (K.take k) = fs := ⟨_, rfl⟩
        rw [hfs] at HSX HFL HF9
        clear hst9 hfl e3
        have hlv2 : (xt = true) ∨ (xt = false ∧ xa = true) := by cases xt <;> simp_all
        clear hlv
        rw [hfs]
        clear hfs HFT HST9
        rcases hlv2 with rfl | ⟨rfl, rfl⟩
        all_goals (
          go_wp2_with (at_builtin; refine wpList_append_k rfl (.tmp 34) (.tmp 37) rfl w.heap.size A1 c1 fs rfl HSX.out.fi w9.heap.size xr rfl HE3.out HFL.out HBS.out ?_; intro A5 c5 w8 j1 j2 j3; have H5 := Lib.hid (HSX.out.first j2 j1 j3); clear j1 j2 j3)
          go_roundg (K.length - (k + 1))
          case measure => have := HKK.out; omega
          case rel => exact ⟨k + 1, _, A5, c5, rfl, by omega, by go_num, by rw [HF9.out]; simp, by rw [HF9.out]; exact H5.out⟩)
    · obtain rfl : k = K.length := by omega
      have hln : ¬ (K.length : Int) < (K.length : Int) := by omega
      rw [List.take_length] at hst ⊢
      have HST := Lib.hid hst
      clear hst HKK
      go_wp2_with fail
      go_ret2
      exact ⟨gn, w.heap.size, gm, gt, RA, A1, c1, rfl, HST.out⟩
end Go.Proofs.Ytbhdagjilmgahaa
