
/-
  cycle: (*Node).Counts and (*Node).Out; the law's small functions.
-/
import Derived.Test.YtbhdagjilmgahaaKn8
import Derived.Maps.OwnSet
import Derived.BigQuiet
namespace Go.Proofs.Ytbhdagjilmgahaa
open Go.RowKit Go.Maps

theorem size_keys {D : DataW Unit} {told : List Int} (hm : IsMap D) (hn : told.Nodup) (h : ∀ y ∈ told, D.atKey (intL y) (.lit (.bool false)) = .lit (.bool true)) : told.length ≤ Maps.size D := by
  obtain ⟨es, rfl⟩ := hm
  rw [size_eq]
  have h1 : told.length ≤ (es.filterMap fun p => match p.1 with | .int _ a => some a | _ => none).length := nodup_len _ _ hn fun y hy => by
    have h2 := h y hy
    unfold DataW.atKey at h2
    dsimp only at h2
    cases hf : es.find? fun p => p.1.sameKey (intL y) with
    | none => rw [hf] at h2; cases h2
    | some p =>
      have h3 := List.find?_some (p := fun p : Lit × DataW Unit => p.1.sameKey (intL y)) hf
      have h4 := WideAt.sameKey_eq h3
      refine List.mem_filterMap.2 ⟨p, List.mem_of_find?_eq_some hf, ?_⟩
      rw [h4]
      rfl
  exact Nat.le_trans h1 (List.length_filterMap_le ..)
section
variable {W w : World} {N gn gr gm gt : Nat} {K : List KnC} {RA : Int → Option Addr × Nat} {M told due : List Int} {nM : Nat} {D : Option Addr} {cd : Nat} {came : Int}
theorem NdSt.len_told (h : NdSt W w N gn gr gm gt K RA M told due nM D cd came) (ty : TypeId) : (Builtin.len_ #[59] ty #[.map (some gt)]).run Try.prog w = .ok (.int .i64 (told.length : Int)) w := by
  obtain ⟨D, h1, h2, h3⟩ := h.tl
  have e := h1.len Try.underlying59 ty
  have e1 := h1.size_le
  have e2 := size_keys h2 h.tn.1 fun y hy => by
    rw [h3 y]
    congr 2
    simpa using hy
  have e3 : Maps.size D = told.length := by omega
  rw [e3] at e
  exact e
set_option maxRecDepth 100000 in
theorem counts_any (h : NdSt W w N gn gr gm gt K RA M told due nM D cd came) :
    Calls Try.prog 23 #[.pointer (some ⟨gn, 0, none⟩)] w fun e w' => e = .returned (.tuple #[.int .i64 (told.length : Int), .int .i64 came]) ∧ Below w.heap.size w w' := by
  have q3 : w.cell? ⟨gn, 3, none⟩ = some (.map (some gt)) := h.box.cell 3
  have q4 : w.cell? ⟨gn, 4, none⟩ = some (.int .i64 came) := h.box.cell 4
  have hl := fun (m : Nat) (ty : TypeId) => (show NdSt W (w.drewN m) N gn gr gm gt K RA M told due nM D cd came from h.below (below_drewN (Below.refl _ w) m)).len_told ty
  clear h
  go_enter Try.func23, Try.ntmps23
  go_wp2_with fail
  go_quiet (fail)
  all_goals (go_wp2_with fail; go_ret2; exact ⟨rfl, below_drewN (Below.refl _ _) _⟩)
set_option maxRecDepth 100000 in
theorem out_any (h : NdSt W w N gn gr gm gt K RA M told due nM D cd came) (hK : (allR K).length ≤ 1048576) :
    Calls Try.prog 14 #[.pointer (some ⟨gn, 0, none⟩)] w fun e w' => e = .returned (.slice D due.length cd) ∧ OwnAt w' W.heap.size 3 1 D due.length cd (ints (srtI due)) ∧ NdSt W w' N gn gr gm gt K RA M told [] nM none 0 came ∧ Only (fun b => b = gn ∨ D.map (·.block) = some b) w w' := by
  have q2 : w.cell? ⟨gn, 2, none⟩ = some (.slice D due.length cd) := h.box.cell 2
  have f2 : w.frozen? ⟨gn, 2, none⟩ = false := h.box.frozen 2
  have hdl := h.dl
  have htl := h.told_len
  obtain ⟨g1, g2⟩ := h.grow (w' := w) (D' := none) (cd' := 0) (due' := []) ⟨rfl, rfl, rfl, Nat.le_refl _, fun _ _ _ => rfl⟩ OwnAt.nil (fun g hg => by cases hg) (Nat.zero_le _)
  obtain ⟨w1, hw1⟩ : ∃ w1, w1 = w.setCell ⟨gn, 2, none⟩ (.slice none 0 0) := ⟨_, rfl⟩
  have hdu : OwnAt w1 W.heap.size 3 1 D due.length cd (ints due) := by
    rw [hw1]
    refine h.du.far (fun g o e => ?_) _
    have h1 := h.dn g (by rw [e]; rfl)
    have h2 := h.hi
    show g ≠ gn
    omega
  have hdn := h.dn
  have HSO := Lib.hid (sort_own D due.length cd W.heap.size due w1 hdu rfl (by omega))
  rw [show ([] : List Int).length = 0 from rfl, ← hw1] at g1 g2
  have HG := Lib.hid (And.intro g1 g2)
  have HDN := Lib.hid hdn
  clear h hdu g1 g2 hdn
  subst hw1
  go_enter Try.func14, Try.ntmps14
  go_wp2_with fail
  refine HSO.out.mono ?_
  rintro e w2 ⟨rfl, ho2, hon2⟩
  have HO2 := Lib.hid ho2
  have HN2 := Lib.hid (HG.out.1.off hon2 (fun b hb => ⟨HDN.out b hb, fun e => by cases e⟩))
  have HX2 := Lib.hid (HG.out.2.trans (hon2.more (fun b hb => .inr hb)))
  clear ho2 hon2 HSO
  go_wp2_with fail
  go_ret
  exact ⟨rfl, HO2.out, HN2.out, HX2.out⟩
end
set_option maxHeartbeats 400000 in
theorem at_any (A : Option Addr) (n c : Nat) (xs : List Int) (i : Int) (B : Nat) (w : World) (h : Row w B A (ints xs)) (hn : xs.length = n) (hm : n ≤ maxLen) (hi : 0 ≤ i) :
    Calls Try.prog 16 #[.slice A n c, .int .i64 i] w fun e w' => e = .returned (.int .i64 (xs.getD i.toNat 0)) ∧ w = w' := by
  obtain ⟨k, rfl⟩ := Int.eq_ofNat_of_zero_le hi
  rw [Int.toNat_natCast]
  subst hn
  unfold maxLen at hm
  by_cases hk : k < xs.length
  · obtain ⟨b, o, rfl, _, hc⟩ := h.int hk
    generalize xs.getD k 0 = z at *
    go_enter Try.func16, Try.ntmps16
    go_wp2
    go_ret
    exact ⟨rfl, rfl⟩
  · have hz : xs.getD k 0 = 0 := by simp [List.getD_eq_getElem?_getD, List.getElem?_eq_none (show xs.length ≤ k by omega)]
    rw [hz]
    clear hz
    go_enter Try.func16, Try.ntmps16
    go_wp2
    go_ret
    exact ⟨rfl, rfl⟩
theorem enters_cp2 : Enters 22 := fun _ _ => by kernel_rfl
set_option maxRecDepth 100000 in
theorem cp2_any (x : KnC) (g : Nat) (r : Int) (w : World) (hc : w.cell? ⟨g, 0, none⟩ = some (.int .i64 r)) :
    Calls Try.prog 22 (#[knV x] ++ #[.pointer (some ⟨g, 0, none⟩)]) w fun e w' => e = .returned (.bool (x.ref == r)) ∧ Below w.heap.size w w' := by
  have hg := lt_of_cell hc
  have hb : Below w.heap.size w (w.alloc (.cells #[.int .i64 x.ref, .bool x.awake, .bool x.root, .slice x.A x.refs.length x.cap] 28)) := (Below.refl _ _).alloc (Nat.le_refl _) _
  have c1 := (hb.cell (p := ⟨g, 0, none⟩) hg).trans hc
  have HB := Lib.hid hb
  clear hb hc
  unfold knV
  show Calls _ _ #[_, _] _ _
  go_enter Try.func22, Try.ntmps22
  go_wp2_with fail
  go_ret
  exact ⟨rfl, HB.out⟩
theorem enters_cp1 : Enters 18 := fun _ _ => by kernel_rfl
set_option maxRecDepth 100000 in
theorem cp1_any (x : KnC) (g : Nat) (A : Option Addr) (c B : Nat) (xs : List Int) (w : World) (hc : w.cell? ⟨g, 0, none⟩ = some (.slice A xs.length c)) (hr : Row w B A (ints xs)) (hB : B ≤ w.heap.size) (hm : xs.length ≤ maxLen) :
    Calls Try.prog 18 (#[knV x] ++ #[.pointer (some ⟨g, 0, none⟩)]) w fun e w' => e = .returned (.bool (x.ref == xs.getD 1 0)) ∧ Below w.heap.size w w' := by
  have hg := lt_of_cell hc
  have hb : Below w.heap.size w (w.alloc (.cells #[.int .i64 x.ref, .bool x.awake, .bool x.root, .slice x.A x.refs.length x.cap] 28)) := (Below.refl _ _).alloc (Nat.le_refl _) _
  have c1 := (hb.cell (p := ⟨g, 0, none⟩) hg).trans hc
  have HAT := Lib.hid (fun (m : Nat) => (at_any A xs.length c xs 1 B ((w.alloc (.cells #[.int .i64 x.ref, .bool x.awake, .bool x.root, .slice x.A x.refs.length x.cap] 28)).drewN m) ((hr.below (hb.mono hB)).below (below_drewN (Below.refl _ _) m)) rfl hm (by omega)).mono (R' := fun e w' => e = .returned (.int .i64 (xs.getD 1 0)) ∧ w' = (w.alloc (.cells #[.int .i64 x.ref, .bool x.awake, .bool x.root, .slice x.A x.refs.length x.cap] 28)).drewN m) (fun e w' h => ⟨h.1, h.2.symm⟩))
  have HB := Lib.hid hb
  generalize xs.getD 1 0 = z at *
  generalize xs.length = n at *
  clear hb hc hr
  unfold knV
  show Calls _ _ #[_, _] _ _
  go_enter Try.func18, Try.ntmps18
  go_upto_region 1 with fail
  go_quiet ((go_at_call 16; exact Calls.quiet_of_same (HAT.out _)))
  all_goals (go_wp2_with fail; go_ret; exact ⟨rfl, below_drewN HB.out _⟩)
end Go.Proofs.Ytbhdagjilmgahaa
