
/-
  The reference's Knows.
-/
import Derived.Test.YtbhdagjilmgahaaKn7
namespace Go.Proofs.Ytbhdagjilmgahaa
open Go.RowKit

theorem enters_knows1 : Enters 28 := fun _ _ => by kernel_rfl
set_option maxRecDepth 100000 in
theorem knows1_any (x : KnC) (g : Nat) (r : Int) (w : World) (hc : w.cell? ⟨g, 0, none⟩ = some (.int .i64 r)) :
    Calls Try.prog 28 (#[knV x] ++ #[.pointer (some ⟨g, 0, none⟩)]) w fun e w' => e = .returned (.bool (x.ref == r)) ∧ Below w.heap.size w w' := by
  have hg := lt_of_cell hc
  have hb : Below w.heap.size w (w.alloc (.cells #[.int .i64 x.ref, .bool x.awake, .bool x.root, .slice x.A x.refs.length x.cap] 28)) := (Below.refl _ _).alloc (Nat.le_refl _) _
  have c1 := (hb.cell (p := ⟨g, 0, none⟩) hg).trans hc
  have HB := Lib.hid hb
  clear hb hc
  unfold knV
  show Calls _ _ #[_, _] _ _
  go_enter Try.func28, Try.ntmps28
  go_wp2_with fail
  go_ret
  exact ⟨rfl, HB.out⟩
theorem any_refs (l : List KnC) (r : Int) : (l.any fun x => x.ref == r) = (l.map (·.ref)).contains r := by
  induction l with
  | nil => rfl
  | cons x t ih =>
    rw [List.any_cons, List.map_cons, List.contains_cons, ih]
    congr 1
    exact Bool.eq_iff_iff.2 ⟨fun h => by simp at h ⊢; exact h.symm, fun h => by simp at h ⊢; exact h.symm⟩
theorem row_take {w : World} {B : Nat} {A : Option Addr} {K : List KnC} (h : Row w B A (flat knC K)) (k : Nat) : Row w B A (flat knC (K.take k)) := fun hp => by
  rw [flat_len knC_len, List.length_take] at hp
  obtain ⟨b, o, e, hb, hc⟩ := h (by rw [flat_len knC_len]; omega)
  refine ⟨b, o, e, hb, fun i v hv => hc i v ?_⟩
  have hi := (List.getElem?_eq_some_iff.1 hv).1
  have e2 : flat knC K = flat knC (K.take k) ++ flat knC (K.drop k) := by rw [← flat_append, List.take_append_drop]
  rw [e2, List.getElem?_append_left hi]
  exact hv
set_option maxRecDepth 100000 in
set_option maxHeartbeats 2000000 in
theorem rknows_kn (A : Option Addr) (c B : Nat) (K : List KnC) (w : World) (h : KnIn w B A K) (hB : B ≤ w.heap.size) (hl : K.length ≤ 1048576) (hcap : K.length ≤ c) :
    Calls Try.prog 8 #[.slice A K.length c] w fun e w' => e = .returned (.int .i64 (knowsF K)) ∧ Below w.heap.size w w' := by
  obtain ⟨r, hr⟩ : ∃ r, knowsF K = r := ⟨_, rfl⟩
  rw [hr]
  unfold knowsF at hr
  have HR := Lib.hid hr
  have HK := Lib.hid h
  clear hr h
  by_cases l1 : 480 < K.length
  · have d1 : (480 : Int) < (K.length : Int) := by omega
    have HRV : Hid (r = 2) := by show _ = _; rw [← HR.out, if_pos l1]
    clear HR
    go_enter Try.func8, Try.ntmps8
    go_wp2_with fail
    go_ret
    exact ⟨by rw [HRV.out]; rfl, Below.refl _ _⟩
  have d1 : ¬ (480 : Int) < (K.length : Int) := by omega
  rw [if_neg l1] at HR
  go_enter Try.func8, Try.ntmps8
  go_wp2_with fail
  go_loopg [10] K.length (fun gk i wr => ∃ k : Nat, gk = K.length - k ∧ k ≤ K.length ∧ i = .int .i64 k ∧ ((K.take k).map (·.ref)).Nodup ∧ Below w.heap.size w wr)
  case atStart => exact ⟨0, by omega, by omega, rfl, by simp, Below.refl _ _⟩
  case round =>
    obtain ⟨k, hgk, hk, rfl, hnd, hb⟩ := hrel
    have HKK := Lib.hid hgk
    have HND := Lib.hid hnd
    have HB := Lib.hid hb
    clear hgk hnd
    by_cases hlt : k < K.length
    · obtain ⟨b1, o1, rfl, _, z0, z1, z2, z3⟩ := (HK.out.row.below (hb.mono hB)).kn hlt knc0
      have HTK := Lib.hid (take_map hlt)
      have HDU := Lib.hid (knows_dup hlt)
      have hkl : (k : Int) < (K.length : Int) := by omega
      have hkc : (k : Int) ≤ (c : Int) := by omega
      have hk0 : (0 : Int) ≤ (k : Int) := by omega
      have HKT : Hid ((K.take k).length = k) := by show _ = _; rw [List.length_take]; omega
      have HRT := Lib.hid (fun (w' : World) (hb' : Below w.heap.size w w') => row_take (HK.out.row.below (hb'.mono hB)) k)
      generalize K.getD k knc0 = x at *
      have hb2 : Below wr.heap.size wr (wr.alloc (.cells #[.int .i64 x.ref, .bool x.awake, .bool x.root, .slice x.A x.refs.length x.cap] 28)) := (Below.refl _ _).alloc (Nat.le_refl _) _
      have HB2 := Lib.hid (hb.trans (hb2.mono hb.size))
      have hx2 := Box.new wr 28 #[.int .i64 x.ref, .bool x.awake, .bool x.root, .slice x.A x.refs.length x.cap]
      have HX2 := Lib.hid hx2
      obtain ⟨w5, hw5⟩ : ∃ w5, w5 = wr.alloc (.cells #[.int .i64 x.ref, .bool x.awake, .bool x.root, .slice x.A x.refs.length x.cap] 28) := ⟨_, rfl⟩
      rw [← hw5] at HB2 HX2
      have hcf := containsFunc_kn (some ⟨b1, o1, none⟩) c (K.take k) 28 #[.pointer (some ⟨wr.heap.size, 0, none⟩)] (fun y => y.ref == x.ref) B (fun w' => Below w5.heap.size w5 w') w5 enters_knows1 (by rw [HKT.out]; unfold maxLen; omega) (fun w' hb' => HRT.out w' (HB2.out.trans (hb'.mono HB2.out.size)))
        (fun y _ w' hb' => (knows1_any y wr.heap.size x.ref w' ((HX2.out.below hb' HX2.out.lt).cell 0)).mono fun e w2 h2 => ⟨h2.1, hb'.trans (h2.2.mono hb'.size)⟩) (Below.refl _ _)
      rw [HKT.out, any_refs] at hcf
      have HCF := Lib.hid hcf
      clear hb hb2 hx2 hcf
      cases hc : ((K.take k).map (·.ref)).contains x.ref with
      | true =>
        rw [hc] at HCF
        have HRV : Hid (r = 5) := by show _ = _; rw [← HR.out, if_neg (HDU.out hc)]
        clear HR HDU hc
        go_wp2_with fail
        rw [← hw5]
        refine HCF.out.mono ?_
        rintro e w9 ⟨rfl, hb9⟩
        have HB9 := Lib.hid (HB2.out.trans (hb9.mono HB2.out.size))
        clear hb9
        go_wp2_with fail
        go_ret
        exact ⟨by rw [HRV.out]; rfl, HB9.out⟩
      | false =>
        rw [hc] at HCF
        have HN9 : Hid (((K.take k).map (·.ref) ++ [x.ref]).Nodup) := by
          show List.Nodup _
          rw [List.nodup_append]
          exact ⟨HND.out, by simp, fun a ha b hb e => by rw [List.mem_singleton] at hb; subst hb e; rw [show ((K.take k).map (·.ref)).contains x.ref = true by simpa using ha] at hc; cases hc⟩
        clear HR HDU hc
        go_wp2_with fail
        rw [← hw5]
        refine HCF.out.mono ?_
        rintro e w9 ⟨rfl, hb9⟩
        have HB9 := Lib.hid (HB2.out.trans (hb9.mono HB2.out.size))
        clear hb9
        go_wp2_with fail
        go_roundg (K.length - (k + 1))
        case measure => have := HKK.out; omega
        case rel => exact ⟨k + 1, rfl, by omega, by go_num, by rw [HTK.out]; exact HN9.out, HB9.out⟩
    · obtain rfl : k = K.length := by omega
      have hln : ¬ (K.length : Int) < (K.length : Int) := by omega
      have HRV : Hid (r = 0) := by
        show _ = _
        have := HND.out
        rw [List.take_length] at this
        rw [← HR.out, if_pos this]
      clear HR hb HKK
      go_wp2_with fail
      go_ret
      exact ⟨by rw [HRV.out]; rfl, HB.out⟩
end Go.Proofs.Ytbhdagjilmgahaa
