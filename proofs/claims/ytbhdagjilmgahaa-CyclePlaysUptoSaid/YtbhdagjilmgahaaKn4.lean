
/-
  cycle: check; what the records read as.
-/
import Derived.Test.YtbhdagjilmgahaaKn3
namespace Go.Proofs.Ytbhdagjilmgahaa
open Go.RowKit

/-- The records read as K, in blocks under B. -/
structure KnIn (w : World) (B : Nat) (A : Option Addr) (K : List KnC) : Prop where
  row : Row w B A (flat knC K)
  refs : ∀ x ∈ K, Row w B x.A (ints x.refs) ∧ x.refs.length ≤ x.cap ∧ x.cap ≤ maxLen ∧ (x.A = none → x.cap = 0)
  k64 : K64 K
  all : (allR K).length ≤ 1048576
theorem KnIn.below {w w' : World} {B : Nat} {A : Option Addr} {K : List KnC} (h : KnIn w B A K) (hb : Below B w w') : KnIn w' B A K :=
  ⟨h.row.below hb, fun x hx => ⟨(h.refs x hx).1.below hb, (h.refs x hx).2⟩, h.k64, h.all⟩
instance (K : List KnC) : Decidable ((K.map (·.ref)).Nodup) := inferInstance
def knowsF (K : List KnC) : Int := if 480 < K.length then 2 else if (K.map (·.ref)).Nodup then 0 else 5
theorem take_map {K : List KnC} {k : Nat} (h : k < K.length) : (K.take (k + 1)).map (·.ref) = (K.take k).map (·.ref) ++ [(K.getD k knc0).ref] := by
  rw [List.take_add_one, List.map_append, List.getD_eq_getElem?_getD, List.getElem?_eq_getElem h]
  rfl
theorem knows_dup {K : List KnC} {k : Nat} (h : k < K.length) (hc : ((K.take k).map (·.ref)).contains (K.getD k knc0).ref = true) : ¬ (K.map (·.ref)).Nodup := fun hn => by
  have h1 : ((K.take (k + 1)).map (·.ref)).Nodup := List.Nodup.sublist (List.Sublist.map _ (List.take_sublist _ _)) hn
  rw [take_map h, List.nodup_append] at h1
  exact h1.2.2 _ (by simpa using hc) _ (List.mem_singleton.2 rfl) rfl
set_option maxRecDepth 100000 in
set_option maxHeartbeats 2000000 in
theorem check_kn (A : Option Addr) (c B : Nat) (K : List KnC) (w : World) (h : KnIn w B A K) (hB : B ≤ w.heap.size) (hl : K.length ≤ 1048576) :
    Calls Try.prog 25 #[.slice A K.length c] w fun e w' => e = .returned (.int .i64 (knowsF K)) ∧ Below w.heap.size w w' := by
  obtain ⟨r, hr⟩ : ∃ r, knowsF K = r := ⟨_, rfl⟩
  rw [hr]
  unfold knowsF at hr
  have HR := Lib.hid hr
  have HK := Lib.hid h
  have hmm := @run_makeMap Try.prog
  clear hr h
  by_cases l1 : 480 < K.length
  · have d1 : (480 : Int) < (K.length : Int) := by omega
    have HRV : Hid (r = 2) := by show _ = _; rw [← HR.out, if_pos l1]
    clear HR
    go_enter Try.func25, Try.ntmps25
    go_wp2_with fail
    go_ret
    exact ⟨by rw [HRV.out]; rfl, Below.refl _ _⟩
  have d1 : ¬ (480 : Int) < (K.length : Int) := by omega
  rw [if_neg l1] at HR
  go_enter Try.func25, Try.ntmps25
  go_upto_region 4 with fail
  have HM := Lib.hid (show IntSet (w.alloc (.map #[] 0)) w.heap.size 0 [] from SetB.made w)
  have HB := Lib.hid ((Below.refl w.heap.size w).alloc (Nat.le_refl _) (.map #[] 0))
  clear hmm d1
  go_wp2_with fail
  go_loopg [12] K.length (fun gk i wr => ∃ k : Nat, gk = K.length - k ∧ k ≤ K.length ∧ i = .int .i64 k ∧ IntSet wr w.heap.size k ((K.take k).map (·.ref)) ∧ ((K.take k).map (·.ref)).Nodup ∧ Below w.heap.size w wr)
  case atStart => exact ⟨0, by omega, by omega, rfl, HM.out, by simp, HB.out⟩
  case round =>
    clear HM HB
    obtain ⟨k, hgk, hk, rfl, hset, hnd, hb⟩ := hrel
    have HKK := Lib.hid hgk
    have HND := Lib.hid hnd
    have HB := Lib.hid hb
    clear hgk hnd
    by_cases hlt : k < K.length
    · obtain ⟨b1, o1, rfl, _, z0, z1, z2, z3⟩ := (HK.out.row.below (hb.mono hB)).kn hlt knc0
      have h64 := (HK.out.k64 _ (getD_mem knc0 hlt)).1
      have HTK := Lib.hid (take_map hlt)
      have HDU := Lib.hid (knows_dup hlt)
      have hkl : (k : Int) < (K.length : Int) := by omega
      generalize K.getD k knc0 = x at *
      have hs2 := hset.alloc (.cells #[.int .i64 x.ref, .bool x.awake, .bool x.root, .slice x.A x.refs.length x.cap] 28)
      have HB2 := Lib.hid (hb.alloc hb.size (.cells #[.int .i64 x.ref, .bool x.awake, .bool x.root, .slice x.A x.refs.length x.cap] 28))
      have hlk := hs2.look ints_keyed (t := 59) Try.underlying59 Try.underlying4 (zero_boolS _) (int_key h64)
      cases hc : ((K.take k).map (·.ref)).contains x.ref with
      | true =>
        rw [hc] at hlk
        have HRV : Hid (r = 5) := by show _ = _; rw [← HR.out, if_neg (HDU.out hc)]
        clear HR HDU hset hs2 hb hc
        go_wp2_with fail
        go_ret
        exact ⟨by rw [HRV.out]; rfl, HB2.out⟩
      | false =>
        rw [hc] at hlk
        obtain ⟨w9, hrun, hs9, hg9⟩ := hs2.put ints_keyed (t := 59) Try.underlying59 Try.underlying4 (show k < maxLen by unfold maxLen; omega) intL_inj intL_key (int_key h64)
        have ho9 := only_of_grown hg9
        have HN9 : Hid (((K.take k).map (·.ref) ++ [x.ref]).Nodup) := by
          show List.Nodup _
          rw [List.nodup_append]
          exact ⟨HND.out, by simp, fun a ha b hb e => by rw [List.mem_singleton] at hb; subst hb e; rw [show ((K.take k).map (·.ref)).contains x.ref = true by simpa using ha] at hc; cases hc⟩
        have HS9 := Lib.hid hs9
        have HB9 := Lib.hid (ho9.to_below HB2.out HB2.out.size (fun b e => by omega))
        clear HDU hset hs2 hb hc hs9 hg9 ho9
        go_wp2_with fail
        go_roundg (K.length - (k + 1))
        case measure => have := HKK.out; omega
        case rel => exact ⟨k + 1, rfl, by omega, by go_num, by rw [HTK.out]; exact HS9.out, by rw [HTK.out]; exact HN9.out, HB9.out⟩
    · obtain rfl : k = K.length := by omega
      have hln : ¬ (K.length : Int) < (K.length : Int) := by omega
      have HRV : Hid (r = 0) := by
        show _ = _
        have := HND.out
        rw [List.take_length] at this
        rw [← HR.out, if_pos this]
      clear HR hset hb HKK
      go_wp2_with fail
      go_ret
      exact ⟨by rw [HRV.out]; rfl, HB.out⟩
end Go.Proofs.Ytbhdagjilmgahaa
