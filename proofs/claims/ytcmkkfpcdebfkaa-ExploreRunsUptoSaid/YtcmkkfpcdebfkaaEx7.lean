/-
  Rows of instructions joined (slices.Concat at []roadref4.Do).
-/
import Derived.Test.YtcmkkfpcdebfkaaEx1
import Derived.Lib.AppendZerosOnto
import Derived.Lib.Walk
import Derived.Laws.AppendOwnNone
import Derived.Deep.LoopGhost
namespace Go.Proofs.Ytcmkkfpcdebfkaa
open Go.RowKit

/-- A row of instructions of the call's own is handed back. -/
def DoPost (zs : List Do) (w : World) (e : Ending) (w' : World) : Prop := ∃ v, e = .returned v ∧ w'.ownsRow w.heap.size 57 3 v zs.length (flat rdC zs) ∧ Below w.heap.size w w'

set_option maxRecDepth 100000 in
/-- All of a row appended to a row of the call's own. -/
theorem wpList_append_rd {ops : Array Oper} {rest : List Oper} {o : Oper} {a : Act} {w : World} {Q : Exit → Act → World → Prop} (hgd : o.guard = none) (s x : Operand)
    (ho : o.op = .call { callee := .builtin .append, args := #[s, x], argTypes := #[53, 53] })
    (base : Nat) (v : Value) (zs : List Do) (hs : a.eval s = v) (hown : w.ownsRow base 57 3 v zs.length (flat rdC zs)) (A : Option Addr) (c B : Nat) (ys : List Do) (hx : a.eval x = .slice A ys.length c) (hr : Row w B A (flat rdC ys)) (hA : A = none → c = 0)
    (hb : (zs.length + ys.length) * 24 ≤ 140737488355328) (hbase : base ≤ w.heap.size)
    (h : ∀ v' w', w'.ownsRow base 57 3 v' (zs ++ ys).length (flat rdC (zs ++ ys)) → w.grownBy w' v.ownBlock → wpList Try.prog ops Q rest (a.put o.dst v') w') : wpList Try.prog ops Q (o :: rest) a w := by
  obtain ⟨i0, z0, hi0, hz0, hz1, hz2, hz3⟩ := rd_parts
  rcases A with _ | ad
  · obtain rfl := hA rfl
    have hy : ys = [] := by
      rcases ys with _ | ⟨y, r⟩
      · rfl
      · obtain ⟨b, o, h, _⟩ := hr (by rw [flat_len rdC_len]; simp)
        cases h
    subst hy
    refine wpList_append_own_none hgd s x _ ho base 57 i0 3 Try.underlying53 hi0 v zs.length (flat rdC zs) hs hown hx ?_
    refine h v w ?_ (World.grownBy.refl w _)
    rw [List.append_nil]
    exact hown
  · refine wpList_append_own _ hgd s x _ ho base 57 i0 z0 3 24 Try.underlying53 hi0 hz0 hz1 hz2 hz3 (by decide) v zs.length (flat rdC zs) hs hown ad ys.length c (flat rdC ys) hx (flat_len rdC_len ys) ?_ (rd_one_all ys) (by unfold maxLen; omega) hb hbase ?_
    · clear hb hown h hbase
      intro j u hu
      have hj : j < (flat rdC ys).length := (List.getElem?_eq_some_iff.1 hu).1
      obtain ⟨b, o, e, _, hc⟩ := hr (by omega)
      obtain rfl : ad = ⟨b, o, none⟩ := Option.some.inj e
      rw [addr_add]
      exact hc j u hu
    · intro v' w' h1 h2 _
      refine h v' w' ?_ h2
      rw [List.length_append, flat_append]
      exact h1

set_option maxRecDepth 100000 in
set_option maxHeartbeats 1000000 in
theorem grow_rd (n : Nat) (w : World) (hn : n ≤ 1048576) :
    Calls Try.prog 194 #[.slice none 0 0, .int .i64 n] w (DoPost [] w) := by
  obtain ⟨i0, z0, hi0, hz0, hz1, hz2, hz3⟩ := rd_parts
  rcases Nat.eq_zero_or_pos n with rfl | hp
  · go_enter Try.func194, Try.ntmps194
    go_wp2_with fail
    go_ret
    exact ⟨_, rfl, World.ownsRow_nil _ _ _ _, Below.refl _ _⟩
  · have hold : (Builtin.firstCells i0.size 0 (.slice none 0 0)).run Try.prog w.drew = .ok (([] : List Value).toArray) w.drew := run_firstCells_none w.drew i0.size 0 0 0
    have hrz := fun ty => Lib.run_append_grow_zeros w 53 3 ty 57 i0 z0 .i64 .i64 Try.underlying53 Try.underlying3 hi0 hz0 none 0 0 [] hold n hp (by rw [hz1]; decide) (by omega) (by omega) (by rw [hz2]; omega)
      (growslice_fits (by omega) (by rw [hz2]; omega))
    simp only [Nat.zero_add] at hrz
    have hge := grownCap_ge w n 0 57
    have hcm : grownCap w n 0 57 ≤ maxLen := grownCap_le_maxLen w n 0 57 (by unfold maxLen; omega)
    have HOW := Lib.hid (show (w.alloc (.cells (([] : List Value).toArray ++ Builtin.zeroCells z0.cells n ++ Builtin.zeroCells z0.cells (grownCap w n 0 57 - n)) 57)).drew.ownsRow w.heap.size 57 3 (.slice (some ⟨w.heap.size, 0, none⟩) 0 (grownCap w n 0 57)) 0 [] from by
      refine ⟨by simp, .inr ⟨w.heap.size, grownCap w n 0 57, _, rfl, Nat.le_refl _, heap_alloc_new w _, by omega, hcm, ?_, by simp⟩⟩
      simp only [Array.size_append, List.size_toArray, size_zeroCells, hz3, List.length_nil]
      omega)
    have HB := Lib.hid (show Below w.heap.size w (w.alloc (.cells (([] : List Value).toArray ++ Builtin.zeroCells z0.cells n ++ Builtin.zeroCells z0.cells (grownCap w n 0 57 - n)) 57)).drew from below_drewN ((Below.refl _ _).alloc (Nat.le_refl _) _) 1)
    have hc63 : grownCap w n 0 57 ≤ 9223372036854775807 := by unfold maxLen at hcm; omega
    generalize (([] : List Value).toArray ++ Builtin.zeroCells z0.cells n ++ Builtin.zeroCells z0.cells (grownCap w n 0 57 - n)) = CS at *
    generalize grownCap w n 0 57 = G at *
    clear hold hcm
    go_enter Try.func194, Try.ntmps194
    go_wp2_with (at_builtin; refine Lib.wpList_append_run _ rfl _ _ _ _ rfl _ _ rfl rfl _ _ (hrz _) ?_)
    go_ret
    exact ⟨_, rfl, HOW.out, HB.out⟩

set_option maxRecDepth 100000 in
set_option maxHeartbeats 2000000 in
theorem concat_rd (A : Option Addr) (c : Nat) (l : List (List Do)) (w : World) (h : PIn w A c l) :
    Calls Try.prog 136 #[.slice A l.length c] w (DoPost l.flatten w) := by
  have HP := Lib.hid h
  have hlen := h.len
  have hsum := h.sum
  have HV := Lib.hid (show ∀ k, k ≤ l.length → (l.take k).flatten.length ≤ 1048576 from fun k _ => by have := flatten_take_le l k; omega)
  clear h
  go_enter Try.func136, Try.ntmps136
  go_wp2_with fail
  go_loopg [3, 11] l.length (fun gk v i wr => ∃ (k n : Nat), gk = l.length - k ∧ k ≤ l.length ∧ v = .int .i64 n ∧ i = .int .i64 k ∧ (l.take k).flatten.length = n ∧ n ≤ 1048576 ∧ w = wr)
  case atStart => exact ⟨0, 0, by omega, by omega, rfl, rfl, rfl, by omega, rfl⟩
  case round =>
    obtain ⟨k, n, hgk, hk, rfl, rfl, hnl, hn100, rfl⟩ := hrel
    have HK := Lib.hid hgk
    have HNL := Lib.hid hnl
    clear hgk hnl
    by_cases hlt : k < l.length
    · obtain ⟨b, o, B, d, rfl, hbl, hcell, hrow, hd1, hd2, hd3⟩ := HP.out.each k hlt
      have HFT := Lib.hid (flatten_take_succ l hlt)
      have HN2 := Lib.hid (show (l.take (k + 1)).flatten.length = n + (l.getD k []).length by rw [HFT.out, List.length_append, HNL.out])
      have hn2 : n + (l.getD k []).length ≤ 1048576 := by rw [← HN2.out]; exact HV.out (k + 1) hlt
      generalize l.getD k [] = xs at *
      have dn : decide ((n : Int) + (xs.length : Int) < 0) = false := decide_eq_false (by omega)
      clear hrow
      go_wp2_with fail
      go_roundg (l.length - (k + 1))
      case measure => have := HK.out; omega
      case rel => exact ⟨k + 1, n + xs.length, rfl, by omega, by go_num, by go_num, HN2.out, hn2, rfl⟩
    · obtain rfl : k = l.length := by omega
      have HG := Lib.hid (grow_rd n w (by omega))
      go_wp2_with fail
      refine HG.out.mono ?_
      rintro e w1 ⟨v0, rfl, hown0, hb0⟩
      have HO0 := Lib.hid hown0
      have HB0 := Lib.hid hb0
      clear hown0 hb0 HG
      go_wp2_with fail
      go_loopg [6, 27] l.length (fun gk v i wr => ∃ (k : Nat), gk = l.length - k ∧ k ≤ l.length ∧ i = .int .i64 k ∧ wr.ownsRow w.heap.size 57 3 v (l.take k).flatten.length (flat rdC (l.take k).flatten) ∧ Below w.heap.size w wr)
      case atStart => exact ⟨0, by omega, by omega, rfl, HO0.out, HB0.out⟩
      case round =>
        obtain ⟨k, hgk, hk, rfl, hown, hb⟩ := hrel
        have HK := Lib.hid hgk
        have HO := Lib.hid hown
        have HB := Lib.hid hb
        have hs := hb.size
        clear hgk hown hb
        by_cases hlt : k < l.length
        · obtain ⟨b, o, B, d, rfl, hbl, hcell, hrow, hd1, hd2, hd3⟩ := (HP.out.below HB.out).each k hlt
          have HFT := Lib.hid (flatten_take_succ l hlt)
          have HR := Lib.hid hrow
          have HD3 := Lib.hid hd3
          have hbd : ((l.take k).flatten.length + (l.getD k []).length) * 24 ≤ 140737488355328 := by
            have h1 := HV.out (k + 1) hlt
            rw [HFT.out, List.length_append] at h1
            omega
          have HBD := Lib.hid hbd
          generalize l.getD k [] = xs at *
          generalize hzs : (l.take k).flatten = zs at *
          clear hrow hzs hbd hd3
          go_wp2_with (at_builtin; refine wpList_append_rd rfl (.tmp 31) (.tmp 32) rfl w.heap.size _ zs rfl HO.out B d _ xs rfl HR.out HD3.out HBD.out hs ?_; intro v' w2 hown2 hg2)
          have HB2 := Lib.hid (HB.out.grown hg2 hs (fun q hq => (HO.out.lt q hq).1))
          have HO2 := Lib.hid hown2
          clear hown2 hg2
          go_roundg (l.length - (k + 1))
          case measure => have := HK.out; omega
          case rel => exact ⟨k + 1, rfl, by omega, by go_num, by rw [HFT.out]; exact HO2.out, HB2.out⟩
        · have HE := Lib.hid (show (l.take k).flatten = l.flatten by rw [List.take_of_length_le (by omega)])
          go_wp2_with fail
          go_ret
          exact ⟨_, rfl, by rw [← HE.out]; exact HO.out, HB.out⟩
end Go.Proofs.Ytcmkkfpcdebfkaa
