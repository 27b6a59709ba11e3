
/-
  Rows of roadstead/api.Letter joined (slices.Concat at roadstead/api.Letter).
-/
import Derived.Test.YtdjahlkjfpbifaaLetEach
import Derived.Lib.AppendZerosOnto
import Derived.Lib.Walk
import Derived.Laws.AppendOwnNone
import Derived.Deep.LoopGhost
namespace Go.Proofs.Ytdjahlkjfpbifaa
open Go.RowKit

/-- A row of instructions of the call's own is handed back. -/
def letterPost (zs : List (LC)) (w : World) (e : Ending) (w' : World) : Prop := ∃ v, e = .returned v ∧ w'.ownsRow w.heap.size 37 9 v zs.length (flat letterC zs) ∧ Below w.heap.size w w'

set_option maxRecDepth 100000 in
/-- All of a row appended to a row of the call's own. -/
theorem wpList_append_letter {ops : Array Oper} {rest : List Oper} {o : Oper} {a : Act} {w : World} {Q : Exit → Act → World → Prop} (hgd : o.guard = none) (s x : Operand)
    (ho : o.op = .call { callee := .builtin .append, args := #[s, x], argTypes := #[22, 22] })
    (base : Nat) (v : Value) (zs : List (LC)) (hs : a.eval s = v) (hown : w.ownsRow base 37 9 v zs.length (flat letterC zs)) (A : Option Addr) (c B : Nat) (ys : List (LC)) (hx : a.eval x = .slice A ys.length c) (hr : Row w B A (flat letterC ys)) (hA : A = none → c = 0)
    (hb : (zs.length + ys.length) * 104 ≤ 140737488355328) (hbase : base ≤ w.heap.size)
    (h : ∀ v' w', w'.ownsRow base 37 9 v' (zs ++ ys).length (flat letterC (zs ++ ys)) → w.grownBy w' v.ownBlock → wpList Try.prog ops Q rest (a.put o.dst v') w') : wpList Try.prog ops Q (o :: rest) a w := by
  obtain ⟨i0, z0, hi0, hz0, hz1, hz2, hz3⟩ := letter_parts
  rcases A with _ | ad
  · obtain rfl := hA rfl
    have hy : ys = [] := by
      rcases ys with _ | ⟨y, r⟩
      · rfl
      · obtain ⟨b, o, h, _⟩ := hr (by rw [flat_len letterC_len]; simp)
        cases h
    subst hy
    refine wpList_append_own_none hgd s x _ ho base 37 i0 9 Try.underlying22 hi0 v zs.length (flat letterC zs) hs hown hx ?_
    refine h v w ?_ (World.grownBy.refl w _)
    rw [List.append_nil]
    exact hown
  · refine wpList_append_own _ hgd s x _ ho base 37 i0 z0 9 104 Try.underlying22 hi0 hz0 hz1 hz2 hz3 (by decide) v zs.length (flat letterC zs) hs hown ad ys.length c (flat letterC ys) hx (flat_len letterC_len ys) ?_ (letter_one_all ys) (by unfold maxLen; omega) hb hbase ?_
    · clear hb hown h hbase
      intro j u hu
      have hj : j < (flat letterC ys).length := (List.getElem?_eq_some_iff.1 hu).1
      obtain ⟨b, o, e, _, hc⟩ := hr (by omega)
      obtain rfl : ad = ⟨b, o, none⟩ := Option.some.inj e
      rw [addr_add]
      exact hc j u hu
    · intro v' w' h1 h2 _
      refine h v' w' ?_ h2
      rw [List.length_append, flat_append]
      exact h1

set_option maxRecDepth 100000 in
set_option maxHeartbeats 1000000 in
theorem grow_letter (n : Nat) (w : World) (hn : n ≤ 1048576) :
    Calls Try.prog 83 #[.slice none 0 0, .int .i64 n] w (letterPost [] w) := by
  obtain ⟨i0, z0, hi0, hz0, hz1, hz2, hz3⟩ := letter_parts
  rcases Nat.eq_zero_or_pos n with rfl | hp
  · go_enter Try.func83, Try.ntmps83
    go_wp2_with fail
    go_ret
    exact ⟨_, rfl, World.ownsRow_nil _ _ _ _, Below.refl _ _⟩
  · have hold : (Builtin.firstCells i0.size 0 (.slice none 0 0)).run Try.prog w.drew = .ok (([] : List Value).toArray) w.drew := run_firstCells_none w.drew i0.size 0 0 0
    have hrz := fun ty => Lib.run_append_grow_zeros w 22 3 ty 37 i0 z0 .i64 .i64 Try.underlying22 Try.underlying3 hi0 hz0 none 0 0 [] hold n hp (by rw [hz1]; decide) (by omega) (by omega) (by rw [hz2]; omega)
      (growslice_fits (by omega) (by rw [hz2]; omega))
    simp only [Nat.zero_add] at hrz
    have hge := grownCap_ge w n 0 37
    have hcm : grownCap w n 0 37 ≤ maxLen := grownCap_le_maxLen w n 0 37 (by unfold maxLen; omega)
    have HOW := Lib.hid (show (w.alloc (.cells (([] : List Value).toArray ++ Builtin.zeroCells z0.cells n ++ Builtin.zeroCells z0.cells (grownCap w n 0 37 - n)) 37)).drew.ownsRow w.heap.size 37 9 (.slice (some ⟨w.heap.size, 0, none⟩) 0 (grownCap w n 0 37)) 0 [] from by
      refine ⟨by simp, .inr ⟨w.heap.size, grownCap w n 0 37, _, rfl, Nat.le_refl _, heap_alloc_new w _, by omega, hcm, ?_, by simp⟩⟩
      simp only [Array.size_append, List.size_toArray, size_zeroCells, hz3, List.length_nil]
      omega)
    have HB := Lib.hid (show Below w.heap.size w (w.alloc (.cells (([] : List Value).toArray ++ Builtin.zeroCells z0.cells n ++ Builtin.zeroCells z0.cells (grownCap w n 0 37 - n)) 37)).drew from below_drewN ((Below.refl _ _).alloc (Nat.le_refl _) _) 1)
    have hc63 : grownCap w n 0 37 ≤ 9223372036854775807 := by unfold maxLen at hcm; omega
    generalize (([] : List Value).toArray ++ Builtin.zeroCells z0.cells n ++ Builtin.zeroCells z0.cells (grownCap w n 0 37 - n)) = CS at *
    generalize grownCap w n 0 37 = G at *
    clear hold hcm
    go_enter Try.func83, Try.ntmps83
    go_wp2_with (at_builtin; refine Lib.wpList_append_run _ rfl _ _ _ _ rfl _ _ rfl rfl _ _ (hrz _) ?_)
    go_ret
    exact ⟨_, rfl, HOW.out, HB.out⟩

/-- Two slices of ints in a slice that the call made. -/
def letterPair (w : World) (g : Nat) (A : Option Addr) (xs : List (LC)) (c : Nat) (A' : Option Addr) (ys : List (LC)) (c' : Nat) : Prop :=
  w.cell? ⟨g, 0, none⟩ = some (.slice A xs.length c) ∧ w.cell? ⟨g, 1, none⟩ = some (.slice A' ys.length c') ∧ Row w w.heap.size A (flat letterC xs) ∧ Row w w.heap.size A' (flat letterC ys) ∧ (A = none → c = 0) ∧ (A' = none → c' = 0) ∧ g < w.heap.size

set_option maxRecDepth 100000 in
set_option maxHeartbeats 1000000 in
theorem concat_letter (g : Nat) (A A' : Option Addr) (c c' : Nat) (xs ys : List (LC)) (w : World) (h : letterPair w g A xs c A' ys c') (hx : xs.length ≤ 100000) (hy : ys.length ≤ 100000) :
    Calls Try.prog 26 #[.slice (some ⟨g, 0, none⟩) 2 2] w (letterPost (xs ++ ys) w) := by
  obtain ⟨hc0, hc1, hrx, hry, hA, hA', hg⟩ := h
  have HA := Lib.hid hA
  have HA' := Lib.hid hA'
  clear hA hA'
  go_enter Try.func26, Try.ntmps26
  go_wp2_with fail
  go_loopg [3, 11] 2 (fun m v3 v11 wr => ∃ k : Nat, m = 2 - k ∧ k ≤ 2 ∧ v11 = .int .i64 k ∧ w = wr ∧ v3 = .int .i64 ((if 0 < k then xs.length else 0) + (if 1 < k then ys.length else 0) : Nat))
  case atStart => exact ⟨0, rfl, by omega, rfl, rfl, rfl⟩
  case round =>
    obtain ⟨k, hm, hk, rfl, rfl, rfl⟩ := hrel
    have HM := Lib.hid hm
    clear hm
    match k, hk with
    | 0, _ =>
      go_wp2_with fail
      go_roundg 1
      case measure => have := HM.out; omega
      case rel => exact ⟨1, rfl, by omega, rfl, rfl, by simp⟩
    | 1, _ =>
      simp only [Nat.zero_lt_one, if_true, Nat.lt_irrefl, if_false, Nat.add_zero]
      go_wp2_with fail
      go_roundg 0
      case measure => have := HM.out; omega
      case rel => exact ⟨2, rfl, by omega, rfl, rfl, by simp⟩
    | 2, _ =>
      simp only [Nat.zero_lt_succ, if_true, Nat.one_lt_succ_succ]
      have HG := Lib.hid (grow_letter (xs.length + ys.length) w (by omega))
      go_wp2_with fail
      refine HG.out.mono ?_
      rintro e w1 ⟨v, rfl, hown, hb⟩
      go_wp2_with fail
      go_loopg [6, 27] 2 (fun m v6 v27 wr => ∃ (k : Nat) (zs : List (LC)), m = 2 - k ∧ k ≤ 2 ∧ v27 = .int .i64 k ∧ zs = (if 0 < k then xs else []) ++ (if 1 < k then ys else []) ∧ wr.ownsRow w.heap.size 37 9 v6 zs.length (flat letterC zs) ∧ Below w.heap.size w wr)
      case atStart => exact ⟨0, [], rfl, by omega, rfl, by simp, hown, hb⟩
      case round =>
        obtain ⟨k, zs, hm, hk, rfl, hz, hown, hb⟩ := hrel
        have HM := Lib.hid hm
        clear hm
        have hc0' : wr.cell? ⟨g, 0, none⟩ = some (.slice A xs.length c) := (hb.cell (p := ⟨g, 0, none⟩) hg).trans hc0
        have hc1' : wr.cell? ⟨g, 1, none⟩ = some (.slice A' ys.length c') := (hb.cell (p := ⟨g, 1, none⟩) hg).trans hc1
        have hs := hb.size
        match k, hk with
        | 0, _ =>
          simp only [Nat.lt_irrefl, if_false, Nat.not_lt_zero, List.append_nil] at hz
          subst hz
          go_wp2_with (at_builtin; refine wpList_append_letter rfl (.tmp 31) (.tmp 32) rfl w.heap.size _ [] rfl hown A c _ xs rfl (hrx.below hb) HA.out (by simp; omega) hs ?_; intro v' w2 hown2 hg2)
          go_roundg 1
          case measure => have := HM.out; omega
          case rel => exact ⟨1, _, rfl, by omega, rfl, by simp, hown2, hb.grown hg2 hs (fun q hq => (hown.lt q hq).1)⟩
        | 1, _ =>
          simp only [Nat.zero_lt_one, if_true, Nat.lt_irrefl, if_false, List.append_nil] at hz
          subst hz
          go_wp2_with (at_builtin; refine wpList_append_letter rfl (.tmp 31) (.tmp 32) rfl w.heap.size _ zs rfl hown A' c' _ ys rfl (hry.below hb) HA'.out (by omega) hs ?_; intro v' w2 hown2 hg2)
          go_roundg 0
          case measure => have := HM.out; omega
          case rel => exact ⟨2, _, rfl, by omega, rfl, by simp, hown2, hb.grown hg2 hs (fun q hq => (hown.lt q hq).1)⟩
        | 2, _ =>
          simp only [Nat.zero_lt_succ, if_true, Nat.one_lt_succ_succ] at hz
          subst hz
          go_wp2_with fail
          go_ret
          exact ⟨_, rfl, hown, hb⟩

end Go.Proofs.Ytdjahlkjfpbifaa
