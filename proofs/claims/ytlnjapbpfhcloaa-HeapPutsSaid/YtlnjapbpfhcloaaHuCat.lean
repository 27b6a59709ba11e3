/-
  Rows of uint64 joined (slices.Concat at uint64).
-/
import Derived.Test.YtlnjapbpfhcloaaHuRow
import Derived.Lib.AppendZerosOnto
import Derived.Lib.Walk
import Derived.Laws.AppendOwnNone
import Derived.Deep.LoopGhost
namespace Go.Proofs.Ytlnjapbpfhcloaa
open Go.RowKit

/-- A row of instructions of the call's own is handed back. -/
def huPost (zs : List (Nat)) (w : World) (e : Ending) (w' : World) : Prop := ∃ v, e = .returned v ∧ w'.ownsRow w.heap.size 67 1 v zs.length (flat huC zs) ∧ Below w.heap.size w w'

/-- Where both types are slices of one element type, append does not tell them apart. -/
theorem append_types {P : Program} (w : World) (t u e ty : TypeId) (args : Array Value) (ht : P.underlying t = some (.slice e)) (hu : P.underlying u = some (.slice e)) : (Builtin.append_ #[t, u] ty args).run P w = (Builtin.append_ #[t, t] ty args).run P w := by
  unfold Builtin.append_
  rcases args with ⟨l⟩
  rcases l with _ | ⟨a0, _ | ⟨a1, r⟩⟩
  · rfl
  · rfl
  · simp only [List.getElem?_toArray, List.getElem?_cons_zero, List.getElem?_cons_succ, Sem.run_bind, run_underlying ht, Result.andThen_ok]
    cases a0 <;> try rfl
    simp only [Sem.run_bind]
    cases (sizeOf e).run P w with
    | ok v w1 => simp only [Result.andThen_ok, run_underlying ht, run_underlying hu]
    | _ => rfl
theorem wpList_append_tu {P : Program} {w : World} {ops : Array Oper} {rest : List Oper} {o : Oper} {a : Act} {Q : Exit → Act → World → Prop} (hgd : o.guard = none) (s x : Operand) (t u : TypeId)
    (ho : o.op = .call { callee := .builtin .append, args := #[s, x], argTypes := #[t, u] })
    (base : Nat) (e : TypeId) (i : TypeInfo) (z : Value) (size bytes : Nat) (ht : P.underlying t = some (.slice e)) (hu : P.underlying u = some (.slice e)) (hi : P.info? e = some i) (hz : i.zero = some z)
    (hsize : i.size = size) (hby : i.bytes = bytes) (hzs : z.cells.size = size) (hsz : 0 < size)
    (v : Value) (n : Nat) (xs : List Value) (hs : a.eval s = v) (hown : w.ownsRow base e size v n xs)
    (ad : Addr) (m c : Nat) (news : List Value) (hx : a.eval x = .slice (some ad) m c) (hl : news.length = m * size) (hnews : ∀ j u, news[j]? = some u → w.cell? (ad.add j) = some u) (h1 : ∀ u ∈ news, u.oneCell' = true)
    (h63 : n + m ≤ maxLen) (hbytes : (n + m) * bytes ≤ 140737488355328) (hbase : base ≤ w.heap.size)
    (h : ∀ v' w', w'.ownsRow base e size v' (n + m) (xs ++ news) → w.grownBy w' v.ownBlock → wpList P ops Q rest (a.put o.dst v') w') : wpList P ops Q (o :: rest) a w := by
  refine wpList_plain hgd fun K hK => ?_
  obtain ⟨v', w', hr, h2, h3, _⟩ := run_append_own (P := P) w base t o.type e i z size bytes ht hi hz hsize hby hzs hsz v n xs hown ad m c news hl hnews h1 h63 hbytes hbase
  rw [← append_types w t u e o.type _ ht hu] at hr
  unfold Oper.wp execOp
  simp only [ho, resolve, invoke, builtin, Sem.run_bind, Sem.run_pure, Result.andThen_ok, List.map_toArray, List.map_cons, List.map_nil, hs, hx, hr]
  exact hK _ _ (h v' w' h2 h3)
theorem wpList_append_tu_none {P : Program} {w : World} {ops : Array Oper} {rest : List Oper} {o : Oper} {a : Act} {Q : Exit → Act → World → Prop} (hgd : o.guard = none) (s x : Operand) (t u : TypeId)
    (ho : o.op = .call { callee := .builtin .append, args := #[s, x], argTypes := #[t, u] })
    (base : Nat) (e : TypeId) (i : TypeInfo) (size : Nat) (ht : P.underlying t = some (.slice e)) (hu : P.underlying u = some (.slice e)) (hi : P.info? e = some i)
    (v : Value) (n : Nat) (xs : List Value) (hs : a.eval s = v) (hown : w.ownsRow base e size v n xs) (hx : a.eval x = .slice none 0 0)
    (h : wpList P ops Q rest (a.put o.dst v) w) : wpList P ops Q (o :: rest) a w := by
  refine wpList_plain hgd fun K hK => ?_
  have hrun := run_append_owned_none (P := P) (w := w) base t o.type e i size ht hi v n xs hown
  rw [← append_types w t u e o.type _ ht hu] at hrun
  unfold Oper.wp
  simp [execOp, ho, resolve, invoke, builtin, hs, hx, hrun, Result.andThen]
  exact hK _ _ h

set_option maxRecDepth 100000 in
/-- All of a row appended to a row of the call's own. -/
theorem wpList_append_hu {ops : Array Oper} {rest : List Oper} {o : Oper} {a : Act} {w : World} {Q : Exit → Act → World → Prop} (hgd : o.guard = none) (s x : Operand) (t u : TypeId)
    (ho : o.op = .call { callee := .builtin .append, args := #[s, x], argTypes := #[t, u] })
    (ht : Try.prog.underlying t = some (.slice 67)) (hu : Try.prog.underlying u = some (.slice 67)) (base : Nat) (v : Value) (zs : List (Nat)) (hs : a.eval s = v) (hown : w.ownsRow base 67 1 v zs.length (flat huC zs)) (A : Option Addr) (c B : Nat) (ys : List (Nat)) (hx : a.eval x = .slice A ys.length c) (hr : Row w B A (flat huC ys)) (hA : A = none → c = 0)
    (hb : (zs.length + ys.length) * 8 ≤ 140737488355328) (hbase : base ≤ w.heap.size)
    (h : ∀ v' w', w'.ownsRow base 67 1 v' (zs ++ ys).length (flat huC (zs ++ ys)) → w.grownBy w' v.ownBlock → wpList Try.prog ops Q rest (a.put o.dst v') w') : wpList Try.prog ops Q (o :: rest) a w := by
  obtain ⟨i0, z0, hi0, hz0, hz1, hz2, hz3⟩ := hu_parts
  rcases A with _ | ad
  · obtain rfl := hA rfl
    have hy : ys = [] := by
      rcases ys with _ | ⟨y, r⟩
      · rfl
      · obtain ⟨b, o, h, _⟩ := hr (by rw [flat_len huC_len]; simp)
        cases h
    subst hy
    refine wpList_append_tu_none hgd s x t u ho base 67 i0 1 ht hu hi0 v zs.length (flat huC zs) hs hown hx ?_
    refine h v w ?_ (World.grownBy.refl w _)
    rw [List.append_nil]
    exact hown
  · refine wpList_append_tu hgd s x t u ho base 67 i0 z0 1 8 ht hu hi0 hz0 hz1 hz2 hz3 (by decide) v zs.length (flat huC zs) hs hown ad ys.length c (flat huC ys) hx (flat_len huC_len ys) ?_ (hu_one_all ys) (by unfold maxLen; omega) hb hbase ?_
    · clear hb hown h hbase
      intro j u hu
      have hj : j < (flat huC ys).length := (List.getElem?_eq_some_iff.1 hu).1
      obtain ⟨b, o, e, _, hc⟩ := hr (by omega)
      obtain rfl : ad = ⟨b, o, none⟩ := Option.some.inj e
      rw [addr_add]
      exact hc j u hu
    · intro v' w' h1 h2
      refine h v' w' ?_ h2
      rw [List.length_append, flat_append]
      exact h1

set_option maxRecDepth 100000 in
set_option maxHeartbeats 1000000 in
theorem grow_hu (n : Nat) (w : World) (hn : n ≤ 1048576) :
    Calls Try.prog 80 #[.slice none 0 0, .int .i64 n] w (huPost [] w) := by
  obtain ⟨i0, z0, hi0, hz0, hz1, hz2, hz3⟩ := hu_parts
  rcases Nat.eq_zero_or_pos n with rfl | hp
  · go_enter Try.func80, Try.ntmps80
    go_wp2_with fail
    go_ret
    exact ⟨_, rfl, World.ownsRow_nil _ _ _ _, Below.refl _ _⟩
  · have hold : (Builtin.firstCells i0.size 0 (.slice none 0 0)).run Try.prog w.drew = .ok (([] : List Value).toArray) w.drew := run_firstCells_none w.drew i0.size 0 0 0
    have hrz := fun ty => Lib.run_append_grow_zeros w 48 3 ty 67 i0 z0 .i64 .i64 Try.underlying48 Try.underlying3 hi0 hz0 none 0 0 [] hold n hp (by rw [hz1]; decide) (by omega) (by omega) (by rw [hz2]; omega)
      (growslice_fits (by omega) (by rw [hz2]; omega))
    simp only [Nat.zero_add] at hrz
    have hge := grownCap_ge w n 0 67
    have hcm : grownCap w n 0 67 ≤ maxLen := grownCap_le_maxLen w n 0 67 (by unfold maxLen; omega)
    have HOW := Lib.hid (show (w.alloc (.cells (([] : List Value).toArray ++ Builtin.zeroCells z0.cells n ++ Builtin.zeroCells z0.cells (grownCap w n 0 67 - n)) 67)).drew.ownsRow w.heap.size 67 1 (.slice (some ⟨w.heap.size, 0, none⟩) 0 (grownCap w n 0 67)) 0 [] from by
      refine ⟨by simp, .inr ⟨w.heap.size, grownCap w n 0 67, _, rfl, Nat.le_refl _, heap_alloc_new w _, by omega, hcm, ?_, by simp⟩⟩
      simp only [Array.size_append, List.size_toArray, size_zeroCells, hz3, List.length_nil]
      omega)
    have HB := Lib.hid (show Below w.heap.size w (w.alloc (.cells (([] : List Value).toArray ++ Builtin.zeroCells z0.cells n ++ Builtin.zeroCells z0.cells (grownCap w n 0 67 - n)) 67)).drew from below_drewN ((Below.refl _ _).alloc (Nat.le_refl _) _) 1)
    have hc63 : grownCap w n 0 67 ≤ 9223372036854775807 := by unfold maxLen at hcm; omega
    generalize (([] : List Value).toArray ++ Builtin.zeroCells z0.cells n ++ Builtin.zeroCells z0.cells (grownCap w n 0 67 - n)) = CS at *
    generalize grownCap w n 0 67 = G at *
    clear hold hcm
    go_enter Try.func80, Try.ntmps80
    go_wp2_with (at_builtin; refine Lib.wpList_append_run _ rfl _ _ _ _ rfl _ _ rfl rfl _ _ (hrz _) ?_)
    go_ret
    exact ⟨_, rfl, HOW.out, HB.out⟩

/-- Two slices of ints in a slice that the call made. -/
def huPair (w : World) (g : Nat) (A : Option Addr) (xs : List (Nat)) (c : Nat) (A' : Option Addr) (ys : List (Nat)) (c' : Nat) : Prop :=
  w.cell? ⟨g, 0, none⟩ = some (.slice A xs.length c) ∧ w.cell? ⟨g, 1, none⟩ = some (.slice A' ys.length c') ∧ Row w w.heap.size A (flat huC xs) ∧ Row w w.heap.size A' (flat huC ys) ∧ (A = none → c = 0) ∧ (A' = none → c' = 0) ∧ g < w.heap.size

set_option maxRecDepth 100000 in
set_option maxHeartbeats 1000000 in
theorem concat_hu (g : Nat) (A A' : Option Addr) (c c' : Nat) (xs ys : List (Nat)) (w : World) (h : huPair w g A xs c A' ys c') (hx : xs.length ≤ 100000) (hy : ys.length ≤ 100000) :
    Calls Try.prog 36 #[.slice (some ⟨g, 0, none⟩) 2 2] w (huPost (xs ++ ys) w) := by
  obtain ⟨hc0, hc1, hrx, hry, hA, hA', hg⟩ := h
  have HA := Lib.hid hA
  have HA' := Lib.hid hA'
  clear hA hA'
  go_enter Try.func36, Try.ntmps36
  go_wp2_with fail
  go_loopg [3, 11] 2 (fun m v3 v11 wr => ∃ k : Nat, m = 2 - k ∧ k ≤ 2 ∧ v11 = .int .i64 k ∧ w = wr ∧ v3 = .int .i64 ((if 0 < k then xs.length else 0) + (if 1 < k then ys.length else 0) : Nat))
  case atStart => exact ⟨0, rfl, by omega, rfl, rfl, rfl⟩
  case round =>
    obtain ⟨k, hm, hk, rfl, rfl, rfl⟩ := hrel
    have HM := Lib.hid hm
    clear hm
    match k, hk with
    | 0, _ =>
      go_wp2_with fail
      go_roundg 1
      case measure => have := HM.out; omega
      case rel => exact ⟨1, rfl, by omega, rfl, rfl, by simp⟩
    | 1, _ =>
      simp only [Nat.zero_lt_one, if_true, Nat.lt_irrefl, if_false, Nat.add_zero]
      go_wp2_with fail
      go_roundg 0
      case measure => have := HM.out; omega
      case rel => exact ⟨2, rfl, by omega, rfl, rfl, by simp⟩
    | 2, _ =>
      simp only [Nat.zero_lt_succ, if_true, Nat.one_lt_succ_succ]
      have HG := Lib.hid (grow_hu (xs.length + ys.length) w (by omega))
      go_wp2_with fail
      refine HG.out.mono ?_
      rintro e w1 ⟨v, rfl, hown, hb⟩
      go_wp2_with fail
      go_loopg [6, 27] 2 (fun m v6 v27 wr => ∃ (k : Nat) (zs : List (Nat)), m = 2 - k ∧ k ≤ 2 ∧ v27 = .int .i64 k ∧ zs = (if 0 < k then xs else []) ++ (if 1 < k then ys else []) ∧ wr.ownsRow w.heap.size 67 1 v6 zs.length (flat huC zs) ∧ Below w.heap.size w wr)
      case atStart => exact ⟨0, [], rfl, by omega, rfl, by simp, hown, hb⟩
      case round =>
        obtain ⟨k, zs, hm, hk, rfl, hz, hown, hb⟩ := hrel
        have HM := Lib.hid hm
        clear hm
        have hc0' : wr.cell? ⟨g, 0, none⟩ = some (.slice A xs.length c) := (hb.cell (p := ⟨g, 0, none⟩) hg).trans hc0
        have hc1' : wr.cell? ⟨g, 1, none⟩ = some (.slice A' ys.length c') := (hb.cell (p := ⟨g, 1, none⟩) hg).trans hc1
        have hs := hb.size
        match k, hk with
        | 0, _ =>
          simp only [Nat.lt_irrefl, if_false, Nat.not_lt_zero, List.append_nil] at hz
          subst hz
          go_wp2_with (at_builtin; refine wpList_append_hu rfl (.tmp 31) (.tmp 32) 48 48 rfl Try.underlying48 Try.underlying48 w.heap.size _ [] rfl hown A c _ xs rfl (hrx.below hb) HA.out (by simp; omega) hs ?_; intro v' w2 hown2 hg2)
          go_roundg 1
          case measure => have := HM.out; omega
          case rel => exact ⟨1, _, rfl, by omega, rfl, by simp, hown2, hb.grown hg2 hs (fun q hq => (hown.lt q hq).1)⟩
        | 1, _ =>
          simp only [Nat.zero_lt_one, if_true, Nat.lt_irrefl, if_false, List.append_nil] at hz
          subst hz
          go_wp2_with (at_builtin; refine wpList_append_hu rfl (.tmp 31) (.tmp 32) 48 48 rfl Try.underlying48 Try.underlying48 w.heap.size _ zs rfl hown A' c' _ ys rfl (hry.below hb) HA'.out (by omega) hs ?_; intro v' w2 hown2 hg2)
          go_roundg 0
          case measure => have := HM.out; omega
          case rel => exact ⟨2, _, rfl, by omega, rfl, by simp, hown2, hb.grown hg2 hs (fun q hq => (hown.lt q hq).1)⟩
        | 2, _ =>
          simp only [Nat.zero_lt_succ, if_true, Nat.one_lt_succ_succ] at hz
          subst hz
          go_wp2_with fail
          go_ret
          exact ⟨_, rfl, hown, hb⟩

end Go.Proofs.Ytlnjapbpfhcloaa
