
/-
  Rows of uint64 joined (slices.Concat at uint64).
-/
import Derived.Test.YtdjahlkjfpbifaaHuRow
import Derived.Lib.AppendZerosOnto
import Derived.Lib.Walk
import Derived.Laws.AppendOwnNone
import Derived.Deep.LoopGhost
namespace Go.Proofs.Ytdjahlkjfpbifaa
open Go.RowKit

/-- A row of instructions of the call's own is handed back. -/
def huPost (zs : List (Nat)) (w : World) (e : Ending) (w' : World) : Prop := ∃ v, e = .returned v ∧ w'.ownsRow w.heap.size 90 1 v zs.length (flat huC zs) ∧ Below w.heap.size w w'

/-- Where both types are slices of one element type, append does not tell them apart. -/
theorem append_types {P : Program} (w : World) (t u e ty : TypeId) (args : Array Value) (ht : P.underlying t = some (.slice e)) (hu : P.underlying u = some (.slice e)) : (Builtin.append_ #[t, u] ty args).run P w = (Builtin.append_ #[t, t] ty args).run P w := by
  unfold Builtin.append_
  rcases args with ⟨l⟩
  rcases l with _ | ⟨a0, _ | ⟨a1, r⟩⟩
  · rfl
  · rfl
  · simp only [List.getElem?_toArray, List.getElem?_cons_zero, List.getElem?_cons_succ, Sem.run_bind, run_underlying ht, Result.andThen_ok]
    cases a0 <;> try rfl
    simp only [Sem.run_bind]
    cases (sizeOf e).run P w with
    | ok v w1 => simp only [Result.andThen_ok, run_underlying ht, run_underlying hu]
    | _ => rfl
theorem wpList_append_tu {P : Program} {w : World} {ops : Array Oper} {rest : List Oper} {o : Oper} {a : Act} {Q : Exit → Act → World → Prop} (hgd : o.guard = none) (s x : Operand) (t u : TypeId)
    (ho : o.op = .call { callee := .builtin .append, args := #[s, x], argTypes := #[t, u] })
    (base : Nat) (e : TypeId) (i : TypeInfo) (z : Value) (size bytes : Nat) (ht : P.underlying t = some (.slice e)) (hu : P.underlying u = some (.slice e)) (hi : P.info? e = some i) (hz : i.zero = some z)
    (hsize : i.size = size) (hby : i.bytes = bytes) (hzs : z.cells.size = size) (hsz : 0 < size)
    (v : Value) (n : Nat) (xs : List Value) (hs : a.eval s = v) (hown : w.ownsRow base e size v n xs)
    (ad : Addr) (m c : Nat) (news : List Value) (hx : a.eval x = .slice (some ad) m c) (hl : news.length = m * size) (hnews : ∀ j u, news[j]? = some u → w.cell? (ad.add j) = some u) (h1 : ∀ u ∈ news, u.oneCell' = true)
    (h63 : n + m ≤ maxLen) (hbytes : (n + m) * bytes ≤ 140737488355328) (hbase : base ≤ w.heap.size)
    (h : ∀ v' w', w'.ownsRow base e size v' (n + m) (xs ++ news) → w.grownBy w' v.ownBlock → wpList P ops Q rest (a.put o.dst v') w') : wpList P ops Q (o :: rest) a w := by
  refine wpList_plain hgd fun K hK => ?_
  obtain ⟨v', w', hr, h2, h3, _⟩ := run_append_own (P := P) w base t o.type e i z size bytes ht hi hz hsize hby hzs hsz v n xs hown ad m c news hl hnews h1 h63 hbytes hbase
  rw [← append_types w t u e o.type _ ht hu] at hr
  unfold Oper.wp execOp
  simp only [ho, resolve, invoke, builtin, Sem.run_bind, Sem.run_pure, Result.andThen_ok, List.map_toArray, List.map_cons, List.map_nil, hs, hx, hr]
  exact hK _ _ (h v' w' h2 h3)
theorem wpList_append_tu_none {P : Program} {w : World} {ops : Array Oper} {rest : List Oper} {o : Oper} {a : Act} {Q : Exit → Act → World → Prop} (hgd : o.guard = none) (s x : Operand) (t u : TypeId)
    (ho : o.op = .call { callee := .builtin .append, args := #[s, x], argTypes := #[t, u] })
    (base : Nat) (e : TypeId) (i : TypeInfo) (size : Nat) (ht : P.underlying t = some (.slice e)) (hu : P.underlying u = some (.slice e)) (hi : P.info? e = some i)
    (v : Value) (n : Nat) (xs : List Value) (hs : a.eval s = v) (hown : w.ownsRow base e size v n xs) (hx : a.eval x = .slice none 0 0)
    (h : wpList P ops Q rest (a.put o.dst v) w) : wpList P ops Q (o :: rest) a w := by
  refine wpList_plain hgd fun K hK => ?_
  have hrun := run_append_owned_none (P := P) (w := w) base t o.type e i size ht hi v n xs hown
  rw [← append_types w t u e o.type _ ht hu] at hrun
  unfold Oper.wp
  simp [execOp, ho, resolve, invoke, builtin, hs, hx, hrun, Result.andThen]
  exact hK _ _ h

set_option maxRecDepth 100000 in
/-- All of a row appended to a row of the call's own. -/
theorem wpList_append_hu {ops : Array Oper} {rest : List Oper} {o : Oper} {a : Act} {w : World} {Q : Exit → Act → World → Prop} (hgd : o.guard = none) (s x : Operand) (t u : TypeId)
    (ho : o.op = .call { callee := .builtin .append, args := #[s, x], argTypes := #[t, u] })
    (ht : Try.prog.underlying t = some (.slice 90)) (hu : Try.prog.underlying u = some (.slice 90)) (base : Nat) (v : Value) (zs : List (Nat)) (hs : a.eval s = v) (hown : w.ownsRow base 90 1 v zs.length (flat huC zs)) (A : Option Addr) (c B : Nat) (ys : List (Nat)) (hx : a.eval x = .slice A ys.length c) (hr : Row w B A (flat huC ys)) (hA : A = none → c = 0)
    (hb : (zs.length + ys.length) * 8 ≤ 140737488355328) (hbase : base ≤ w.heap.size)
    (h : ∀ v' w', w'.ownsRow base 90 1 v' (zs ++ ys).length (flat huC (zs ++ ys)) → w.grownBy w' v.ownBlock → wpList Try.prog ops Q rest (a.put o.dst v') w') : wpList Try.prog ops Q (o :: rest) a w := by
  obtain ⟨i0, z0, hi0, hz0, hz1, hz2, hz3⟩ := hu_parts
  rcases A with _ | ad
  · obtain rfl := hA rfl
    have hy : ys = [] := by
      rcases ys with _ | ⟨y, r⟩
      · rfl
      · obtain ⟨b, o, h, _⟩ := hr (by rw [flat_len huC_len]; simp)
        cases h
    subst hy
    refine wpList_append_tu_none hgd s x t u ho base 90 i0 1 ht hu hi0 v zs.length (flat huC zs) hs hown hx ?_
    refine h v w ?_ (World.grownBy.refl w _)
    rw [List.append_nil]
    exact hown
  · refine wpList_append_tu hgd s x t u ho base 90 i0 z0 1 8 ht hu hi0 hz0 hz1 hz2 hz3 (by decide) v zs.length (flat huC zs) hs hown ad ys.length c (flat huC ys) hx (flat_len huC_len ys) ?_ (hu_one_all ys) (by unfold maxLen; omega) hb hbase ?_
    · clear hb hown h hbase
      intro j u hu
      have hj : j < (flat huC ys).length := (List.getElem?_eq_some_iff.1 hu).1
      obtain ⟨b, o, e, _, hc⟩ := hr (by omega)
      obtain rfl : ad = ⟨b, o, none⟩ := Option.some.inj e
      rw [addr_add]
      exact hc j u hu
    · intro v' w' h1 h2
      refine h v' w' ?_ h2
      rw [List.length_append, flat_append]
      exact h1

/-- Two slices of ints in a slice that the call made. -/
def huPair (w : World) (g : Nat) (A : Option Addr) (xs : List (Nat)) (c : Nat) (A' : Option Addr) (ys : List (Nat)) (c' : Nat) : Prop :=
  w.cell? ⟨g, 0, none⟩ = some (.slice A xs.length c) ∧ w.cell? ⟨g, 1, none⟩ = some (.slice A' ys.length c') ∧ Row w w.heap.size A (flat huC xs) ∧ Row w w.heap.size A' (flat huC ys) ∧ (A = none → c = 0) ∧ (A' = none → c' = 0) ∧ g < w.heap.size

end Go.Proofs.Ytdjahlkjfpbifaa
