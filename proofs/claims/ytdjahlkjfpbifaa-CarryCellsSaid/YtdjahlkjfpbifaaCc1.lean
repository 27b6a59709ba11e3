
/-
  Cells that are reached from a word: the state of the search.
-/
import Derived.Test.YtdjahlkjfpbifaaCcDef
import Derived.Test.YtdjahlkjfpbifaaCy1
namespace Go.Proofs.Ytdjahlkjfpbifaa
open Go.RowKit

/-- A queue, a set, a list: all of the call's own (W: its first world). -/
structure BSt (W wr : World) (gs : Nat) (Q : Option Addr) (cq : Nat) (todo : List Nat) (O : Option Addr) (co : Nat) (out : List Int) (seen : List Int) : Prop where
  bl : Below W.heap.size W wr
  q : HOwn wr W.heap.size Q cq todo
  o : OwnAt wr W.heap.size 3 1 O out.length co (ints out)
  s : IntSet wr gs seen.length seen
  gq : ¬ blkO Q gs
  go : ¬ blkO O gs
  qo : ∀ b, blkO Q b → ¬ blkO O b
  lo : W.heap.size ≤ gs
section
variable {W wr w' : World} {gs cq co cq' co' : Nat} {Q O Q' O' : Option Addr} {todo todo' : List Nat} {out out' seen : List Int}
theorem BSt.on (h : BSt W wr gs Q cq todo O co out seen) (hb : Below wr.heap.size wr w') : BSt W w' gs Q cq todo O co out seen :=
  ⟨h.bl.trans (hb.mono h.bl.size), h.q.below hb, h.o.below hb, h.s.under hb, h.gq, h.go, h.qo, h.lo⟩
theorem BSt.slt (h : BSt W wr gs Q cq todo O co out seen) : gs < wr.heap.size := h.s.lt
/-- The set turned. -/
theorem BSt.mark {n : Int} (h : BSt W wr gs Q cq todo O co out seen) (hn : I64 n) (hl : seen.length ≤ 4000) : ∃ w', (Instr.mapUpdate 96 (.map (some gs)) (.int .i64 n) (.bool true)).run Try.prog wr = .ok () w' ∧ BSt W w' gs Q cq todo O co out (seen ++ [n]) := by
  obtain ⟨w', hrun, h1, h2⟩ := h.s.put ints_keyed Try.underlying96 Try.underlying4 (show seen.length < maxLen by unfold maxLen; omega) intL_inj intL_key (int_key hn)
  have ho : Only (fun b => b = gs) wr w' := ⟨h2.os, h2.tape, h2.output, h2.size, fun i hi hne => h2.block i hi (fun e => hne (Option.some.inj e))⟩
  refine ⟨w', hrun, ho.to_below h.bl h.bl.size (fun b hb => by rw [hb]; exact h.lo), h.q.only ho (fun b hb e => h.gq (by subst e; exact hb)), h.o.only ho (fun b hb e => h.go (by subst e; exact hb)), ?_, h.gq, h.go, h.qo, h.lo⟩
  rw [List.length_append]
  exact h1
theorem BSt.mark2 {n : Int} (h : BSt W wr gs Q cq todo O co out seen) (hn : I64 n) (hl : seen.length ≤ 4000) : ∃ w', (Instr.mapUpdate 96 (.map (some gs)) (.int .i64 n) (.bool true)).run Try.prog wr = .ok () w' ∧ BSt W w' gs Q cq todo O co out (seen ++ [n]) ∧ Only (fun b => b = gs) wr w' := by
  obtain ⟨w', hrun, h1, h2⟩ := h.s.put ints_keyed Try.underlying96 Try.underlying4 (show seen.length < maxLen by unfold maxLen; omega) intL_inj intL_key (int_key hn)
  have ho : Only (fun b => b = gs) wr w' := ⟨h2.os, h2.tape, h2.output, h2.size, fun i hi hne => h2.block i hi (fun e => hne (Option.some.inj e))⟩
  refine ⟨w', hrun, ⟨ho.to_below h.bl h.bl.size (fun b hb => by rw [hb]; exact h.lo), h.q.only ho (fun b hb e => h.gq (by subst e; exact hb)), h.o.only ho (fun b hb e => h.go (by subst e; exact hb)), ?_, h.gq, h.go, h.qo, h.lo⟩, ho⟩
  rw [List.length_append]
  exact h1
/-- What is seen. -/
theorem BSt.look {n : Int} (h : BSt W wr gs Q cq todo O co out seen) (hn : I64 n) : (Instr.lookup 96 (.map (some gs)) (.int .i64 n) false).run Try.prog wr = .ok (.bool (seen.contains n)) wr :=
  h.s.look ints_keyed Try.underlying96 Try.underlying4 (zero_boolS wr) (int_key hn)
/-- The list grown. -/
theorem BSt.pushO (h : BSt W wr gs Q cq todo O co out seen) {ob : Obj} (hg : Grew O O' (wr.alloc ob) w') (ho : OwnAt w' W.heap.size 3 1 O' out'.length co' (ints out')) : BSt W w' gs Q cq todo O' co' out' seen := by
  have hg2 := hg.from_alloc
  have hon : Only (fun b => blkO O b) wr w' := hg2.only
  refine ⟨hon.to_below h.bl h.bl.size (fun b hb => (blkO_own h.o hb).1), h.q.only hon (fun b hb e => h.qo b hb e), ho, ?_, h.gq, fun e => ?_, fun b hb e => ?_, h.lo⟩
  · obtain ⟨D, ⟨es, clock, hb, h1⟩, h2⟩ := h.s
    exact ⟨D, ⟨es, clock, (hon.block gs h.slt h.go).trans hb, h1⟩, h2⟩
  · rcases hg2.at' gs e with e | e
    · exact h.go e
    · have := h.slt; omega
  · rcases hg2.at' b e with e | e
    · exact h.qo b hb e
    · have := (blkO_own h.q hb).2; omega
/-- The queue grown. -/
theorem BSt.pushQ (h : BSt W wr gs Q cq todo O co out seen) (hg2 : Grew Q Q' wr w') (hq : HOwn w' W.heap.size Q' cq' todo') : BSt W w' gs Q' cq' todo' O co out seen := by
  have hon : Only (fun b => blkO Q b) wr w' := hg2.only
  refine ⟨hon.to_below h.bl h.bl.size (fun b hb => (blkO_own h.q hb).1), hq, h.o.only hon (fun b hb e => h.qo b e hb), ?_, fun e => ?_, h.go, fun b hb e => ?_, h.lo⟩
  · obtain ⟨D, ⟨es, clock, hb, h1⟩, h2⟩ := h.s
    exact ⟨D, ⟨es, clock, (hon.block gs h.slt h.gq).trans hb, h1⟩, h2⟩
  · rcases hg2.at' gs e with e | e
    · exact h.gq e
    · have := h.slt; omega
  · rcases hg2.at' b hb with hb | hb
    · exact h.qo b hb e
    · have := (blkO_own h.o e).2; omega
/-- The queue cut at its head. -/
theorem BSt.cut {u : Nat} (h : BSt W wr gs Q cq (u :: todo) O co out seen) : ∃ Q', (∀ w, (Instr.slice 88 (.slice Q (todo.length + 1) cq) (some (.int .i64 1)) none none).run Try.prog w = .ok (.slice Q' todo.length (cq - 1)) w) ∧ BSt W wr gs Q' (cq - 1) todo O co out seen := by
  obtain ⟨i0, z0, hi0, hz0, hz1, hz2, hz3⟩ := hu_parts
  obtain ⟨g, o, rfl, _⟩ := h.q.some_of (by simp)
  have hq : OwnAt wr W.heap.size 90 1 (some ⟨g, o, none⟩) (todo.length + 1) cq (flat huC (u :: todo)) := h.q
  obtain ⟨o', hrun, hcut⟩ := hq.tail (P := Try.prog) (t := 88) (i := i0) Try.underlying88 hi0 hz1 (by omega)
  have hfl : (flat huC (u :: todo)).drop 1 = flat huC todo := rfl
  rw [hfl, Nat.add_sub_cancel] at hcut
  refine ⟨some ⟨g, o', none⟩, fun w => by rw [hrun w, Nat.add_sub_cancel], h.bl, hcut, h.o, h.s, fun e => h.gq (by have := blkO_some e; dsimp only at this; subst this; rfl), h.go, fun b hb => h.qo b (by have := blkO_some hb; dsimp only at this; subst this; rfl), h.lo⟩
end
/-- Words, or none, appended to a slice of the call's own. -/
theorem wpList_append_h0 {ops : Array Oper} {rest : List Oper} {o : Oper} {a : Act} {w : World} {Q : Exit → Act → World → Prop} (hgd : o.guard = none) (s x : Operand)
    (ho : o.op = .call { callee := .builtin .append, args := #[s, x], argTypes := #[88, 88] })
    (base : Nat) (A : Option Addr) (c : Nat) (zs : List Nat) (hs : a.eval s = .slice A zs.length c) (hown : HOwn w base A c zs)
    (A1 : Option Addr) (c1 B : Nat) (ys : List Nat) (hx : a.eval x = .slice A1 ys.length c1) (hr : Row w B A1 (flat huC ys))
    (hb : (zs.length + ys.length) * 8 ≤ 140737488355328) (hbase : base ≤ w.heap.size)
    (h : ∀ A' c' w', HOwn w' base A' c' (zs ++ ys) → Grew A A' w w' → wpList Try.prog ops Q rest (a.put o.dst (.slice A' (zs.length + ys.length) c')) w') : wpList Try.prog ops Q (o :: rest) a w := by
  by_cases hp : 0 < ys.length
  · exact wpList_append_hq hgd s x 88 88 ho Try.underlying88 Try.underlying88 base A c zs hs hown A1 c1 B ys hx hr hp hb hbase h
  · have hy : ys = [] := List.eq_nil_of_length_eq_zero (by omega)
    subst hy
    obtain ⟨i0, z0, hi0, hz0, hz1, hz2, hz3⟩ := hu_parts
    refine wpList_plain hgd fun K hK => ?_
    have hrun := run_append_q0 (P := Try.prog) w 88 o.type 90 i0 Try.underlying88 hi0 A zs.length c hown.cap_le.1 A1 c1
    unfold Oper.wp execOp
    simp only [ho, resolve, invoke, builtin, Sem.run_bind, Sem.run_pure, Result.andThen_ok, List.map_toArray, List.map_cons, List.map_nil, hs, hx, List.length_nil, hrun]
    have h1 := h A c w (by rw [List.append_nil]; exact hown) (Grew.refl A w)
    rw [List.length_nil, Nat.add_zero] at h1
    exact hK _ _ h1
end Go.Proofs.Ytdjahlkjfpbifaa
