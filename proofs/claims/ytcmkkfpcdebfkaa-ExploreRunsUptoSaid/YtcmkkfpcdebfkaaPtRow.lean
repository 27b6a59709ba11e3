/-
  Slices of roadstead/part.Step: what they read as, and the library's functions over them.
-/
import Derived.Test.YtcmkkfpcdebfkaaQueue
import Derived.Laws.StructEq
namespace Go.Proofs.Ytcmkkfpcdebfkaa
open Go.RowKit

def ptC (x : (Int × Int × Int)) : List Value := [.int .i64 x.1, .int .i64 x.2.1, .int .i64 x.2.2]
def ptV (x : (Int × Int × Int)) : Value := .agg #[.int .i64 x.1, .int .i64 x.2.1, .int .i64 x.2.2]
theorem ptC_len (x : (Int × Int × Int)) : (ptC x).length = 3 := rfl
theorem pt_info : (Try.prog.info? 61).map (fun i => (i.size, i.bytes)) = some (3, 24) := by kernel_rfl
theorem pt_zero : ((Try.prog.info? 61).bind (·.zero)).map (fun z => z.cells.size) = some 3 := by kernel_rfl
theorem pt_parts : ∃ i z, Try.prog.info? 61 = some i ∧ i.zero = some z ∧ i.size = 3 ∧ i.bytes = 24 ∧ z.cells.size = 3 := by
  have h1 := pt_info
  have h2 := pt_zero
  cases hi : Try.prog.info? 61 with
  | none => rw [hi] at h1; cases h1
  | some i =>
    rw [hi] at h1 h2
    simp only [Option.map_some, Option.some.injEq, Prod.mk.injEq, Option.bind_some] at h1 h2
    cases hz : i.zero with
    | none => rw [hz] at h2; cases h2
    | some z =>
      rw [hz] at h2
      simp only [Option.map_some, Option.some.injEq] at h2
      exact ⟨i, z, rfl, hz, h1.1, h1.2, h2⟩
theorem pt_one (x : (Int × Int × Int)) : ∀ u ∈ ptC x, u.oneCell' = true := by
  intro u hu
  simp only [ptC, List.mem_cons, List.not_mem_nil, or_false] at hu
  rcases hu with rfl | rfl | rfl <;> rfl
theorem pt_one_all (l : List ((Int × Int × Int))) : ∀ u ∈ flat ptC l, u.oneCell' = true := by
  intro u hu
  simp only [flat, List.mem_flatMap] at hu
  obtain ⟨x, _, hx⟩ := hu
  exact pt_one x u hx
/-- Element i's cells. -/
theorem Row.pt {w : World} {B : Nat} {A : Option Addr} {l : List ((Int × Int × Int))} (h : Row w B A (flat ptC l)) {i : Nat} (hi : i < l.length) (d : (Int × Int × Int)) :
    ∃ b o, A = some ⟨b, o, none⟩ ∧ b < B
      ∧ w.cell? ⟨b, o + i * 3, none⟩ = some (.int .i64 (l.getD i d).1)
      ∧ w.cell? ⟨b, o + i * 3 + 1, none⟩ = some (.int .i64 (l.getD i d).2.1)
      ∧ w.cell? ⟨b, o + i * 3 + 2, none⟩ = some (.int .i64 (l.getD i d).2.2)
    := by
  obtain ⟨b, o, e, hb, hc⟩ := Row.elem ptC_len (by decide) h (getD_some d hi)
  exact ⟨b, o, e, hb, hc 0 _ rfl, hc 1 _ rfl, hc 2 _ rfl⟩

/-- One element appended to a row of the call's own. -/
theorem wpList_push_pt {ops : Array Oper} {rest : List Oper} {o : Oper} {a : Act} {w : World} {Q : Exit → Act → World → Prop} (hgd : o.guard = none) (s x : Operand)
    (ho : o.op = .call { callee := .builtin .append, args := #[s, x], argTypes := #[44, 44] })
    (base : Nat) (v : Value) (zs : List ((Int × Int × Int))) (hs : a.eval s = v) (hown : w.ownsRow base 61 3 v zs.length (flat ptC zs)) (g : Nat) (y : (Int × Int × Int)) (hx : a.eval x = .slice (some ⟨g, 0, none⟩) 1 1) (hy : ∀ j u, (ptC y)[j]? = some u → w.cell? ⟨g, j, none⟩ = some u)
    (hb : (zs.length + 1) * 24 ≤ 140737488355328) (hbase : base ≤ w.heap.size)
    (h : ∀ v' w', w'.ownsRow base 61 3 v' (zs ++ [y]).length (flat ptC (zs ++ [y])) → w.grownBy w' v.ownBlock → wpList Try.prog ops Q rest (a.put o.dst v') w') : wpList Try.prog ops Q (o :: rest) a w := by
  obtain ⟨i0, z0, hi0, hz0, hz1, hz2, hz3⟩ := pt_parts
  refine wpList_append_own _ hgd s x _ ho base 61 i0 z0 3 24 Try.underlying44 hi0 hz0 hz1 hz2 hz3 (by decide) v zs.length (flat ptC zs) hs hown ⟨g, 0, none⟩ 1 1 (ptC y) hx rfl ?_ (pt_one y) (by unfold maxLen; omega) hb hbase ?_
  · intro j u hu
    rw [addr_add, Nat.zero_add]
    exact hy j u hu
  · intro v' w' h1 h2 _
    refine h v' w' ?_ h2
    rw [List.length_append, flat_append, flat_one]
    exact h1

theorem pt_fields : Try.prog.underlying 61 = some (.struct (Try.prog.fieldsOf 61)) := by kernel_rfl
theorem pt_neq (w : World) (x y : (Int × Int × Int)) : (binOp .neq 61 (.agg #[.int .i64 x.1, .int .i64 x.2.1, .int .i64 x.2.2]) (.agg #[.int .i64 y.1, .int .i64 y.2.1, .int .i64 y.2.2])).run Try.prog w = .ok (.bool (!decide (x = y))) w := by
  rw [run_neq_struct, run_equalIn_struct w 9999 _ _ _ pt_fields (by kernel_rfl)]
  obtain ⟨a0, a1, a2⟩ := x
  obtain ⟨b0, b1, b2⟩ := y
  simp [Program.fieldsOf, Try.underlying61, Op.eqFields, go_sem]
  by_cases h0 : a0 = b0 <;> by_cases h1 : a1 = b1 <;> by_cases h2 : a2 = b2 <;> simp [h0, h1, h2]

set_option maxRecDepth 100000 in
set_option maxHeartbeats 1000000 in
theorem equal_pt (A A' : Option Addr) (c c' : Nat) (xs ys : List ((Int × Int × Int))) (B B' : Nat) (w : World) (ra : Row w B A (flat ptC xs)) (rb : Row w B' A' (flat ptC ys)) (hm : xs.length ≤ maxLen) (_hm' : ys.length ≤ maxLen) :
    Calls Try.prog 29 #[.slice A xs.length c, .slice A' ys.length c'] w fun e w' => e = .returned (.bool (decide (xs = ys))) ∧ ∃ n, w' = w.drewN n := by
  unfold maxLen at hm
  by_cases hl : xs.length = ys.length
  · have HL := Lib.hid hl
    have b1 : ((xs.length : Int) != (ys.length : Int)) = false := by simp; omega
    have b2 : (xs.length != ys.length) = false := by simp; omega
    have hl1 : xs.length ≤ ys.length := by omega
    have hl2 : ys.length ≤ xs.length := by omega
    clear hl
    go_enter Try.func29, Try.ntmps29
    go_wp2_with fail
    go_loopw [13] (fun i wr => ∃ (k m : Nat), k ≤ xs.length ∧ i = .int .i64 k ∧ sameTo (0, 0, 0) xs ys k ∧ wr = w.drewN m) (fun i _ => xs.length - (intOf i).toNat)
    case atStart => exact ⟨0, 0, by omega, rfl, fun i hi => by omega, rfl⟩
    case round =>
      obtain ⟨k, m, hk, rfl, hE, rfl⟩ := hrel
      have HE := Lib.hid hE
      clear hE
      by_cases hlt : k < xs.length
      · obtain ⟨b, o, rfl, _, hc0, hc1, hc2⟩ := ra.pt hlt (0, 0, 0)
        obtain ⟨b', o', rfl, _, hd0, hd1, hd2⟩ := rb.pt (show k < ys.length by omega) (0, 0, 0)
        have HS := Lib.hid (fun e => sameTo_succ (k := k) HE.out e)
        have HN := Lib.hid (show xs.getD k (0, 0, 0) ≠ ys.getD k (0, 0, 0) → xs ≠ ys from fun h e => h (by rw [e]))
        generalize xs.getD k (0, 0, 0) = x at *
        generalize ys.getD k (0, 0, 0) = y at *
        have hlt1 : (k : Int) < (xs.length : Int) := by omega
        have hlt2 : (k : Int) < (ys.length : Int) := by omega
        have hlt3 : k < ys.length := by omega
        by_cases hxy : x = y
        · have hq := fun w => pt_neq w x y
          rw [show decide (x = y) = true by simp [hxy]] at hq
          have HX := Lib.hid hxy
          clear hxy
          go_wp2_with fail
          go_quiet (fail)
          go_wp2_with fail
          go_roundw
          case rel => exact ⟨k + 1, _, by omega, by go_num, HS.out HX.out, rfl⟩
          case measure => simp [intOf]; omega
        · have hq := fun w => pt_neq w x y
          rw [show decide (x = y) = false by simp [hxy]] at hq
          have HX := Lib.hid hxy
          clear hxy
          go_wp2_with fail
          go_quiet (fail)
          go_wp2_with fail
          go_ret
          refine ⟨?_, drewN_more _ _ _⟩
          rw [show decide (xs = ys) = false by simpa using HN.out HX.out]
          rfl
      · obtain rfl : k = xs.length := by omega
        go_wp2_with fail
        go_ret
        refine ⟨?_, _, rfl⟩
        rw [show decide (xs = ys) = true by simpa using eq_of_sameTo HL.out HE.out]
        rfl
  · have b1 : ((xs.length : Int) != (ys.length : Int)) = true := by simp; omega
    have b2 : (xs.length != ys.length) = true := by simp; omega
    have HN := Lib.hid (show xs ≠ ys from fun e => hl (by rw [e]))
    clear hl
    go_enter Try.func29, Try.ntmps29
    go_wp2_with fail
    go_ret
    refine ⟨?_, 0, rfl⟩
    rw [show decide (xs = ys) = false by simpa using HN.out]
    rfl
end Go.Proofs.Ytcmkkfpcdebfkaa
