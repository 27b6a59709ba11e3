/-
  Slices of roadstead/weight.Way: what they read as, and the library's functions over them.
-/
import Derived.Test.YtcmkkfpcdebfkaaQueue
import Derived.Laws.StructEq
namespace Go.Proofs.Ytcmkkfpcdebfkaa
open Go.RowKit

def wyC (x : (Int × Int × Int × Bool)) : List Value := [.int .i64 x.1, .int .i64 x.2.1, .int .i64 x.2.2.1, .bool x.2.2.2]
def wyV (x : (Int × Int × Int × Bool)) : Value := .agg #[.int .i64 x.1, .int .i64 x.2.1, .int .i64 x.2.2.1, .bool x.2.2.2]
theorem wyC_len (x : (Int × Int × Int × Bool)) : (wyC x).length = 4 := rfl
theorem wy_info : (Try.prog.info? 95).map (fun i => (i.size, i.bytes)) = some (4, 32) := by kernel_rfl
theorem wy_zero : ((Try.prog.info? 95).bind (·.zero)).map (fun z => z.cells.size) = some 4 := by kernel_rfl
theorem wy_parts : ∃ i z, Try.prog.info? 95 = some i ∧ i.zero = some z ∧ i.size = 4 ∧ i.bytes = 32 ∧ z.cells.size = 4 := by
  have h1 := wy_info
  have h2 := wy_zero
  cases hi : Try.prog.info? 95 with
  | none => rw [hi] at h1; cases h1
  | some i =>
    rw [hi] at h1 h2
    simp only [Option.map_some, Option.some.injEq, Prod.mk.injEq, Option.bind_some] at h1 h2
    cases hz : i.zero with
    | none => rw [hz] at h2; cases h2
    | some z =>
      rw [hz] at h2
      simp only [Option.map_some, Option.some.injEq] at h2
      exact ⟨i, z, rfl, hz, h1.1, h1.2, h2⟩
theorem wy_one (x : (Int × Int × Int × Bool)) : ∀ u ∈ wyC x, u.oneCell' = true := by
  intro u hu
  simp only [wyC, List.mem_cons, List.not_mem_nil, or_false] at hu
  rcases hu with rfl | rfl | rfl | rfl <;> rfl
theorem wy_one_all (l : List ((Int × Int × Int × Bool))) : ∀ u ∈ flat wyC l, u.oneCell' = true := by
  intro u hu
  simp only [flat, List.mem_flatMap] at hu
  obtain ⟨x, _, hx⟩ := hu
  exact wy_one x u hx
/-- Element i's cells. -/
theorem Row.wy {w : World} {B : Nat} {A : Option Addr} {l : List ((Int × Int × Int × Bool))} (h : Row w B A (flat wyC l)) {i : Nat} (hi : i < l.length) (d : (Int × Int × Int × Bool)) :
    ∃ b o, A = some ⟨b, o, none⟩ ∧ b < B
      ∧ w.cell? ⟨b, o + i * 4, none⟩ = some (.int .i64 (l.getD i d).1)
      ∧ w.cell? ⟨b, o + i * 4 + 1, none⟩ = some (.int .i64 (l.getD i d).2.1)
      ∧ w.cell? ⟨b, o + i * 4 + 2, none⟩ = some (.int .i64 (l.getD i d).2.2.1)
      ∧ w.cell? ⟨b, o + i * 4 + 3, none⟩ = some (.bool (l.getD i d).2.2.2)
    := by
  obtain ⟨b, o, e, hb, hc⟩ := Row.elem wyC_len (by decide) h (getD_some d hi)
  exact ⟨b, o, e, hb, hc 0 _ rfl, hc 1 _ rfl, hc 2 _ rfl, hc 3 _ rfl⟩

/-- One element appended to a row of the call's own. -/
theorem wpList_push_wy {ops : Array Oper} {rest : List Oper} {o : Oper} {a : Act} {w : World} {Q : Exit → Act → World → Prop} (hgd : o.guard = none) (s x : Operand)
    (ho : o.op = .call { callee := .builtin .append, args := #[s, x], argTypes := #[93, 93] })
    (base : Nat) (v : Value) (zs : List ((Int × Int × Int × Bool))) (hs : a.eval s = v) (hown : w.ownsRow base 95 4 v zs.length (flat wyC zs)) (g : Nat) (y : (Int × Int × Int × Bool)) (hx : a.eval x = .slice (some ⟨g, 0, none⟩) 1 1) (hy : ∀ j u, (wyC y)[j]? = some u → w.cell? ⟨g, j, none⟩ = some u)
    (hb : (zs.length + 1) * 32 ≤ 140737488355328) (hbase : base ≤ w.heap.size)
    (h : ∀ v' w', w'.ownsRow base 95 4 v' (zs ++ [y]).length (flat wyC (zs ++ [y])) → w.grownBy w' v.ownBlock → wpList Try.prog ops Q rest (a.put o.dst v') w') : wpList Try.prog ops Q (o :: rest) a w := by
  obtain ⟨i0, z0, hi0, hz0, hz1, hz2, hz3⟩ := wy_parts
  refine wpList_append_own _ hgd s x _ ho base 95 i0 z0 4 32 Try.underlying93 hi0 hz0 hz1 hz2 hz3 (by decide) v zs.length (flat wyC zs) hs hown ⟨g, 0, none⟩ 1 1 (wyC y) hx rfl ?_ (wy_one y) (by unfold maxLen; omega) hb hbase ?_
  · intro j u hu
    rw [addr_add, Nat.zero_add]
    exact hy j u hu
  · intro v' w' h1 h2 _
    refine h v' w' ?_ h2
    rw [List.length_append, flat_append, flat_one]
    exact h1

set_option maxRecDepth 100000 in
set_option maxHeartbeats 400000 in
theorem clone_wy (A : Option Addr) (c : Nat) (xs : List ((Int × Int × Int × Bool))) (B : Nat) (w : World) (hr : Row w B A (flat wyC xs)) (hA : A = none → c = 0) (hm : xs.length * 32 ≤ 140737488355328) :
    Calls Try.prog 146 #[.slice A xs.length c] w fun e w' => ∃ v, e = .returned v ∧ w'.ownsRow w.heap.size 95 4 v xs.length (flat wyC xs) ∧ Below w.heap.size w w' := by
  rcases A with _ | ad
  · obtain rfl := hA rfl
    have hx : xs = [] := by
      rcases xs with _ | ⟨x, r⟩
      · rfl
      · obtain ⟨b, o, h, _⟩ := hr (by rw [flat_len wyC_len]; simp)
        cases h
    subst hx
    have he := fun w => Lib.run_eql_slice_nil (P := Try.prog) w 93 95 none 0 0 0 0 Try.underlying93
    go_enter Try.func146, Try.ntmps146
    go_wp2_with fail
    go_ret
    exact ⟨_, rfl, World.ownsRow_nil _ _ _ _, Below.refl _ _⟩
  · have he := fun w => Lib.run_eql_slice_nil (P := Try.prog) w 93 95 (some ad) xs.length c 0 0 Try.underlying93
    obtain ⟨i0, z0, hi0, hz0, hz1, hz2, hz3⟩ := wy_parts
    have hnews : ∀ j u, (flat wyC xs)[j]? = some u → (w.alloc (.cells ⟨[]⟩ 95)).cell? (ad.add j) = some u := by
      intro j u hu
      have hj : j < (flat wyC xs).length := (List.getElem?_eq_some_iff.1 hu).1
      obtain ⟨b, o, e, _, hc⟩ := hr (by omega)
      injection e with e
      subst e
      have h1 := hc j u hu
      rw [addr_add, World.cell?_alloc_lt w _ ⟨b, o + j, none⟩ (lt_of_cell h1)]
      exact h1
    have HN := Lib.hid hnews
    have HO := Lib.hid (wy_one_all xs)
    have hown : (w.alloc (.cells ⟨[]⟩ 95)).ownsRow w.heap.size 95 4 (.slice (some ⟨w.heap.size, 0, none⟩) 0 0) 0 [] := World.ownsRow_lit w ⟨[]⟩ 0 (Nat.le_refl _) (Nat.zero_le _) rfl
    have HW := Lib.hid hown
    have HB := Lib.hid (show Below w.heap.size w (w.alloc (.cells ⟨[]⟩ 95)) from (Below.refl _ _).alloc (Nat.le_refl _) _)
    clear hnews hown hr hA
    go_enter Try.func146, Try.ntmps146
    go_wp2_with (at_builtin; refine wpList_append_own _ rfl (.tmp 5) (.tmp 6) _ rfl w.heap.size 95 i0 z0 4 32 Try.underlying93 hi0 hz0 hz1 hz2 hz3 (by decide) _ 0 [] rfl HW.out ad xs.length c (flat wyC xs) rfl (flat_len wyC_len xs) HN.out HO.out (by unfold maxLen; omega) (by omega) (by simp) ?_; intro v' w1 hown' hg' _)
    go_ret
    refine ⟨v', rfl, by simpa using hown', HB.out.grown hg' (by simp) (fun k hk => ?_)⟩
    have hk' := (HW.out.lt k hk).1
    exact hk'

theorem wy_fields : Try.prog.underlying 95 = some (.struct (Try.prog.fieldsOf 95)) := by kernel_rfl
theorem wy_neq (w : World) (x y : (Int × Int × Int × Bool)) : (binOp .neq 95 (.agg #[.int .i64 x.1, .int .i64 x.2.1, .int .i64 x.2.2.1, .bool x.2.2.2]) (.agg #[.int .i64 y.1, .int .i64 y.2.1, .int .i64 y.2.2.1, .bool y.2.2.2])).run Try.prog w = .ok (.bool (!decide (x = y))) w := by
  rw [run_neq_struct, run_equalIn_struct w 9999 _ _ _ wy_fields (by kernel_rfl)]
  obtain ⟨a0, a1, a2, a3⟩ := x
  obtain ⟨b0, b1, b2, b3⟩ := y
  simp [Program.fieldsOf, Try.underlying95, Op.eqFields, go_sem]
  by_cases h0 : a0 = b0 <;> by_cases h1 : a1 = b1 <;> by_cases h2 : a2 = b2 <;> by_cases h3 : a3 = b3 <;> simp [h0, h1, h2, h3]

set_option maxRecDepth 100000 in
set_option maxHeartbeats 1000000 in
theorem equal_wy (A A' : Option Addr) (c c' : Nat) (xs ys : List ((Int × Int × Int × Bool))) (B B' : Nat) (w : World) (ra : Row w B A (flat wyC xs)) (rb : Row w B' A' (flat wyC ys)) (hm : xs.length ≤ maxLen) (_hm' : ys.length ≤ maxLen) :
    Calls Try.prog 51 #[.slice A xs.length c, .slice A' ys.length c'] w fun e w' => e = .returned (.bool (decide (xs = ys))) ∧ ∃ n, w' = w.drewN n := by
  unfold maxLen at hm
  by_cases hl : xs.length = ys.length
  · have HL := Lib.hid hl
    have b1 : ((xs.length : Int) != (ys.length : Int)) = false := by simp; omega
    have b2 : (xs.length != ys.length) = false := by simp; omega
    have hl1 : xs.length ≤ ys.length := by omega
    have hl2 : ys.length ≤ xs.length := by omega
    clear hl
    go_enter Try.func51, Try.ntmps51
    go_wp2_with fail
    go_loopw [13] (fun i wr => ∃ (k m : Nat), k ≤ xs.length ∧ i = .int .i64 k ∧ sameTo (0, 0, 0, false) xs ys k ∧ wr = w.drewN m) (fun i _ => xs.length - (intOf i).toNat)
    case atStart => exact ⟨0, 0, by omega, rfl, fun i hi => by omega, rfl⟩
    case round =>
      obtain ⟨k, m, hk, rfl, hE, rfl⟩ := hrel
      have HE := Lib.hid hE
      clear hE
      by_cases hlt : k < xs.length
      · obtain ⟨b, o, rfl, _, hc0, hc1, hc2, hc3⟩ := ra.wy hlt (0, 0, 0, false)
        obtain ⟨b', o', rfl, _, hd0, hd1, hd2, hd3⟩ := rb.wy (show k < ys.length by omega) (0, 0, 0, false)
        have HS := Lib.hid (fun e => sameTo_succ (k := k) HE.out e)
        have HN := Lib.hid (show xs.getD k (0, 0, 0, false) ≠ ys.getD k (0, 0, 0, false) → xs ≠ ys from fun h e => h (by rw [e]))
        generalize xs.getD k (0, 0, 0, false) = x at *
        generalize ys.getD k (0, 0, 0, false) = y at *
        have hlt1 : (k : Int) < (xs.length : Int) := by omega
        have hlt2 : (k : Int) < (ys.length : Int) := by omega
        have hlt3 : k < ys.length := by omega
        by_cases hxy : x = y
        · have hq := fun w => wy_neq w x y
          rw [show decide (x = y) = true by simp [hxy]] at hq
          have HX := Lib.hid hxy
          clear hxy
          go_wp2_with fail
          go_quiet (fail)
          go_wp2_with fail
          go_roundw
          case rel => exact ⟨k + 1, _, by omega, by go_num, HS.out HX.out, rfl⟩
          case measure => simp [intOf]; omega
        · have hq := fun w => wy_neq w x y
          rw [show decide (x = y) = false by simp [hxy]] at hq
          have HX := Lib.hid hxy
          clear hxy
          go_wp2_with fail
          go_quiet (fail)
          go_wp2_with fail
          go_ret
          refine ⟨?_, drewN_more _ _ _⟩
          rw [show decide (xs = ys) = false by simpa using HN.out HX.out]
          rfl
      · obtain rfl : k = xs.length := by omega
        go_wp2_with fail
        go_ret
        refine ⟨?_, _, rfl⟩
        rw [show decide (xs = ys) = true by simpa using eq_of_sameTo HL.out HE.out]
        rfl
  · have b1 : ((xs.length : Int) != (ys.length : Int)) = true := by simp; omega
    have b2 : (xs.length != ys.length) = true := by simp; omega
    have HN := Lib.hid (show xs ≠ ys from fun e => hl (by rw [e]))
    clear hl
    go_enter Try.func51, Try.ntmps51
    go_wp2_with fail
    go_ret
    refine ⟨?_, 0, rfl⟩
    rw [show decide (xs = ys) = false by simpa using HN.out]
    rfl
end Go.Proofs.Ytcmkkfpcdebfkaa
