
/-
  Slices of roadstead/api.Event: what they read as, and the library's functions over them.
-/
import Derived.Test.YtgkckldflfalgaaQueue
import Derived.Laws.StructEq
namespace Go.Proofs.Ytgkckldflfalgaa
open Go.RowKit

def evC (x : (Int × Int × Int)) : List Value := [.int .i64 x.1, .int .i64 x.2.1, .int .i64 x.2.2]
def evV (x : (Int × Int × Int)) : Value := .agg #[.int .i64 x.1, .int .i64 x.2.1, .int .i64 x.2.2]
theorem evC_len (x : (Int × Int × Int)) : (evC x).length = 3 := rfl
theorem ev_info : (Try.prog.info? 41).map (fun i => (i.size, i.bytes)) = some (3, 24) := by kernel_rfl
theorem ev_zero : ((Try.prog.info? 41).bind (·.zero)).map (fun z => z.cells.size) = some 3 := by kernel_rfl
theorem ev_parts : ∃ i z, Try.prog.info? 41 = some i ∧ i.zero = some z ∧ i.size = 3 ∧ i.bytes = 24 ∧ z.cells.size = 3 := by
  have h1 := ev_info
  have h2 := ev_zero
  cases hi : Try.prog.info? 41 with
  | none => rw [hi] at h1; cases h1
  | some i =>
    rw [hi] at h1 h2
    simp only [Option.map_some, Option.some.injEq, Prod.mk.injEq, Option.bind_some] at h1 h2
    cases hz : i.zero with
    | none => rw [hz] at h2; cases h2
    | some z =>
      rw [hz] at h2
      simp only [Option.map_some, Option.some.injEq] at h2
      exact ⟨i, z, rfl, hz, h1.1, h1.2, h2⟩
theorem ev_one (x : (Int × Int × Int)) : ∀ u ∈ evC x, u.oneCell' = true := by
  intro u hu
  simp only [evC, List.mem_cons, List.not_mem_nil, or_false] at hu
  rcases hu with rfl | rfl | rfl <;> rfl
theorem ev_one_all (l : List ((Int × Int × Int))) : ∀ u ∈ flat evC l, u.oneCell' = true := by
  intro u hu
  simp only [flat, List.mem_flatMap] at hu
  obtain ⟨x, _, hx⟩ := hu
  exact ev_one x u hx
/-- Element i's cells. -/
theorem Row.ev {w : World} {B : Nat} {A : Option Addr} {l : List ((Int × Int × Int))} (h : Row w B A (flat evC l)) {i : Nat} (hi : i < l.length) (d : (Int × Int × Int)) :
    ∃ b o, A = some ⟨b, o, none⟩ ∧ b < B
      ∧ w.cell? ⟨b, o + i * 3, none⟩ = some (.int .i64 (l.getD i d).1)
      ∧ w.cell? ⟨b, o + i * 3 + 1, none⟩ = some (.int .i64 (l.getD i d).2.1)
      ∧ w.cell? ⟨b, o + i * 3 + 2, none⟩ = some (.int .i64 (l.getD i d).2.2)
    := by
  obtain ⟨b, o, e, hb, hc⟩ := Row.elem evC_len (by decide) h (getD_some d hi)
  exact ⟨b, o, e, hb, hc 0 _ rfl, hc 1 _ rfl, hc 2 _ rfl⟩

/-- One element appended to a row of the call's own. -/
theorem wpList_push_ev {ops : Array Oper} {rest : List Oper} {o : Oper} {a : Act} {w : World} {Q : Exit → Act → World → Prop} (hgd : o.guard = none) (s x : Operand)
    (ho : o.op = .call { callee := .builtin .append, args := #[s, x], argTypes := #[22, 22] })
    (base : Nat) (v : Value) (zs : List ((Int × Int × Int))) (hs : a.eval s = v) (hown : w.ownsRow base 41 3 v zs.length (flat evC zs)) (g : Nat) (y : (Int × Int × Int)) (hx : a.eval x = .slice (some ⟨g, 0, none⟩) 1 1) (hy : ∀ j u, (evC y)[j]? = some u → w.cell? ⟨g, j, none⟩ = some u)
    (hb : (zs.length + 1) * 24 ≤ 140737488355328) (hbase : base ≤ w.heap.size)
    (h : ∀ v' w', w'.ownsRow base 41 3 v' (zs ++ [y]).length (flat evC (zs ++ [y])) → w.grownBy w' v.ownBlock → wpList Try.prog ops Q rest (a.put o.dst v') w') : wpList Try.prog ops Q (o :: rest) a w := by
  obtain ⟨i0, z0, hi0, hz0, hz1, hz2, hz3⟩ := ev_parts
  refine wpList_append_own _ hgd s x _ ho base 41 i0 z0 3 24 Try.underlying22 hi0 hz0 hz1 hz2 hz3 (by decide) v zs.length (flat evC zs) hs hown ⟨g, 0, none⟩ 1 1 (evC y) hx rfl ?_ (ev_one y) (by unfold maxLen; omega) hb hbase ?_
  · intro j u hu
    rw [addr_add, Nat.zero_add]
    exact hy j u hu
  · intro v' w' h1 h2 _
    refine h v' w' ?_ h2
    rw [List.length_append, flat_append, flat_one]
    exact h1

set_option maxRecDepth 100000 in
set_option maxHeartbeats 1000000 in
theorem indexFunc_ev (A : Option Addr) (c : Nat) (xs : List ((Int × Int × Int))) (fid : FuncId) (caps : Array Value) (f : (Int × Int × Int) → Bool) (B : Nat) (Inv : World → Prop) (w : World) (he : Enters fid) (hm : xs.length ≤ maxLen)
    (hr : ∀ w, Inv w → Row w B A (flat evC xs))
    (hf : ∀ x ∈ xs, ∀ w, Inv w → Calls Try.prog fid (#[evV x] ++ caps) w fun e w' => e = .returned (.bool (f x)) ∧ Inv w') (hi : Inv w) :
    Calls Try.prog 16 #[.slice A xs.length c, .func (.func fid) #[] caps] w fun e w' => e = .returned (.int .i64 (idxAt f xs 0)) ∧ Inv w' := by
  have HF := Lib.hid hf
  have HR := Lib.hid hr
  clear hf hr
  unfold Enters at he
  unfold maxLen at hm
  go_enter Try.func16, Try.ntmps16
  go_wp2_with fail
  go_loopw [8] (fun i wr => ∃ k : Nat, k ≤ xs.length ∧ i = .int .i64 k ∧ Hid (idxAt f xs 0 = idxAt f (xs.drop k) k) ∧ Inv wr) (fun i _ => xs.length - (intOf i).toNat)
  case atStart => exact ⟨0, by omega, rfl, rfl, hi⟩
  case round =>
    obtain ⟨k, hk, rfl, HK, hI⟩ := hrel
    by_cases hlt : k < xs.length
    · obtain ⟨b, o, rfl, _, hc0, hc1, hc2⟩ := (HR.out wr hI).ev hlt (0, 0, 0)
      have hmem := getD_mem (0, 0, 0) hlt
      have HD := Lib.hid (idxAt_drop f xs (0, 0, 0) k hlt k)
      generalize xs.getD k (0, 0, 0) = x at *
      have HM := Lib.hid hmem
      clear hmem
      go_wp2_with fail
      refine (HF.out x HM.out wr hI).mono ?_
      rintro e w1 ⟨rfl, hI1⟩
      by_cases hfx : f x = true
      · have HX := Lib.hid hfx
        rw [hfx]
        clear hfx
        go_wp2_with fail
        go_ret
        refine ⟨?_, hI1⟩
        rw [HK.out, HD.out, if_pos HX.out]
        rfl
      · have HX := Lib.hid hfx
        rw [show f x = false by simpa using hfx]
        clear hfx
        go_wp2_with fail
        go_roundw
        case rel =>
          refine ⟨k + 1, by omega, by go_num, ?_, hI1⟩
          unfold Hid
          rw [HK.out, HD.out, if_neg HX.out]
          rfl
        case measure => simp [intOf]; omega
    · go_wp2_with fail
      go_ret
      refine ⟨?_, hI⟩
      rw [HK.out, List.drop_eq_nil_of_le (by omega)]
      rfl

set_option maxRecDepth 100000 in
theorem containsFunc_ev (A : Option Addr) (c : Nat) (xs : List ((Int × Int × Int))) (fid : FuncId) (caps : Array Value) (f : (Int × Int × Int) → Bool) (B : Nat) (Inv : World → Prop) (w : World) (he : Enters fid) (hm : xs.length ≤ maxLen)
    (hr : ∀ w, Inv w → Row w B A (flat evC xs))
    (hf : ∀ x ∈ xs, ∀ w, Inv w → Calls Try.prog fid (#[evV x] ++ caps) w fun e w' => e = .returned (.bool (f x)) ∧ Inv w') (hi : Inv w) :
    Calls Try.prog 11 #[.slice A xs.length c, .func (.func fid) #[] caps] w fun e w' => e = .returned (.bool (xs.any f)) ∧ Inv w' := by
  have HC := Lib.hid (indexFunc_ev A c xs fid caps f B Inv w he hm hr hf hi)
  clear hr hf hi he
  go_enter Try.func11, Try.ntmps11
  go_wp2_with fail
  refine HC.out.mono ?_
  rintro e w1 ⟨rfl, hI⟩
  have HA := Lib.hid (idxAt_any f xs 0 (by omega))
  generalize idxAt f xs 0 = j at *
  go_wp2_with fail
  go_ret
  refine ⟨?_, hI⟩
  rw [← HA.out]
  rfl

theorem ev_fields : Try.prog.underlying 41 = some (.struct (Try.prog.fieldsOf 41)) := by kernel_rfl
theorem ev_neq (w : World) (x y : (Int × Int × Int)) : (binOp .neq 41 (.agg #[.int .i64 x.1, .int .i64 x.2.1, .int .i64 x.2.2]) (.agg #[.int .i64 y.1, .int .i64 y.2.1, .int .i64 y.2.2])).run Try.prog w = .ok (.bool (!decide (x = y))) w := by
  rw [run_neq_struct, run_equalIn_struct w 9999 _ _ _ ev_fields (by kernel_rfl)]
  obtain ⟨a0, a1, a2⟩ := x
  obtain ⟨b0, b1, b2⟩ := y
  simp [Program.fieldsOf, Try.underlying41, Op.eqFields, go_sem]
  by_cases h0 : a0 = b0 <;> by_cases h1 : a1 = b1 <;> by_cases h2 : a2 = b2 <;> simp [h0, h1, h2]

end Go.Proofs.Ytgkckldflfalgaa
