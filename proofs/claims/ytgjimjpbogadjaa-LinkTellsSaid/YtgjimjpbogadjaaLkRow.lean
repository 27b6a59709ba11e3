
/-
  Slices of roadstead/link.Row: what they read as, and the library's functions over them.
-/
import Derived.Test.YtgjimjpbogadjaaLkDef
import Derived.Laws.StructEq
namespace Go.Proofs.Ytgjimjpbogadjaa
open Go.RowKit

def lkC (x : LkC) : List Value := [.int .i64 x.r, .slice x.W.A x.W.len x.W.cap, .slice x.L.A x.L.len x.L.cap]
def lkV (x : LkC) : Value := .agg #[.int .i64 x.r, .slice x.W.A x.W.len x.W.cap, .slice x.L.A x.L.len x.L.cap]
theorem lkC_len (x : LkC) : (lkC x).length = 3 := rfl
theorem lk_info : (Try.prog.info? 114).map (fun i => (i.size, i.bytes)) = some (3, 56) := by kernel_rfl
theorem lk_zero : ((Try.prog.info? 114).bind (·.zero)).map (fun z => z.cells.size) = some 3 := by kernel_rfl
theorem lk_parts : ∃ i z, Try.prog.info? 114 = some i ∧ i.zero = some z ∧ i.size = 3 ∧ i.bytes = 56 ∧ z.cells.size = 3 := by
  have h1 := lk_info
  have h2 := lk_zero
  cases hi : Try.prog.info? 114 with
  | none => rw [hi] at h1; cases h1
  | some i =>
    rw [hi] at h1 h2
    simp only [Option.map_some, Option.some.injEq, Prod.mk.injEq, Option.bind_some] at h1 h2
    cases hz : i.zero with
    | none => rw [hz] at h2; cases h2
    | some z =>
      rw [hz] at h2
      simp only [Option.map_some, Option.some.injEq] at h2
      exact ⟨i, z, rfl, hz, h1.1, h1.2, h2⟩
theorem lk_one (x : LkC) : ∀ u ∈ lkC x, u.oneCell' = true := by
  intro u hu
  simp only [lkC, List.mem_cons, List.not_mem_nil, or_false] at hu
  rcases hu with rfl | rfl | rfl <;> rfl
theorem lk_one_all (l : List (LkC)) : ∀ u ∈ flat lkC l, u.oneCell' = true := by
  intro u hu
  simp only [flat, List.mem_flatMap] at hu
  obtain ⟨x, _, hx⟩ := hu
  exact lk_one x u hx
/-- Element i's cells. -/
theorem Row.lk {w : World} {B : Nat} {A : Option Addr} {l : List (LkC)} (h : Row w B A (flat lkC l)) {i : Nat} (hi : i < l.length) (d : LkC) :
    ∃ b o, A = some ⟨b, o, none⟩ ∧ b < B
      ∧ w.cell? ⟨b, o + i * 3, none⟩ = some (.int .i64 (l.getD i d).r)
      ∧ w.cell? ⟨b, o + i * 3 + 1, none⟩ = some (.slice (l.getD i d).W.A (l.getD i d).W.len (l.getD i d).W.cap)
      ∧ w.cell? ⟨b, o + i * 3 + 2, none⟩ = some (.slice (l.getD i d).L.A (l.getD i d).L.len (l.getD i d).L.cap)
    := by
  obtain ⟨b, o, e, hb, hc⟩ := Row.elem lkC_len (by decide) h (getD_some d hi)
  exact ⟨b, o, e, hb, hc 0 _ rfl, hc 1 _ rfl, hc 2 _ rfl⟩

/-- One element appended to a row of the call's own. -/
theorem wpList_push_lk {ops : Array Oper} {rest : List Oper} {o : Oper} {a : Act} {w : World} {Q : Exit → Act → World → Prop} (hgd : o.guard = none) (s x : Operand)
    (ho : o.op = .call { callee := .builtin .append, args := #[s, x], argTypes := #[96, 96] })
    (base : Nat) (v : Value) (zs : List (LkC)) (hs : a.eval s = v) (hown : w.ownsRow base 114 3 v zs.length (flat lkC zs)) (g : Nat) (y : LkC) (hx : a.eval x = .slice (some ⟨g, 0, none⟩) 1 1) (hy : ∀ j u, (lkC y)[j]? = some u → w.cell? ⟨g, j, none⟩ = some u)
    (hb : (zs.length + 1) * 56 ≤ 140737488355328) (hbase : base ≤ w.heap.size)
    (h : ∀ v' w', w'.ownsRow base 114 3 v' (zs ++ [y]).length (flat lkC (zs ++ [y])) → w.grownBy w' v.ownBlock → wpList Try.prog ops Q rest (a.put o.dst v') w') : wpList Try.prog ops Q (o :: rest) a w := by
  obtain ⟨i0, z0, hi0, hz0, hz1, hz2, hz3⟩ := lk_parts
  refine wpList_append_own _ hgd s x _ ho base 114 i0 z0 3 56 Try.underlying96 hi0 hz0 hz1 hz2 hz3 (by decide) v zs.length (flat lkC zs) hs hown ⟨g, 0, none⟩ 1 1 (lkC y) hx rfl ?_ (lk_one y) (by unfold maxLen; omega) hb hbase ?_
  · intro j u hu
    rw [addr_add, Nat.zero_add]
    exact hy j u hu
  · intro v' w' h1 h2 _
    refine h v' w' ?_ h2
    rw [List.length_append, flat_append, flat_one]
    exact h1

set_option maxRecDepth 100000 in
set_option maxHeartbeats 1000000 in
theorem indexFunc_lk (A : Option Addr) (c : Nat) (xs : List (LkC)) (fid : FuncId) (caps : Array Value) (f : LkC → Bool) (B : Nat) (Inv : World → Prop) (w : World) (he : Enters fid) (hm : xs.length ≤ maxLen)
    (hr : ∀ w, Inv w → Row w B A (flat lkC xs))
    (hf : ∀ x ∈ xs, ∀ w, Inv w → Calls Try.prog fid (#[lkV x] ++ caps) w fun e w' => e = .returned (.bool (f x)) ∧ Inv w') (hi : Inv w) :
    Calls Try.prog 149 #[.slice A xs.length c, .func (.func fid) #[] caps] w fun e w' => e = .returned (.int .i64 (idxAt f xs 0)) ∧ Inv w' := by
  have HF := Lib.hid hf
  have HR := Lib.hid hr
  clear hf hr
  unfold Enters at he
  unfold maxLen at hm
  go_enter Try.func149, Try.ntmps149
  go_wp2_with fail
  go_loopw [8] (fun i wr => ∃ k : Nat, k ≤ xs.length ∧ i = .int .i64 k ∧ Hid (idxAt f xs 0 = idxAt f (xs.drop k) k) ∧ Inv wr) (fun i _ => xs.length - (intOf i).toNat)
  case atStart => exact ⟨0, by omega, rfl, rfl, hi⟩
  case round =>
    obtain ⟨k, hk, rfl, HK, hI⟩ := hrel
    by_cases hlt : k < xs.length
    · obtain ⟨b, o, rfl, _, hc0, hc1, hc2⟩ := (HR.out wr hI).lk hlt lkc0
      have hmem := getD_mem lkc0 hlt
      have HD := Lib.hid (idxAt_drop f xs lkc0 k hlt k)
      generalize xs.getD k lkc0 = x at *
      have HM := Lib.hid hmem
      clear hmem
      go_wp2_with fail
      refine (HF.out x HM.out wr hI).mono ?_
      rintro e w1 ⟨rfl, hI1⟩
      by_cases hfx : f x = true
      · have HX := Lib.hid hfx
        rw [hfx]
        clear hfx
        go_wp2_with fail
        go_ret
        refine ⟨?_, hI1⟩
        rw [HK.out, HD.out, if_pos HX.out]
        rfl
      · have HX := Lib.hid hfx
        rw [show f x = false by simpa using hfx]
        clear hfx
        go_wp2_with fail
        go_roundw
        case rel =>
          refine ⟨k + 1, by omega, by go_num, ?_, hI1⟩
          unfold Hid
          rw [HK.out, HD.out, if_neg HX.out]
          rfl
        case measure => simp [intOf]; omega
    · go_wp2_with fail
      go_ret
      refine ⟨?_, hI⟩
      rw [HK.out, List.drop_eq_nil_of_le (by omega)]
      rfl
end Go.Proofs.Ytgjimjpbogadjaa
