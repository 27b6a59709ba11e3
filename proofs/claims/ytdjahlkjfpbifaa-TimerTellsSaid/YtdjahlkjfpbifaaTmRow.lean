
/-
  Slices of roadstead/timer.Due: what they read as, and the library's functions over them.
-/
import Derived.Test.YtdjahlkjfpbifaaTmDef
import Derived.Laws.StructEq
namespace Go.Proofs.Ytdjahlkjfpbifaa
open Go.RowKit

def duC (x : Du) : List Value := [.int .i64 x.t, .int .i64 x.id]
def duV (x : Du) : Value := .agg #[.int .i64 x.t, .int .i64 x.id]
theorem duC_len (x : Du) : (duC x).length = 2 := rfl
theorem du_info : (Try.prog.info? 139).map (fun i => (i.size, i.bytes)) = some (2, 16) := by kernel_rfl
theorem du_zero : ((Try.prog.info? 139).bind (·.zero)).map (fun z => z.cells.size) = some 2 := by kernel_rfl
theorem du_parts : ∃ i z, Try.prog.info? 139 = some i ∧ i.zero = some z ∧ i.size = 2 ∧ i.bytes = 16 ∧ z.cells.size = 2 := by
  have h1 := du_info
  have h2 := du_zero
  cases hi : Try.prog.info? 139 with
  | none => rw [hi] at h1; cases h1
  | some i =>
    rw [hi] at h1 h2
    simp only [Option.map_some, Option.some.injEq, Prod.mk.injEq, Option.bind_some] at h1 h2
    cases hz : i.zero with
    | none => rw [hz] at h2; cases h2
    | some z =>
      rw [hz] at h2
      simp only [Option.map_some, Option.some.injEq] at h2
      exact ⟨i, z, rfl, hz, h1.1, h1.2, h2⟩
theorem du_one (x : Du) : ∀ u ∈ duC x, u.oneCell' = true := by
  intro u hu
  simp only [duC, List.mem_cons, List.not_mem_nil, or_false] at hu
  rcases hu with rfl | rfl <;> rfl
theorem du_one_all (l : List (Du)) : ∀ u ∈ flat duC l, u.oneCell' = true := by
  intro u hu
  simp only [flat, List.mem_flatMap] at hu
  obtain ⟨x, _, hx⟩ := hu
  exact du_one x u hx
/-- Element i's cells. -/
theorem Row.du {w : World} {B : Nat} {A : Option Addr} {l : List (Du)} (h : Row w B A (flat duC l)) {i : Nat} (hi : i < l.length) (d : Du) :
    ∃ b o, A = some ⟨b, o, none⟩ ∧ b < B
      ∧ w.cell? ⟨b, o + i * 2, none⟩ = some (.int .i64 (l.getD i d).t)
      ∧ w.cell? ⟨b, o + i * 2 + 1, none⟩ = some (.int .i64 (l.getD i d).id)
    := by
  obtain ⟨b, o, e, hb, hc⟩ := Row.elem duC_len (by decide) h (getD_some d hi)
  exact ⟨b, o, e, hb, hc 0 _ rfl, hc 1 _ rfl⟩

/-- One element appended to a row of the call's own. -/
theorem wpList_push_du {ops : Array Oper} {rest : List Oper} {o : Oper} {a : Act} {w : World} {Q : Exit → Act → World → Prop} (hgd : o.guard = none) (s x : Operand)
    (ho : o.op = .call { callee := .builtin .append, args := #[s, x], argTypes := #[126, 126] })
    (base : Nat) (v : Value) (zs : List (Du)) (hs : a.eval s = v) (hown : w.ownsRow base 139 2 v zs.length (flat duC zs)) (g : Nat) (y : Du) (hx : a.eval x = .slice (some ⟨g, 0, none⟩) 1 1) (hy : ∀ j u, (duC y)[j]? = some u → w.cell? ⟨g, j, none⟩ = some u)
    (hb : (zs.length + 1) * 16 ≤ 140737488355328) (hbase : base ≤ w.heap.size)
    (h : ∀ v' w', w'.ownsRow base 139 2 v' (zs ++ [y]).length (flat duC (zs ++ [y])) → w.grownBy w' v.ownBlock → wpList Try.prog ops Q rest (a.put o.dst v') w') : wpList Try.prog ops Q (o :: rest) a w := by
  obtain ⟨i0, z0, hi0, hz0, hz1, hz2, hz3⟩ := du_parts
  refine wpList_append_own _ hgd s x _ ho base 139 i0 z0 2 16 Try.underlying126 hi0 hz0 hz1 hz2 hz3 (by decide) v zs.length (flat duC zs) hs hown ⟨g, 0, none⟩ 1 1 (duC y) hx rfl ?_ (du_one y) (by unfold maxLen; omega) hb hbase ?_
  · intro j u hu
    rw [addr_add, Nat.zero_add]
    exact hy j u hu
  · intro v' w' h1 h2 _
    refine h v' w' ?_ h2
    rw [List.length_append, flat_append, flat_one]
    exact h1

set_option maxRecDepth 100000 in
set_option maxHeartbeats 1000000 in
theorem indexFunc_du (A : Option Addr) (c : Nat) (xs : List (Du)) (fid : FuncId) (caps : Array Value) (f : Du → Bool) (B : Nat) (Inv : World → Prop) (w : World) (he : Enters fid) (hm : xs.length ≤ maxLen)
    (hr : ∀ w, Inv w → Row w B A (flat duC xs))
    (hf : ∀ x ∈ xs, ∀ w, Inv w → Calls Try.prog fid (#[duV x] ++ caps) w fun e w' => e = .returned (.bool (f x)) ∧ Inv w') (hi : Inv w) :
    Calls Try.prog 148 #[.slice A xs.length c, .func (.func fid) #[] caps] w fun e w' => e = .returned (.int .i64 (idxAt f xs 0)) ∧ Inv w' := by
  have HF := Lib.hid hf
  have HR := Lib.hid hr
  clear hf hr
  unfold Enters at he
  unfold maxLen at hm
  go_enter Try.func148, Try.ntmps148
  go_wp2_with fail
  go_loopw [8] (fun i wr => ∃ k : Nat, k ≤ xs.length ∧ i = .int .i64 k ∧ Hid (idxAt f xs 0 = idxAt f (xs.drop k) k) ∧ Inv wr) (fun i _ => xs.length - (intOf i).toNat)
  case atStart => exact ⟨0, by omega, rfl, rfl, hi⟩
  case round =>
    obtain ⟨k, hk, rfl, HK, hI⟩ := hrel
    by_cases hlt : k < xs.length
    · obtain ⟨b, o, rfl, _, hc0, hc1⟩ := (HR.out wr hI).du hlt du0
      have hmem := getD_mem du0 hlt
      have HD := Lib.hid (idxAt_drop f xs du0 k hlt k)
      generalize xs.getD k du0 = x at *
      have HM := Lib.hid hmem
      clear hmem
      go_wp2_with fail
      refine (HF.out x HM.out wr hI).mono ?_
      rintro e w1 ⟨rfl, hI1⟩
      by_cases hfx : f x = true
      · have HX := Lib.hid hfx
        rw [hfx]
        clear hfx
        go_wp2_with fail
        go_ret
        refine ⟨?_, hI1⟩
        rw [HK.out, HD.out, if_pos HX.out]
        rfl
      · have HX := Lib.hid hfx
        rw [show f x = false by simpa using hfx]
        clear hfx
        go_wp2_with fail
        go_roundw
        case rel =>
          refine ⟨k + 1, by omega, by go_num, ?_, hI1⟩
          unfold Hid
          rw [HK.out, HD.out, if_neg HX.out]
          rfl
        case measure => simp [intOf]; omega
    · go_wp2_with fail
      go_ret
      refine ⟨?_, hI⟩
      rw [HK.out, List.drop_eq_nil_of_le (by omega)]
      rfl

set_option maxRecDepth 100000 in
set_option maxHeartbeats 400000 in
theorem clone_du (A : Option Addr) (c : Nat) (xs : List (Du)) (B : Nat) (w : World) (hr : Row w B A (flat duC xs)) (hA : A = none → c = 0) (hm : xs.length * 16 ≤ 140737488355328) :
    Calls Try.prog 66 #[.slice A xs.length c] w fun e w' => ∃ v, e = .returned v ∧ w'.ownsRow w.heap.size 139 2 v xs.length (flat duC xs) ∧ Below w.heap.size w w' := by
  rcases A with _ | ad
  · obtain rfl := hA rfl
    have hx : xs = [] := by
      rcases xs with _ | ⟨x, r⟩
      · rfl
      · obtain ⟨b, o, h, _⟩ := hr (by rw [flat_len duC_len]; simp)
        cases h
    subst hx
    have he := fun w => Lib.run_eql_slice_nil (P := Try.prog) w 126 139 none 0 0 0 0 Try.underlying126
    go_enter Try.func66, Try.ntmps66
    go_wp2_with fail
    go_ret
    exact ⟨_, rfl, World.ownsRow_nil _ _ _ _, Below.refl _ _⟩
  · have he := fun w => Lib.run_eql_slice_nil (P := Try.prog) w 126 139 (some ad) xs.length c 0 0 Try.underlying126
    obtain ⟨i0, z0, hi0, hz0, hz1, hz2, hz3⟩ := du_parts
    have hnews : ∀ j u, (flat duC xs)[j]? = some u → (w.alloc (.cells ⟨[]⟩ 139)).cell? (ad.add j) = some u := by
      intro j u hu
      have hj : j < (flat duC xs).length := (List.getElem?_eq_some_iff.1 hu).1
      obtain ⟨b, o, e, _, hc⟩ := hr (by omega)
      injection e with e
      subst e
      have h1 := hc j u hu
      rw [addr_add, World.cell?_alloc_lt w _ ⟨b, o + j, none⟩ (lt_of_cell h1)]
      exact h1
    have HN := Lib.hid hnews
    have HO := Lib.hid (du_one_all xs)
    have hown : (w.alloc (.cells ⟨[]⟩ 139)).ownsRow w.heap.size 139 2 (.slice (some ⟨w.heap.size, 0, none⟩) 0 0) 0 [] := World.ownsRow_lit w ⟨[]⟩ 0 (Nat.le_refl _) (Nat.zero_le _) rfl
    have HW := Lib.hid hown
    have HB := Lib.hid (show Below w.heap.size w (w.alloc (.cells ⟨[]⟩ 139)) from (Below.refl _ _).alloc (Nat.le_refl _) _)
    clear hnews hown hr hA
    go_enter Try.func66, Try.ntmps66
    go_wp2_with (at_builtin; refine wpList_append_own _ rfl (.tmp 5) (.tmp 6) _ rfl w.heap.size 139 i0 z0 2 16 Try.underlying126 hi0 hz0 hz1 hz2 hz3 (by decide) _ 0 [] rfl HW.out ad xs.length c (flat duC xs) rfl (flat_len duC_len xs) HN.out HO.out (by unfold maxLen; omega) (by omega) (by simp) ?_; intro v' w1 hown' hg' _)
    go_ret
    refine ⟨v', rfl, by simpa using hown', HB.out.grown hg' (by simp) (fun k hk => ?_)⟩
    have hk' := (HW.out.lt k hk).1
    exact hk'

theorem du_fields : Try.prog.underlying 139 = some (.struct (Try.prog.fieldsOf 139)) := by kernel_rfl
theorem du_neq (w : World) (x y : Du) : (binOp .neq 139 (.agg #[.int .i64 x.t, .int .i64 x.id]) (.agg #[.int .i64 y.t, .int .i64 y.id])).run Try.prog w = .ok (.bool (!decide (x = y))) w := by
  rw [run_neq_struct, run_equalIn_struct w 9999 _ _ _ du_fields (by kernel_rfl)]
  obtain ⟨a0, a1⟩ := x
  obtain ⟨b0, b1⟩ := y
  simp [Program.fieldsOf, Try.underlying139, Op.eqFields, go_sem]
  by_cases h0 : a0 = b0 <;> by_cases h1 : a1 = b1 <;> simp [h0, h1]

set_option maxRecDepth 100000 in
set_option maxHeartbeats 1000000 in
theorem equal_du (A A' : Option Addr) (c c' : Nat) (xs ys : List (Du)) (B B' : Nat) (w : World) (ra : Row w B A (flat duC xs)) (rb : Row w B' A' (flat duC ys)) (hm : xs.length ≤ maxLen) (_hm' : ys.length ≤ maxLen) :
    Calls Try.prog 64 #[.slice A xs.length c, .slice A' ys.length c'] w fun e w' => e = .returned (.bool (decide (xs = ys))) ∧ ∃ n, w' = w.drewN n := by
  unfold maxLen at hm
  by_cases hl : xs.length = ys.length
  · have HL := Lib.hid hl
    have b1 : ((xs.length : Int) != (ys.length : Int)) = false := by simp; omega
    have b2 : (xs.length != ys.length) = false := by simp; omega
    have hl1 : xs.length ≤ ys.length := by omega
    have hl2 : ys.length ≤ xs.length := by omega
    clear hl
    go_enter Try.func64, Try.ntmps64
    go_wp2_with fail
    go_loopw [13] (fun i wr => ∃ (k m : Nat), k ≤ xs.length ∧ i = .int .i64 k ∧ sameTo du0 xs ys k ∧ wr = w.drewN m) (fun i _ => xs.length - (intOf i).toNat)
    case atStart => exact ⟨0, 0, by omega, rfl, fun i hi => by omega, rfl⟩
    case round =>
      obtain ⟨k, m, hk, rfl, hE, rfl⟩ := hrel
      have HE := Lib.hid hE
      clear hE
      by_cases hlt : k < xs.length
      · obtain ⟨b, o, rfl, _, hc0, hc1⟩ := ra.du hlt du0
        obtain ⟨b', o', rfl, _, hd0, hd1⟩ := rb.du (show k < ys.length by omega) du0
        have HS := Lib.hid (fun e => sameTo_succ (k := k) HE.out e)
        have HN := Lib.hid (show xs.getD k du0 ≠ ys.getD k du0 → xs ≠ ys from fun h e => h (by rw [e]))
        generalize xs.getD k du0 = x at *
        generalize ys.getD k du0 = y at *
        have hlt1 : (k : Int) < (xs.length : Int) := by omega
        have hlt2 : (k : Int) < (ys.length : Int) := by omega
        have hlt3 : k < ys.length := by omega
        by_cases hxy : x = y
        · have hq := fun w => du_neq w x y
          rw [show decide (x = y) = true by simp [hxy]] at hq
          have HX := Lib.hid hxy
          clear hxy
          go_wp2_with fail
          go_quiet (fail)
          go_wp2_with fail
          go_roundw
          case rel => exact ⟨k + 1, _, by omega, by go_num, HS.out HX.out, rfl⟩
          case measure => simp [intOf]; omega
        · have hq := fun w => du_neq w x y
          rw [show decide (x = y) = false by simp [hxy]] at hq
          have HX := Lib.hid hxy
          clear hxy
          go_wp2_with fail
          go_quiet (fail)
          go_wp2_with fail
          go_ret
          refine ⟨?_, drewN_more _ _ _⟩
          rw [show decide (xs = ys) = false by simpa using HN.out HX.out]
          rfl
      · obtain rfl : k = xs.length := by omega
        go_wp2_with fail
        go_ret
        refine ⟨?_, _, rfl⟩
        rw [show decide (xs = ys) = true by simpa using eq_of_sameTo HL.out HE.out]
        rfl
  · have b1 : ((xs.length : Int) != (ys.length : Int)) = true := by simp; omega
    have b2 : (xs.length != ys.length) = true := by simp; omega
    have HN := Lib.hid (show xs ≠ ys from fun e => hl (by rw [e]))
    clear hl
    go_enter Try.func64, Try.ntmps64
    go_wp2_with fail
    go_ret
    refine ⟨?_, 0, rfl⟩
    rw [show decide (xs = ys) = false by simpa using HN.out]
    rfl
end Go.Proofs.Ytdjahlkjfpbifaa
