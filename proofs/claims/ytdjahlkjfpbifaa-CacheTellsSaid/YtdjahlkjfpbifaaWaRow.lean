
/-
  Slices of roadstead/cache.Way: what they read as, and the library's functions over them.
-/
import Derived.Test.YtdjahlkjfpbifaaCaDef
import Derived.Laws.StructEq
namespace Go.Proofs.Ytdjahlkjfpbifaa
open Go.RowKit

def waC (x : Wa) : List Value := [.string x.tag, .int .i64 x.fn]
def waV (x : Wa) : Value := .agg #[.string x.tag, .int .i64 x.fn]
theorem waC_len (x : Wa) : (waC x).length = 2 := rfl
theorem wa_info : (Try.prog.info? 77).map (fun i => (i.size, i.bytes)) = some (2, 24) := by kernel_rfl
theorem wa_zero : ((Try.prog.info? 77).bind (·.zero)).map (fun z => z.cells.size) = some 2 := by kernel_rfl
theorem wa_parts : ∃ i z, Try.prog.info? 77 = some i ∧ i.zero = some z ∧ i.size = 2 ∧ i.bytes = 24 ∧ z.cells.size = 2 := by
  have h1 := wa_info
  have h2 := wa_zero
  cases hi : Try.prog.info? 77 with
  | none => rw [hi] at h1; cases h1
  | some i =>
    rw [hi] at h1 h2
    simp only [Option.map_some, Option.some.injEq, Prod.mk.injEq, Option.bind_some] at h1 h2
    cases hz : i.zero with
    | none => rw [hz] at h2; cases h2
    | some z =>
      rw [hz] at h2
      simp only [Option.map_some, Option.some.injEq] at h2
      exact ⟨i, z, rfl, hz, h1.1, h1.2, h2⟩
theorem wa_one (x : Wa) : ∀ u ∈ waC x, u.oneCell' = true := by
  intro u hu
  simp only [waC, List.mem_cons, List.not_mem_nil, or_false] at hu
  rcases hu with rfl | rfl <;> rfl
theorem wa_one_all (l : List (Wa)) : ∀ u ∈ flat waC l, u.oneCell' = true := by
  intro u hu
  simp only [flat, List.mem_flatMap] at hu
  obtain ⟨x, _, hx⟩ := hu
  exact wa_one x u hx
/-- Element i's cells. -/
theorem Row.wa {w : World} {B : Nat} {A : Option Addr} {l : List (Wa)} (h : Row w B A (flat waC l)) {i : Nat} (hi : i < l.length) (d : Wa) :
    ∃ b o, A = some ⟨b, o, none⟩ ∧ b < B
      ∧ w.cell? ⟨b, o + i * 2, none⟩ = some (.string (l.getD i d).tag)
      ∧ w.cell? ⟨b, o + i * 2 + 1, none⟩ = some (.int .i64 (l.getD i d).fn)
    := by
  obtain ⟨b, o, e, hb, hc⟩ := Row.elem waC_len (by decide) h (getD_some d hi)
  exact ⟨b, o, e, hb, hc 0 _ rfl, hc 1 _ rfl⟩

/-- One element appended to a row of the call's own. -/
theorem wpList_push_wa {ops : Array Oper} {rest : List Oper} {o : Oper} {a : Act} {w : World} {Q : Exit → Act → World → Prop} (hgd : o.guard = none) (s x : Operand)
    (ho : o.op = .call { callee := .builtin .append, args := #[s, x], argTypes := #[75, 75] })
    (base : Nat) (v : Value) (zs : List (Wa)) (hs : a.eval s = v) (hown : w.ownsRow base 77 2 v zs.length (flat waC zs)) (g : Nat) (y : Wa) (hx : a.eval x = .slice (some ⟨g, 0, none⟩) 1 1) (hy : ∀ j u, (waC y)[j]? = some u → w.cell? ⟨g, j, none⟩ = some u)
    (hb : (zs.length + 1) * 24 ≤ 140737488355328) (hbase : base ≤ w.heap.size)
    (h : ∀ v' w', w'.ownsRow base 77 2 v' (zs ++ [y]).length (flat waC (zs ++ [y])) → w.grownBy w' v.ownBlock → wpList Try.prog ops Q rest (a.put o.dst v') w') : wpList Try.prog ops Q (o :: rest) a w := by
  obtain ⟨i0, z0, hi0, hz0, hz1, hz2, hz3⟩ := wa_parts
  refine wpList_append_own _ hgd s x _ ho base 77 i0 z0 2 24 Try.underlying75 hi0 hz0 hz1 hz2 hz3 (by decide) v zs.length (flat waC zs) hs hown ⟨g, 0, none⟩ 1 1 (waC y) hx rfl ?_ (wa_one y) (by unfold maxLen; omega) hb hbase ?_
  · intro j u hu
    rw [addr_add, Nat.zero_add]
    exact hy j u hu
  · intro v' w' h1 h2 _
    refine h v' w' ?_ h2
    rw [List.length_append, flat_append, flat_one]
    exact h1

set_option maxRecDepth 100000 in
set_option maxHeartbeats 1000000 in
theorem indexFunc_wa (A : Option Addr) (c : Nat) (xs : List (Wa)) (fid : FuncId) (caps : Array Value) (f : Wa → Bool) (B : Nat) (Inv : World → Prop) (w : World) (he : Enters fid) (hm : xs.length ≤ maxLen)
    (hr : ∀ w, Inv w → Row w B A (flat waC xs))
    (hf : ∀ x ∈ xs, ∀ w, Inv w → Calls Try.prog fid (#[waV x] ++ caps) w fun e w' => e = .returned (.bool (f x)) ∧ Inv w') (hi : Inv w) :
    Calls Try.prog 31 #[.slice A xs.length c, .func (.func fid) #[] caps] w fun e w' => e = .returned (.int .i64 (idxAt f xs 0)) ∧ Inv w' := by
  have HF := Lib.hid hf
  have HR := Lib.hid hr
  clear hf hr
  unfold Enters at he
  unfold maxLen at hm
  go_enter Try.func31, Try.ntmps31
  go_wp2_with fail
  go_loopw [8] (fun i wr => ∃ k : Nat, k ≤ xs.length ∧ i = .int .i64 k ∧ Hid (idxAt f xs 0 = idxAt f (xs.drop k) k) ∧ Inv wr) (fun i _ => xs.length - (intOf i).toNat)
  case atStart => exact ⟨0, by omega, rfl, rfl, hi⟩
  case round =>
    obtain ⟨k, hk, rfl, HK, hI⟩ := hrel
    by_cases hlt : k < xs.length
    · obtain ⟨b, o, rfl, _, hc0, hc1⟩ := (HR.out wr hI).wa hlt wa0
      have hmem := getD_mem wa0 hlt
      have HD := Lib.hid (idxAt_drop f xs wa0 k hlt k)
      generalize xs.getD k wa0 = x at *
      have HM := Lib.hid hmem
      clear hmem
      go_wp2_with fail
      refine (HF.out x HM.out wr hI).mono ?_
      rintro e w1 ⟨rfl, hI1⟩
      by_cases hfx : f x = true
      · have HX := Lib.hid hfx
        rw [hfx]
        clear hfx
        go_wp2_with fail
        go_ret
        refine ⟨?_, hI1⟩
        rw [HK.out, HD.out, if_pos HX.out]
        rfl
      · have HX := Lib.hid hfx
        rw [show f x = false by simpa using hfx]
        clear hfx
        go_wp2_with fail
        go_roundw
        case rel =>
          refine ⟨k + 1, by omega, by go_num, ?_, hI1⟩
          unfold Hid
          rw [HK.out, HD.out, if_neg HX.out]
          rfl
        case measure => simp [intOf]; omega
    · go_wp2_with fail
      go_ret
      refine ⟨?_, hI⟩
      rw [HK.out, List.drop_eq_nil_of_le (by omega)]
      rfl

set_option maxRecDepth 100000 in
set_option maxHeartbeats 400000 in
theorem clone_wa (A : Option Addr) (c : Nat) (xs : List (Wa)) (B : Nat) (w : World) (hr : Row w B A (flat waC xs)) (hA : A = none → c = 0) (hm : xs.length * 24 ≤ 140737488355328) :
    Calls Try.prog 90 #[.slice A xs.length c] w fun e w' => ∃ v, e = .returned v ∧ w'.ownsRow w.heap.size 77 2 v xs.length (flat waC xs) ∧ Below w.heap.size w w' := by
  rcases A with _ | ad
  · obtain rfl := hA rfl
    have hx : xs = [] := by
      rcases xs with _ | ⟨x, r⟩
      · rfl
      · obtain ⟨b, o, h, _⟩ := hr (by rw [flat_len waC_len]; simp)
        cases h
    subst hx
    have he := fun w => Lib.run_eql_slice_nil (P := Try.prog) w 75 77 none 0 0 0 0 Try.underlying75
    go_enter Try.func90, Try.ntmps90
    go_wp2_with fail
    go_ret
    exact ⟨_, rfl, World.ownsRow_nil _ _ _ _, Below.refl _ _⟩
  · have he := fun w => Lib.run_eql_slice_nil (P := Try.prog) w 75 77 (some ad) xs.length c 0 0 Try.underlying75
    obtain ⟨i0, z0, hi0, hz0, hz1, hz2, hz3⟩ := wa_parts
    have hnews : ∀ j u, (flat waC xs)[j]? = some u → (w.alloc (.cells ⟨[]⟩ 77)).cell? (ad.add j) = some u := by
      intro j u hu
      have hj : j < (flat waC xs).length := (List.getElem?_eq_some_iff.1 hu).1
      obtain ⟨b, o, e, _, hc⟩ := hr (by omega)
      injection e with e
      subst e
      have h1 := hc j u hu
      rw [addr_add, World.cell?_alloc_lt w _ ⟨b, o + j, none⟩ (lt_of_cell h1)]
      exact h1
    have HN := Lib.hid hnews
    have HO := Lib.hid (wa_one_all xs)
    have hown : (w.alloc (.cells ⟨[]⟩ 77)).ownsRow w.heap.size 77 2 (.slice (some ⟨w.heap.size, 0, none⟩) 0 0) 0 [] := World.ownsRow_lit w ⟨[]⟩ 0 (Nat.le_refl _) (Nat.zero_le _) rfl
    have HW := Lib.hid hown
    have HB := Lib.hid (show Below w.heap.size w (w.alloc (.cells ⟨[]⟩ 77)) from (Below.refl _ _).alloc (Nat.le_refl _) _)
    clear hnews hown hr hA
    go_enter Try.func90, Try.ntmps90
    go_wp2_with (at_builtin; refine wpList_append_own _ rfl (.tmp 5) (.tmp 6) _ rfl w.heap.size 77 i0 z0 2 24 Try.underlying75 hi0 hz0 hz1 hz2 hz3 (by decide) _ 0 [] rfl HW.out ad xs.length c (flat waC xs) rfl (flat_len waC_len xs) HN.out HO.out (by unfold maxLen; omega) (by omega) (by simp) ?_; intro v' w1 hown' hg' _)
    go_ret
    refine ⟨v', rfl, by simpa using hown', HB.out.grown hg' (by simp) (fun k hk => ?_)⟩
    have hk' := (HW.out.lt k hk).1
    exact hk'

theorem wa_fields : Try.prog.underlying 77 = some (.struct (Try.prog.fieldsOf 77)) := by kernel_rfl
theorem wa_neq (w : World) (x y : Wa) : (binOp .neq 77 (.agg #[.string x.tag, .int .i64 x.fn]) (.agg #[.string y.tag, .int .i64 y.fn])).run Try.prog w = .ok (.bool (!decide (x = y))) w := by
  rw [run_neq_struct, run_equalIn_struct w 9999 _ _ _ wa_fields (by kernel_rfl)]
  obtain ⟨a0, a1⟩ := x
  obtain ⟨b0, b1⟩ := y
  simp [Program.fieldsOf, Try.underlying77, Op.eqFields, go_sem, bytes_inj]
  by_cases h0 : a0 = b0 <;> by_cases h1 : a1 = b1 <;> simp [h0, h1]

set_option maxRecDepth 100000 in
set_option maxHeartbeats 1000000 in
theorem equal_wa (A A' : Option Addr) (c c' : Nat) (xs ys : List (Wa)) (B B' : Nat) (w : World) (ra : Row w B A (flat waC xs)) (rb : Row w B' A' (flat waC ys)) (hm : xs.length ≤ maxLen) (_hm' : ys.length ≤ maxLen) :
    Calls Try.prog 36 #[.slice A xs.length c, .slice A' ys.length c'] w fun e w' => e = .returned (.bool (decide (xs = ys))) ∧ ∃ n, w' = w.drewN n := by
  unfold maxLen at hm
  by_cases hl : xs.length = ys.length
  · have HL := Lib.hid hl
    have b1 : ((xs.length : Int) != (ys.length : Int)) = false := by simp; omega
    have b2 : (xs.length != ys.length) = false := by simp; omega
    have hl1 : xs.length ≤ ys.length := by omega
    have hl2 : ys.length ≤ xs.length := by omega
    clear hl
    go_enter Try.func36, Try.ntmps36
    go_wp2_with fail
    go_loopw [13] (fun i wr => ∃ (k m : Nat), k ≤ xs.length ∧ i = .int .i64 k ∧ sameTo wa0 xs ys k ∧ wr = w.drewN m) (fun i _ => xs.length - (intOf i).toNat)
    case atStart => exact ⟨0, 0, by omega, rfl, fun i hi => by omega, rfl⟩
    case round =>
      obtain ⟨k, m, hk, rfl, hE, rfl⟩ := hrel
      have HE := Lib.hid hE
      clear hE
      by_cases hlt : k < xs.length
      · obtain ⟨b, o, rfl, _, hc0, hc1⟩ := ra.wa hlt wa0
        obtain ⟨b', o', rfl, _, hd0, hd1⟩ := rb.wa (show k < ys.length by omega) wa0
        have HS := Lib.hid (fun e => sameTo_succ (k := k) HE.out e)
        have HN := Lib.hid (show xs.getD k wa0 ≠ ys.getD k wa0 → xs ≠ ys from fun h e => h (by rw [e]))
        generalize xs.getD k wa0 = x at *
        generalize ys.getD k wa0 = y at *
        have hlt1 : (k : Int) < (xs.length : Int) := by omega
        have hlt2 : (k : Int) < (ys.length : Int) := by omega
        have hlt3 : k < ys.length := by omega
        by_cases hxy : x = y
        · have hq := fun w => wa_neq w x y
          rw [show decide (x = y) = true by simp [hxy]] at hq
          have HX := Lib.hid hxy
          clear hxy
          go_wp2_with fail
          go_quiet (fail)
          go_wp2_with fail
          go_roundw
          case rel => exact ⟨k + 1, _, by omega, by go_num, HS.out HX.out, rfl⟩
          case measure => simp [intOf]; omega
        · have hq := fun w => wa_neq w x y
          rw [show decide (x = y) = false by simp [hxy]] at hq
          have HX := Lib.hid hxy
          clear hxy
          go_wp2_with fail
          go_quiet (fail)
          go_wp2_with fail
          go_ret
          refine ⟨?_, drewN_more _ _ _⟩
          rw [show decide (xs = ys) = false by simpa using HN.out HX.out]
          rfl
      · obtain rfl : k = xs.length := by omega
        go_wp2_with fail
        go_ret
        refine ⟨?_, _, rfl⟩
        rw [show decide (xs = ys) = true by simpa using eq_of_sameTo HL.out HE.out]
        rfl
  · have b1 : ((xs.length : Int) != (ys.length : Int)) = true := by simp; omega
    have b2 : (xs.length != ys.length) = true := by simp; omega
    have HN := Lib.hid (show xs ≠ ys from fun e => hl (by rw [e]))
    clear hl
    go_enter Try.func36, Try.ntmps36
    go_wp2_with fail
    go_ret
    refine ⟨?_, 0, rfl⟩
    rw [show decide (xs = ys) = false by simpa using HN.out]
    rfl
end Go.Proofs.Ytdjahlkjfpbifaa
