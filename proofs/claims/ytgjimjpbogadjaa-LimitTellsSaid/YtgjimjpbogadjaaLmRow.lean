
/-
  Slices of roadstead/limit.Row: what they read as, and the library's functions over them.
-/
import Derived.Test.YtgjimjpbogadjaaLmDef
import Derived.Laws.StructEq
namespace Go.Proofs.Ytgjimjpbogadjaa
open Go.RowKit

def lmC (x : Lm) : List Value := [.int .i64 x.ref, .int .i64 x.lt, .int .i64 x.ce, .int .i64 x.ml, .int .i64 x.mc]
def lmV (x : Lm) : Value := .agg #[.int .i64 x.ref, .int .i64 x.lt, .int .i64 x.ce, .int .i64 x.ml, .int .i64 x.mc]
theorem lmC_len (x : Lm) : (lmC x).length = 5 := rfl
theorem lm_info : (Try.prog.info? 89).map (fun i => (i.size, i.bytes)) = some (5, 40) := by kernel_rfl
theorem lm_zero : ((Try.prog.info? 89).bind (·.zero)).map (fun z => z.cells.size) = some 5 := by kernel_rfl
theorem lm_parts : ∃ i z, Try.prog.info? 89 = some i ∧ i.zero = some z ∧ i.size = 5 ∧ i.bytes = 40 ∧ z.cells.size = 5 := by
  have h1 := lm_info
  have h2 := lm_zero
  cases hi : Try.prog.info? 89 with
  | none => rw [hi] at h1; cases h1
  | some i =>
    rw [hi] at h1 h2
    simp only [Option.map_some, Option.some.injEq, Prod.mk.injEq, Option.bind_some] at h1 h2
    cases hz : i.zero with
    | none => rw [hz] at h2; cases h2
    | some z =>
      rw [hz] at h2
      simp only [Option.map_some, Option.some.injEq] at h2
      exact ⟨i, z, rfl, hz, h1.1, h1.2, h2⟩
theorem lm_one (x : Lm) : ∀ u ∈ lmC x, u.oneCell' = true := by
  intro u hu
  simp only [lmC, List.mem_cons, List.not_mem_nil, or_false] at hu
  rcases hu with rfl | rfl | rfl | rfl | rfl <;> rfl
theorem lm_one_all (l : List (Lm)) : ∀ u ∈ flat lmC l, u.oneCell' = true := by
  intro u hu
  simp only [flat, List.mem_flatMap] at hu
  obtain ⟨x, _, hx⟩ := hu
  exact lm_one x u hx
/-- Element i's cells. -/
theorem Row.lm {w : World} {B : Nat} {A : Option Addr} {l : List (Lm)} (h : Row w B A (flat lmC l)) {i : Nat} (hi : i < l.length) (d : Lm) :
    ∃ b o, A = some ⟨b, o, none⟩ ∧ b < B
      ∧ w.cell? ⟨b, o + i * 5, none⟩ = some (.int .i64 (l.getD i d).ref)
      ∧ w.cell? ⟨b, o + i * 5 + 1, none⟩ = some (.int .i64 (l.getD i d).lt)
      ∧ w.cell? ⟨b, o + i * 5 + 2, none⟩ = some (.int .i64 (l.getD i d).ce)
      ∧ w.cell? ⟨b, o + i * 5 + 3, none⟩ = some (.int .i64 (l.getD i d).ml)
      ∧ w.cell? ⟨b, o + i * 5 + 4, none⟩ = some (.int .i64 (l.getD i d).mc)
    := by
  obtain ⟨b, o, e, hb, hc⟩ := Row.elem lmC_len (by decide) h (getD_some d hi)
  exact ⟨b, o, e, hb, hc 0 _ rfl, hc 1 _ rfl, hc 2 _ rfl, hc 3 _ rfl, hc 4 _ rfl⟩

set_option maxRecDepth 100000 in
set_option maxHeartbeats 1000000 in
theorem indexFunc_lm (A : Option Addr) (c : Nat) (xs : List (Lm)) (fid : FuncId) (caps : Array Value) (f : Lm → Bool) (B : Nat) (Inv : World → Prop) (w : World) (he : Enters fid) (hm : xs.length ≤ maxLen)
    (hr : ∀ w, Inv w → Row w B A (flat lmC xs))
    (hf : ∀ x ∈ xs, ∀ w, Inv w → Calls Try.prog fid (#[lmV x] ++ caps) w fun e w' => e = .returned (.bool (f x)) ∧ Inv w') (hi : Inv w) :
    Calls Try.prog 143 #[.slice A xs.length c, .func (.func fid) #[] caps] w fun e w' => e = .returned (.int .i64 (idxAt f xs 0)) ∧ Inv w' := by
  have HF := Lib.hid hf
  have HR := Lib.hid hr
  clear hf hr
  unfold Enters at he
  unfold maxLen at hm
  go_enter Try.func143, Try.ntmps143
  go_wp2_with fail
  go_loopw [8] (fun i wr => ∃ k : Nat, k ≤ xs.length ∧ i = .int .i64 k ∧ Hid (idxAt f xs 0 = idxAt f (xs.drop k) k) ∧ Inv wr) (fun i _ => xs.length - (intOf i).toNat)
  case atStart => exact ⟨0, by omega, rfl, rfl, hi⟩
  case round =>
    obtain ⟨k, hk, rfl, HK, hI⟩ := hrel
    by_cases hlt : k < xs.length
    · obtain ⟨b, o, rfl, _, hc0, hc1, hc2, hc3, hc4⟩ := (HR.out wr hI).lm hlt lm0
      have hmem := getD_mem lm0 hlt
      have HD := Lib.hid (idxAt_drop f xs lm0 k hlt k)
      generalize xs.getD k lm0 = x at *
      have HM := Lib.hid hmem
      clear hmem
      go_wp2_with fail
      refine (HF.out x HM.out wr hI).mono ?_
      rintro e w1 ⟨rfl, hI1⟩
      by_cases hfx : f x = true
      · have HX := Lib.hid hfx
        rw [hfx]
        clear hfx
        go_wp2_with fail
        go_ret
        refine ⟨?_, hI1⟩
        rw [HK.out, HD.out, if_pos HX.out]
        rfl
      · have HX := Lib.hid hfx
        rw [show f x = false by simpa using hfx]
        clear hfx
        go_wp2_with fail
        go_roundw
        case rel =>
          refine ⟨k + 1, by omega, by go_num, ?_, hI1⟩
          unfold Hid
          rw [HK.out, HD.out, if_neg HX.out]
          rfl
        case measure => simp [intOf]; omega
    · go_wp2_with fail
      go_ret
      refine ⟨?_, hI⟩
      rw [HK.out, List.drop_eq_nil_of_le (by omega)]
      rfl

set_option maxRecDepth 100000 in
set_option maxHeartbeats 400000 in
theorem clone_lm (A : Option Addr) (c : Nat) (xs : List (Lm)) (B : Nat) (w : World) (hr : Row w B A (flat lmC xs)) (hA : A = none → c = 0) (hm : xs.length * 40 ≤ 140737488355328) :
    Calls Try.prog 87 #[.slice A xs.length c] w fun e w' => ∃ v, e = .returned v ∧ w'.ownsRow w.heap.size 89 5 v xs.length (flat lmC xs) ∧ Below w.heap.size w w' := by
  rcases A with _ | ad
  · obtain rfl := hA rfl
    have hx : xs = [] := by
      rcases xs with _ | ⟨x, r⟩
      · rfl
      · obtain ⟨b, o, h, _⟩ := hr (by rw [flat_len lmC_len]; simp)
        cases h
    subst hx
    have he := fun w => Lib.run_eql_slice_nil (P := Try.prog) w 79 89 none 0 0 0 0 Try.underlying79
    go_enter Try.func87, Try.ntmps87
    go_wp2_with fail
    go_ret
    exact ⟨_, rfl, World.ownsRow_nil _ _ _ _, Below.refl _ _⟩
  · have he := fun w => Lib.run_eql_slice_nil (P := Try.prog) w 79 89 (some ad) xs.length c 0 0 Try.underlying79
    obtain ⟨i0, z0, hi0, hz0, hz1, hz2, hz3⟩ := lm_parts
    have hnews : ∀ j u, (flat lmC xs)[j]? = some u → (w.alloc (.cells ⟨[]⟩ 89)).cell? (ad.add j) = some u := by
      intro j u hu
      have hj : j < (flat lmC xs).length := (List.getElem?_eq_some_iff.1 hu).1
      obtain ⟨b, o, e, _, hc⟩ := hr (by omega)
      injection e with e
      subst e
      have h1 := hc j u hu
      rw [addr_add, World.cell?_alloc_lt w _ ⟨b, o + j, none⟩ (lt_of_cell h1)]
      exact h1
    have HN := Lib.hid hnews
    have HO := Lib.hid (lm_one_all xs)
    have hown : (w.alloc (.cells ⟨[]⟩ 89)).ownsRow w.heap.size 89 5 (.slice (some ⟨w.heap.size, 0, none⟩) 0 0) 0 [] := World.ownsRow_lit w ⟨[]⟩ 0 (Nat.le_refl _) (Nat.zero_le _) rfl
    have HW := Lib.hid hown
    have HB := Lib.hid (show Below w.heap.size w (w.alloc (.cells ⟨[]⟩ 89)) from (Below.refl _ _).alloc (Nat.le_refl _) _)
    clear hnews hown hr hA
    go_enter Try.func87, Try.ntmps87
    go_wp2_with (at_builtin; refine wpList_append_own _ rfl (.tmp 5) (.tmp 6) _ rfl w.heap.size 89 i0 z0 5 40 Try.underlying79 hi0 hz0 hz1 hz2 hz3 (by decide) _ 0 [] rfl HW.out ad xs.length c (flat lmC xs) rfl (flat_len lmC_len xs) HN.out HO.out (by unfold maxLen; omega) (by omega) (by simp) ?_; intro v' w1 hown' hg' _)
    go_ret
    refine ⟨v', rfl, by simpa using hown', HB.out.grown hg' (by simp) (fun k hk => ?_)⟩
    have hk' := (HW.out.lt k hk).1
    exact hk'

theorem lm_fields : Try.prog.underlying 89 = some (.struct (Try.prog.fieldsOf 89)) := by kernel_rfl
theorem lm_neq (w : World) (x y : Lm) : (binOp .neq 89 (.agg #[.int .i64 x.ref, .int .i64 x.lt, .int .i64 x.ce, .int .i64 x.ml, .int .i64 x.mc]) (.agg #[.int .i64 y.ref, .int .i64 y.lt, .int .i64 y.ce, .int .i64 y.ml, .int .i64 y.mc])).run Try.prog w = .ok (.bool (!decide (x = y))) w := by
  rw [run_neq_struct, run_equalIn_struct w 9999 _ _ _ lm_fields (by kernel_rfl)]
  obtain ⟨a0, a1, a2, a3, a4⟩ := x
  obtain ⟨b0, b1, b2, b3, b4⟩ := y
  simp [Program.fieldsOf, Try.underlying89, Op.eqFields, go_sem]
  by_cases h0 : a0 = b0 <;> by_cases h1 : a1 = b1 <;> by_cases h2 : a2 = b2 <;> by_cases h3 : a3 = b3 <;> by_cases h4 : a4 = b4 <;> simp [h0, h1, h2, h3, h4]

set_option maxRecDepth 100000 in
set_option maxHeartbeats 1000000 in
theorem equal_lm (A A' : Option Addr) (c c' : Nat) (xs ys : List (Lm)) (B B' : Nat) (w : World) (ra : Row w B A (flat lmC xs)) (rb : Row w B' A' (flat lmC ys)) (hm : xs.length ≤ maxLen) (_hm' : ys.length ≤ maxLen) :
    Calls Try.prog 41 #[.slice A xs.length c, .slice A' ys.length c'] w fun e w' => e = .returned (.bool (decide (xs = ys))) ∧ ∃ n, w' = w.drewN n := by
  unfold maxLen at hm
  by_cases hl : xs.length = ys.length
  · have HL := Lib.hid hl
    have b1 : ((xs.length : Int) != (ys.length : Int)) = false := by simp; omega
    have b2 : (xs.length != ys.length) = false := by simp; omega
    have hl1 : xs.length ≤ ys.length := by omega
    have hl2 : ys.length ≤ xs.length := by omega
    clear hl
    go_enter Try.func41, Try.ntmps41
    go_wp2_with fail
    go_loopw [13] (fun i wr => ∃ (k m : Nat), k ≤ xs.length ∧ i = .int .i64 k ∧ sameTo lm0 xs ys k ∧ wr = w.drewN m) (fun i _ => xs.length - (intOf i).toNat)
    case atStart => exact ⟨0, 0, by omega, rfl, fun i hi => by omega, rfl⟩
    case round =>
      obtain ⟨k, m, hk, rfl, hE, rfl⟩ := hrel
      have HE := Lib.hid hE
      clear hE
      by_cases hlt : k < xs.length
      · obtain ⟨b, o, rfl, _, hc0, hc1, hc2, hc3, hc4⟩ := ra.lm hlt lm0
        obtain ⟨b', o', rfl, _, hd0, hd1, hd2, hd3, hd4⟩ := rb.lm (show k < ys.length by omega) lm0
        have HS := Lib.hid (fun e => sameTo_succ (k := k) HE.out e)
        have HN := Lib.hid (show xs.getD k lm0 ≠ ys.getD k lm0 → xs ≠ ys from fun h e => h (by rw [e]))
        generalize xs.getD k lm0 = x at *
        generalize ys.getD k lm0 = y at *
        have hlt1 : (k : Int) < (xs.length : Int) := by omega
        have hlt2 : (k : Int) < (ys.length : Int) := by omega
        have hlt3 : k < ys.length := by omega
        by_cases hxy : x = y
        · have hq := fun w => lm_neq w x y
          rw [show decide (x = y) = true by simp [hxy]] at hq
          have HX := Lib.hid hxy
          clear hxy
          go_wp2_with fail
          go_quiet (fail)
          go_wp2_with fail
          go_roundw
          case rel => exact ⟨k + 1, _, by omega, by go_num, HS.out HX.out, rfl⟩
          case measure => simp [intOf]; omega
        · have hq := fun w => lm_neq w x y
          rw [show decide (x = y) = false by simp [hxy]] at hq
          have HX := Lib.hid hxy
          clear hxy
          go_wp2_with fail
          go_quiet (fail)
          go_wp2_with fail
          go_ret
          refine ⟨?_, drewN_more _ _ _⟩
          rw [show decide (xs = ys) = false by simpa using HN.out HX.out]
          rfl
      · obtain rfl : k = xs.length := by omega
        go_wp2_with fail
        go_ret
        refine ⟨?_, _, rfl⟩
        rw [show decide (xs = ys) = true by simpa using eq_of_sameTo HL.out HE.out]
        rfl
  · have b1 : ((xs.length : Int) != (ys.length : Int)) = true := by simp; omega
    have b2 : (xs.length != ys.length) = true := by simp; omega
    have HN := Lib.hid (show xs ≠ ys from fun e => hl (by rw [e]))
    clear hl
    go_enter Try.func41, Try.ntmps41
    go_wp2_with fail
    go_ret
    refine ⟨?_, 0, rfl⟩
    rw [show decide (xs = ys) = false by simpa using HN.out]
    rfl
end Go.Proofs.Ytgjimjpbogadjaa
