/-
  What the reference's Fallen needs: appends, a child's place, the closure 'touched'.
-/
import Derived.Test.YtcmkkfpcdebfkaaWd17
import Derived.Lib.AppendZerosOnto
import Derived.Lib.Walk
import Derived.Laws.AppendOwnNone
namespace Go.Proofs.Ytcmkkfpcdebfkaa
open Go.RowKit

set_option maxRecDepth 100000 in
/-- All of a slice of ints appended to a row of the call's own. -/
theorem wpList_append_ints {ops : Array Oper} {rest : List Oper} {o : Oper} {a : Act} {w : World} {Q : Exit → Act → World → Prop} (hgd : o.guard = none) (s x : Operand)
    (ho : o.op = .call { callee := .builtin .append, args := #[s, x], argTypes := #[33, 33] })
    (base : Nat) (v : Value) (zs : List Int) (hs : a.eval s = v) (hown : w.ownsRow base 3 1 v zs.length (ints zs)) (A : Option Addr) (c B : Nat) (ys : List Int) (hx : a.eval x = .slice A ys.length c) (hr : Row w B A (ints ys)) (hA : A = none → c = 0)
    (hb : (zs.length + ys.length) * 8 ≤ 140737488355328) (hbase : base ≤ w.heap.size)
    (h : ∀ v' w', w'.ownsRow base 3 1 v' (zs ++ ys).length (ints (zs ++ ys)) → w.grownBy w' v.ownBlock → wpList Try.prog ops Q rest (a.put o.dst v') w') : wpList Try.prog ops Q (o :: rest) a w := by
  obtain ⟨i0, hi0, hz0, hz1, hz2⟩ := info_parts int_info
  rcases A with _ | ad
  · obtain rfl := hA rfl
    have hy : ys = [] := by
      rcases ys with _ | ⟨y, r⟩
      · rfl
      · obtain ⟨b, o, h, _⟩ := hr (by simp [ints])
        cases h
    subst hy
    refine wpList_append_own_none hgd s x _ ho base 3 i0 1 Try.underlying33 hi0 v zs.length (ints zs) hs hown hx ?_
    refine h v w ?_ (World.grownBy.refl w _)
    rw [List.append_nil]
    exact hown
  · refine wpList_append_own _ hgd s x _ ho base 3 i0 (.int .i64 0) 1 8 Try.underlying33 hi0 hz0 hz1 hz2 rfl (by decide) v zs.length (ints zs) hs hown ad ys.length c (ints ys) hx (by simp [ints]) ?_ ?_ (by unfold maxLen; omega) hb hbase ?_
    · clear hb hown h hbase
      intro j u hu
      have hj : j < (ints ys).length := (List.getElem?_eq_some_iff.1 hu).1
      obtain ⟨b, o, e, _, hc⟩ := hr (by omega)
      obtain rfl : ad = ⟨b, o, none⟩ := Option.some.inj e
      have ea : (⟨b, o, none⟩ : Addr).add j = ⟨b, o + j, none⟩ := by unfold Addr.add; split <;> simp_all
      rw [ea]
      exact hc j u hu
    · intro u hu
      simp only [ints, List.mem_map] at hu
      obtain ⟨x, _, rfl⟩ := hu
      rfl
    · intro v' w' h1 h2 _
      refine h v' w' ?_ h2
      rw [List.length_append]
      simpa [ints] using h1

theorem ownsNil (w : World) (base : Nat) : w.ownsRow base 3 1 (.slice none 0 0) 0 (ints []) := ⟨by simp [ints], .inl ⟨rfl, rfl⟩⟩
/-- One number appended: the row lies where it lay, or in a new block. -/
theorem wpList_push_f {ops : Array Oper} {rest : List Oper} {o : Oper} {a : Act} {w : World} {Q : Exit → Act → World → Prop} (hgd : o.guard = none) (s x : Operand)
    (ho : o.op = .call { callee := .builtin .append, args := #[s, x], argTypes := #[33, 33] })
    (base : Nat) (A : Option Addr) (c : Nat) (zs : List Int) (hs : a.eval s = .slice A zs.length c) (hown : OwnAt w base 3 1 A zs.length c (ints zs)) (g : Nat) (y : Int) (hx : a.eval x = .slice (some ⟨g, 0, none⟩) 1 1) (hy : w.cell? ⟨g, 0, none⟩ = some (.int .i64 y))
    (hb : (zs.length + 1) * 8 ≤ 140737488355328) (hbase : base ≤ w.heap.size)
    (h : ∀ A' c' w', OwnAt w' base 3 1 A' (zs.length + 1) c' (ints (zs ++ [y])) → Only (fun b => A.map (·.block) = some b) w w' → (∀ b, A'.map (·.block) = some b → A.map (·.block) = some b ∨ w.heap.size ≤ b) → wpList Try.prog ops Q rest (a.put o.dst (.slice A' (zs.length + 1) c')) w') : wpList Try.prog ops Q (o :: rest) a w := by
  obtain ⟨i0, hi0, hz0, hz1, hz2⟩ := info_parts int_info
  refine wpList_append_q hgd s x _ ho base 3 i0 (.int .i64 0) 1 8 Try.underlying33 hi0 hz0 hz1 hz2 rfl (by decide) A zs.length c (ints zs) hs hown ⟨g, 0, none⟩ 1 1 (ints [y]) hx rfl ?_ ?_ (by unfold maxLen; omega) hb hbase (by decide) ?_
  · intro j u hu
    rw [addr_add, Nat.zero_add]
    match j, hu with
    | 0, hu => simp [ints] at hu; subst hu; exact hy
    | j + 1, hu => simp [ints] at hu
  · intro u hu
    simp only [ints, List.mem_map] at hu
    obtain ⟨x, _, rfl⟩ := hu
    rfl
  · intro g' o' c' w' h1 h2 h3
    exact h _ c' w' (by rw [show ints (zs ++ [y]) = ints zs ++ ints [y] by simp [ints]]; exact h1) ⟨h2.os, h2.tape, h2.output, h2.size, fun i hi hne => h2.block i hi (fun e => hne e.symm)⟩
      (fun b hb => by
        injection hb with hb
        dsimp only at hb
        subst hb
        rcases h3 with h3 | h3
        · exact .inl h3
        · exact .inr (Nat.le_of_eq h3.symm))
theorem step_push_f {ops : Array Oper} {o : Oper} {a : Act} {w : World} {K : Act → World → Prop} {Q : Exit → Act → World → Prop} {E : Prop} (hgd : o.guard = none) (s x : Operand)
    (ho : o.op = .call { callee := .builtin .append, args := #[s, x], argTypes := #[33, 33] })
    (base : Nat) (A : Option Addr) (c : Nat) (zs : List Int) (hs : a.eval s = .slice A zs.length c) (hown : OwnAt w base 3 1 A zs.length c (ints zs)) (g : Nat) (y : Int) (hx : a.eval x = .slice (some ⟨g, 0, none⟩) 1 1) (hy : w.cell? ⟨g, 0, none⟩ = some (.int .i64 y))
    (hb : (zs.length + 1) * 8 ≤ 140737488355328) (hbase : base ≤ w.heap.size)
    (h : ∀ A' c' w', OwnAt w' base 3 1 A' (zs.length + 1) c' (ints (zs ++ [y])) → Only (fun b => A.map (·.block) = some b) w w' → (∀ b, A'.map (·.block) = some b → A.map (·.block) = some b ∨ w.heap.size ≤ b) → K (a.put o.dst (.slice A' (zs.length + 1) c')) w') :
    if Region.wanted o (yielded ops a.tmps) = true then Oper.wp Try.prog o a w K Q else E := by
  obtain ⟨i0, hi0, hz0, hz1, hz2⟩ := info_parts int_info
  refine step_append_q hgd s x _ ho base 3 i0 (.int .i64 0) 1 8 Try.underlying33 hi0 hz0 hz1 hz2 rfl (by decide) A zs.length c (ints zs) hs hown ⟨g, 0, none⟩ 1 1 (ints [y]) hx rfl ?_ ?_ (by unfold maxLen; omega) hb hbase (by decide) ?_
  · intro j u hu
    rw [addr_add, Nat.zero_add]
    match j, hu with
    | 0, hu => simp [ints] at hu; subst hu; exact hy
    | j + 1, hu => simp [ints] at hu
  · intro u hu
    simp only [ints, List.mem_map] at hu
    obtain ⟨x, _, rfl⟩ := hu
    rfl
  · intro g' o' c' w' h1 h2 h3
    exact h _ c' w' (by rw [show ints (zs ++ [y]) = ints zs ++ ints [y] by simp [ints]]; exact h1) ⟨h2.os, h2.tape, h2.output, h2.size, fun i hi hne => h2.block i hi (fun e => hne e.symm)⟩
      (fun b hb => by
        injection hb with hb
        dsimp only at hb
        subst hb
        rcases h3 with h3 | h3
        · exact .inl h3
        · exact .inr (Nat.le_of_eq h3.symm))
/-- All children appended to nil, in a region that draws its order. -/
theorem step_all_wc {ops : Array Oper} {o : Oper} {a : Act} {w : World} {K : Act → World → Prop} {Q : Exit → Act → World → Prop} {E : Prop} (hgd : o.guard = none) (s x : Operand)
    (ho : o.op = .call { callee := .builtin .append, args := #[s, x], argTypes := #[213, 213] })
    (base : Nat) (hs : a.eval s = .slice none 0 0) (A : Option Addr) (c B : Nat) (ys : List Ch) (hx : a.eval x = .slice A ys.length c) (hr : Row w B A (flat wcC ys)) (hl : 0 < ys.length) (h20 : ys.length ≤ 20) (hbase : base ≤ w.heap.size)
    (h : ∀ A' c' w', OwnAt w' base 230 3 A' ys.length c' (flat wcC ys) → Below w.heap.size w w' → K (a.put o.dst (.slice A' ys.length c')) w') :
    if Region.wanted o (yielded ops a.tmps) = true then Oper.wp Try.prog o a w K Q else E := by
  obtain ⟨i0, z0, hi0, hz0, hz1, hz2, hz3⟩ := wc_parts
  obtain ⟨b, o', rfl, _, hc⟩ := hr (by rw [flat_len wcC_len]; omega)
  refine step_append_q hgd s x _ ho base 230 i0 z0 3 24 Try.underlying213 hi0 hz0 hz1 hz2 hz3 (by decide) none 0 0 [] hs OwnAt.nil ⟨b, o', none⟩ ys.length c (flat wcC ys) hx (flat_len wcC_len ys) ?_ (wc_one_all ys) (by unfold maxLen; omega) (by omega) hbase hl ?_
  · intro j u hu
    rw [addr_add]
    exact hc j u hu
  · intro g' o2 c' w' h1 h2 _
    rw [Nat.zero_add, List.nil_append] at h1
    have := h _ c' w' h1 (Only.to_below (S := fun _ => False) ⟨h2.os, h2.tape, h2.output, h2.size, fun i hi hne => h2.block i hi (by simp)⟩ (Below.refl _ _) (Nat.le_refl _) (fun i hi => hi.elim))
    rw [Nat.zero_add]
    exact this

theorem idxAt_first {α : Type} (f : α → Bool) (d : α) : ∀ (l : List α) (k i : Nat), idxAt f l (k : Int) = ((k + i : Nat) : Int) → (∀ j, j < i → f (l.getD j d) = false) ∧ f (l.getD i d) = true
  | [], k, i, h => by
    simp [idxAt] at h
    omega
  | x :: r, k, i, h => by
    by_cases hf : f x = true
    · have e : idxAt f (x :: r) (k : Int) = (k : Int) := by simp [idxAt, hf]
      rw [e] at h
      obtain rfl : i = 0 := by omega
      exact ⟨fun j hj => by omega, by simpa using hf⟩
    · have hf' : f x = false := by simpa using hf
      have e : idxAt f (x :: r) (k : Int) = idxAt f r ((k + 1 : Nat) : Int) := by simp [idxAt, hf']
      rw [e] at h
      rcases Nat.eq_zero_or_pos i with rfl | hp
      · rcases idxAt_spec f d r (k + 1) with h1 | ⟨i', _, h1, _⟩
        · rw [h1] at h
          omega
        · rw [h1] at h
          omega
      · obtain ⟨m, rfl⟩ : ∃ m, i = m + 1 := ⟨i - 1, by omega⟩
        obtain ⟨h1, h2⟩ := idxAt_first f d r (k + 1) m (by rw [h]; congr 1; omega)
        refine ⟨fun j hj => ?_, by simpa using h2⟩
        rcases Nat.eq_zero_or_pos j with rfl | hj0
        · simpa using hf'
        · obtain ⟨j', rfl⟩ : ∃ j', j = j' + 1 := ⟨j - 1, by omega⟩
          simpa using h1 j' (by omega)

set_option maxHeartbeats 1000000 in
theorem touch_any (gi gw i k : Nat) (how : Int) (w : World) (hi : w.cell? ⟨gi, 0, none⟩ = some (.int .i64 (i : Int))) (hw : w.cell? ⟨gw, 0, none⟩ = some (.int .i64 how)) :
    Calls Try.prog 215 #[.int .i64 (k : Int), .pointer (some ⟨gi, 0, none⟩), .pointer (some ⟨gw, 0, none⟩)] w fun e w' => e = .returned (.bool (touchB how i k)) ∧ Below w.heap.size w w' := by
  have hk1 := lt_of_cell hi
  have hk2 := lt_of_cell hw
  dsimp only at hk1 hk2
  by_cases h1 : k = i
  · subst h1
    have HE := Lib.hid (show touchB how k k = true by simp [touchB])
    go_enter Try.func215, Try.ntmps215
    go_wp2_with fail
    go_ret
    exact ⟨by rw [HE.out]; rfl, Below.refl _ _⟩
  · have i1 : ((k : Int) == (i : Int)) = false := beq_eq_false_iff_ne.2 (by omega)
    have i2 : (k == i) = false := by simpa using h1
    have i3 : decide ((k : Int) = (i : Int)) = false := decide_eq_false (by omega)
    have i4 : decide (k = i) = false := decide_eq_false h1
    by_cases h2 : how = 2
    · have e1 : (how == 2) = true := by simpa using h2
      have e2 : decide (how = 2) = true := decide_eq_true h2
      have HE := Lib.hid (show touchB how i k = true by simp [touchB, e1])
      clear h1 h2
      go_enter Try.func215, Try.ntmps215
      go_wp2_with fail
      go_ret
      exact ⟨by rw [HE.out]; rfl, Below.refl _ _⟩
    · have e1 : (how == 2) = false := by simpa using h2
      have e2 : decide (how = 2) = false := decide_eq_false h2
      by_cases h3 : how = 3
      · have e3 : (how == 3) = true := by simpa using h3
        have e4 : decide (how = 3) = true := decide_eq_true h3
        by_cases h4 : i < k
        · have e5 : decide ((i : Int) < (k : Int)) = true := decide_eq_true (by omega)
          have e6 : decide (i < k) = true := decide_eq_true h4
          have HE := Lib.hid (show touchB how i k = true by simp [touchB, e3, e6])
          clear h1 h2 h3
          go_enter Try.func215, Try.ntmps215
          go_wp2_with fail
          go_ret
          exact ⟨by rw [HE.out]; rfl, Below.refl _ _⟩
        · have e5 : decide ((i : Int) < (k : Int)) = false := decide_eq_false (by omega)
          have e6 : decide (i < k) = false := decide_eq_false h4
          have HE := Lib.hid (show touchB how i k = false by simp [touchB, i2, e1, e6])
          clear h1 h2 h3
          go_enter Try.func215, Try.ntmps215
          go_wp2_with fail
          go_ret
          exact ⟨by rw [HE.out]; rfl, Below.refl _ _⟩
      · have e3 : (how == 3) = false := by simpa using h3
        have e4 : decide (how = 3) = false := decide_eq_false h3
        have HE := Lib.hid (show touchB how i k = false by simp [touchB, i2, e1, e3])
        clear h1 h2 h3
        go_enter Try.func215, Try.ntmps215
        go_wp2_with fail
        go_ret
        exact ⟨by rw [HE.out]; rfl, Below.refl _ _⟩
end Go.Proofs.Ytcmkkfpcdebfkaa
