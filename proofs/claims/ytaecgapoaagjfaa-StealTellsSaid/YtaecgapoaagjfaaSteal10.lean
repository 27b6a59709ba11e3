/-
  Lines: a task taken, by the reference.
-/
import Derived.Test.YtaecgapoaagjfaaSteal9
import Derived.Laws.AppendOwnNone
namespace Go.Proofs.Ytaecgapoaagjfaa
open Go.RowKit

/-- 'append(nil, xs...)' -/
theorem wp_append_nil {P : Program} (w : World) {o : Oper} {a : Act} {K : Act → World → Prop} {Q : Exit → Act → World → Prop} (s x : Operand) (t : TypeId)
    (ho : o.op = .call { callee := .builtin .append, args := #[s, x], argTypes := #[t, t] })
    (base : Nat) (e : TypeId) (i : TypeInfo) (z : Value) (size bytes : Nat) (ht : P.underlying t = some (.slice e)) (hi : P.info? e = some i) (hz : i.zero = some z)
    (hsize : i.size = size) (hby : i.bytes = bytes) (hzs : z.cells.size = size) (hsz : 0 < size)
    (hs : a.eval s = .slice none 0 0)
    (ad : Addr) (m c : Nat) (news : List Value) (hx : a.eval x = .slice (some ad) m c) (hl : news.length = m * size) (hnews : ∀ j u, news[j]? = some u → w.cell? (ad.add j) = some u) (h1 : ∀ u ∈ news, u.oneCell' = true)
    (h63 : m ≤ maxLen) (hbytes : m * bytes ≤ 140737488355328) (hbase : base ≤ w.heap.size)
    (h : ∀ A' c' w', OwnAt w' base e size A' m c' news → w.grownBy w' none → (∀ g o, A' = some ⟨g, o, none⟩ → g = w.heap.size) → K (a.put o.dst (.slice A' m c')) w') : o.wp P a w K Q := by
  obtain ⟨v', w', hr, hown, hg, hnil, hblk⟩ := run_append_own_at (P := P) w base t o.type e i z size bytes ht hi hz hsize hby hzs hsz (.slice none 0 0) 0 [] (World.ownsRow_nil _ _ _ _) ad m c news hl hnews h1 (by omega) (by simpa using hbytes) hbase
  rw [Nat.zero_add, List.nil_append] at hown
  obtain ⟨A', c', rfl, hq⟩ := OwnAt.of_own hown
  unfold Oper.wp execOp
  simp only [ho, resolve, invoke, builtin, Sem.run_bind, Sem.run_pure, Result.andThen_ok, List.map_toArray, List.map_cons, List.map_nil, hs, hx, hr]
  refine h A' c' w' hq hg fun g o he => ?_
  subst he
  rcases hown.2 with ⟨h0, _⟩ | ⟨g2, cap2, cur2, hv, _⟩
  · cases h0
  · injection hv with hv
    injection hv with hv
    injection hv with hv1 hv2
    subst hv1 hv2
    simpa [Value.ownBlock] using hblk
theorem wpList_append_nil {P : Program} {w : World} {ops : Array Oper} {rest : List Oper} {o : Oper} {a : Act} {Q : Exit → Act → World → Prop} (hgd : o.guard = none) (s x : Operand) (t : TypeId)
    (ho : o.op = .call { callee := .builtin .append, args := #[s, x], argTypes := #[t, t] })
    (base : Nat) (e : TypeId) (i : TypeInfo) (z : Value) (size bytes : Nat) (ht : P.underlying t = some (.slice e)) (hi : P.info? e = some i) (hz : i.zero = some z)
    (hsize : i.size = size) (hby : i.bytes = bytes) (hzs : z.cells.size = size) (hsz : 0 < size)
    (hs : a.eval s = .slice none 0 0)
    (ad : Addr) (m c : Nat) (news : List Value) (hx : a.eval x = .slice (some ad) m c) (hl : news.length = m * size) (hnews : ∀ j u, news[j]? = some u → w.cell? (ad.add j) = some u) (h1 : ∀ u ∈ news, u.oneCell' = true)
    (h63 : m ≤ maxLen) (hbytes : m * bytes ≤ 140737488355328) (hbase : base ≤ w.heap.size)
    (h : ∀ A' c' w', OwnAt w' base e size A' m c' news → w.grownBy w' none → (∀ g o, A' = some ⟨g, o, none⟩ → g = w.heap.size) → wpList P ops Q rest (a.put o.dst (.slice A' m c')) w') : wpList P ops Q (o :: rest) a w :=
  wpList_plain hgd fun _ hK => wp_append_nil w s x t ho base e i z size bytes ht hi hz hsize hby hzs hsz hs ad m c news hx hl hnews h1 h63 hbytes hbase fun A' c' w' h2 h3 h4 => hK _ _ (h A' c' w' h2 h3 h4)

/-- 'append(nil, xs...)' of numbers. -/
theorem wpList_copy_i {ops : Array Oper} {rest : List Oper} {o : Oper} {a : Act} {w : World} {Q : Exit → Act → World → Prop} (hgd : o.guard = none) (s x : Operand)
    (ho : o.op = .call { callee := .builtin .append, args := #[s, x], argTypes := #[64, 64] })
    (hs : a.eval s = .slice none 0 0) (S : Nat → Prop) (y : BC) (ys : List Int) (hx : a.eval x = .slice y.A ys.length y.cap) (hy : IIn w S 0 y ys)
    (h : ∀ z w', LineOwn w' w.heap.size z ys → Below w.heap.size w w' → wpList Try.prog ops Q rest (a.put o.dst (.slice z.A ys.length z.cap)) w') : wpList Try.prog ops Q (o :: rest) a w := by
  obtain ⟨i0, hi0, hz0, hz1, hz2⟩ := int_parts
  obtain ⟨YA, YL, YC⟩ := y
  have hrow := hy.row
  have hA := hy.2.2.2.2.1
  have hrng := hy.2.2.2.2.2.1
  have hbig := hy.2.2.2.2.2.2
  dsimp only at hrow hA hx
  rcases YA with _ | ad
  · obtain rfl := hA rfl
    have hn : ys = [] := by
      rcases ys with _ | ⟨y, r⟩
      · rfl
      · obtain ⟨b, o, h, _⟩ := hrow (by simp [ints])
        cases h
    subst hn
    refine wpList_append_own_none hgd s x _ ho w.heap.size 3 i0 1 Try.underlying64 hi0 (.slice none 0 0) 0 [] hs (World.ownsRow_nil _ _ _ _) hx ?_
    exact h bc0 w ⟨rfl, OwnAt.nil, (fun v hv => by cases hv), Nat.zero_le _⟩ (Below.refl _ _)
  · refine wpList_append_nil hgd s x _ ho w.heap.size 3 i0 (.int .i64 0) 1 8 Try.underlying64 hi0 hz0 hz1 hz2 rfl (by decide) hs ad ys.length YC (ints ys) hx (by simp [ints]) ?_ (ints_one ys) (by unfold maxLen; omega) (by omega) (Nat.le_refl _) ?_
    · intro j u hu
      obtain ⟨b, o, e, _, hc⟩ := hrow (by have := (List.getElem?_eq_some_iff.1 hu).1; omega)
      obtain rfl : ad = ⟨b, o, none⟩ := Option.some.inj e
      rw [addr_add]
      exact hc j u hu
    · intro A' c' w' h1 h2 _
      exact h ⟨A', ys.length, c'⟩ w' ⟨rfl, h1, hrng, hbig⟩ ⟨h2.os, h2.tape, h2.output, h2.size, fun i hi => h2.block i hi (by simp)⟩
theorem step_push_i {ops : Array Oper} {o : Oper} {a : Act} {w : World} {K : Act → World → Prop} {Q : Exit → Act → World → Prop} {E : Prop} (hgd : o.guard = none) (s x : Operand)
    (ho : o.op = .call { callee := .builtin .append, args := #[s, x], argTypes := #[64, 64] })
    (base : Nat) (A : Option Addr) (c n : Nat) (zs : List Int) (hn : zs.length = n) (hs : a.eval s = .slice A n c) (hown : OwnAt w base 3 1 A n c (ints zs)) (g : Nat) (y : Int) (hx : a.eval x = .slice (some ⟨g, 0, none⟩) 1 1) (hy : w.cell? ⟨g, 0, none⟩ = some (.int .i64 y))
    (hb : (n + 1) * 8 ≤ 140737488355328) (hbase : base ≤ w.heap.size)
    (h : ∀ A' c' w', OwnAt w' base 3 1 A' (n + 1) c' (ints (zs ++ [y])) → Below base w w' → Only (fun b => A.map (·.block) = some b) w w' → (∀ b, A'.map (·.block) = some b → A.map (·.block) = some b ∨ w.heap.size ≤ b) → K (a.put o.dst (.slice A' (n + 1) c')) w') :
    if Region.wanted o (yielded ops a.tmps) = true then Oper.wp Try.prog o a w K Q else E := by
  subst hn
  obtain ⟨i0, hi0, hz0, hz1, hz2⟩ := int_parts
  refine step_append_q hgd s x _ ho base 3 i0 (.int .i64 0) 1 8 Try.underlying64 hi0 hz0 hz1 hz2 rfl (by decide) A zs.length c (ints zs) hs hown ⟨g, 0, none⟩ 1 1 (ints [y]) hx rfl ?_ (ints_one [y]) (by unfold maxLen; omega) hb hbase (by decide) ?_
  · intro j u hu
    rw [addr_add, Nat.zero_add]
    match j, hu with
    | 0, hu => simp [ints] at hu; subst hu; exact hy
    | j + 1, hu => simp [ints] at hu
  · intro g' o' c' w' h1 h2 h3
    have hlt : ∀ b, A.map (·.block) = some b → base ≤ b := fun b hb => by
      rcases hown.form with ⟨rfl, _⟩ | ⟨g1, o1, rfl⟩
      · cases hb
      · simp at hb; subst hb; exact hown.lt.1
    have ho : Only (fun b => A.map (·.block) = some b) w w' := ⟨h2.os, h2.tape, h2.output, h2.size, fun i hi hne => h2.block i hi (fun e => hne e.symm)⟩
    refine h _ c' w' (by rw [show ints (zs ++ [y]) = ints zs ++ ints [y] by simp [ints]]; exact h1) (ho.to_below (Below.refl _ _) hbase hlt) ho (fun b hb => ?_)
    simp at hb
    subst hb
    rcases h3 with h3 | h3
    · exact .inl h3
    · exact .inr (by omega)

/-- Behind j steps of the theft. -/
def mid (vs : List (List Int)) (p v j : Nat) : List (List Int) := (vs.set p ((vs.getD v []).take j)).set v ((vs.getD v []).drop j)
theorem mid_len (vs : List (List Int)) (p v j : Nat) : (mid vs p v j).length = vs.length := by unfold mid; rw [List.length_set, List.length_set]
theorem mid_p {vs : List (List Int)} {p v j : Nat} (hp : p < vs.length) (hv : v < vs.length) (hpv : p ≠ v) : (mid vs p v j).getD p [] = (vs.getD v []).take j := by
  unfold mid
  rw [getD_setS _ [] _ _ _ (by rw [List.length_set]; exact hv), if_neg hpv, getD_setS _ [] _ _ _ hp, if_pos rfl]
theorem mid_v {vs : List (List Int)} {p v j : Nat} (hv : v < vs.length) : (mid vs p v j).getD v [] = (vs.getD v []).drop j := by
  unfold mid
  rw [getD_setS _ [] _ _ _ (by rw [List.length_set]; exact hv), if_pos rfl]
theorem set_same {vs : List (List Int)} {p : Nat} {x : List Int} (hp : p < vs.length) (h : vs.getD p [] = x) : vs.set p x = vs := by
  rw [← h, List.getD_eq_getElem?_getD, List.getElem?_eq_getElem hp]
  simp
theorem mid_zero {vs : List (List Int)} {p v : Nat} (hp : p < vs.length) (hv : v < vs.length) (h0 : vs.getD p [] = []) : mid vs p v 0 = vs := by
  unfold mid
  rw [List.take_zero, List.drop_zero, set_same hp h0, set_same hv rfl]
theorem mid_succ (vs : List (List Int)) (p v j : Nat) (hpv : p ≠ v) : ((mid vs p v j).set p ((vs.getD v []).take (j + 1))).set v ((vs.getD v []).drop (j + 1)) = mid vs p v (j + 1) := by
  unfold mid
  rw [List.set_comm _ _ (fun h => hpv h.symm), List.set_set, List.set_set]
end Go.Proofs.Ytaecgapoaagjfaa
