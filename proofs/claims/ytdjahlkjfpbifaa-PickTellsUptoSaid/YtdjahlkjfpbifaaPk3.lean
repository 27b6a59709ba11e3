
/-
  roadref3.Matches, FirstOf, SameValues.
-/
import Derived.Test.YtdjahlkjfpbifaaPk2
import Derived.Test.YtdjahlkjfpbifaaBdMap
import Derived.Test.YtdjahlkjfpbifaaBox4
import Derived.Deep.RegionHeld3
namespace Go.Proofs.Ytdjahlkjfpbifaa
open Go.RowKit Go.Maps

/-- A literal of four entries laid one after the other, and what is found then. -/
theorem map4 (w : World) (k1 v1 k2 v2 k3 v3 k4 v4 : Int) (h1 : I64 k1) (h2 : I64 k2) (h3 : I64 k3) (h4 : I64 k4) : ∃ m1 m2 m3 m4 : World,
    (Instr.mapUpdate 110 (.map (some w.heap.size)) (.int .i64 k1) (.int .i64 v1)).run Try.prog (w.alloc (.map #[] 0)) = .ok () m1 ∧
    (Instr.mapUpdate 110 (.map (some w.heap.size)) (.int .i64 k2) (.int .i64 v2)).run Try.prog m1 = .ok () m2 ∧
    (Instr.mapUpdate 110 (.map (some w.heap.size)) (.int .i64 k3) (.int .i64 v3)).run Try.prog m2 = .ok () m3 ∧
    (Instr.mapUpdate 110 (.map (some w.heap.size)) (.int .i64 k4) (.int .i64 v4)).run Try.prog m3 = .ok () m4 ∧ Below w.heap.size w m4 ∧
    ∀ k, I64 k → (Instr.lookup 110 (.map (some w.heap.size)) (.int .i64 k) false).run Try.prog m4 = .ok (.int .i64 (if k = k4 then v4 else if k = k3 then v3 else if k = k2 then v2 else if k = k1 then v1 else 0)) m4 := by
  have s0 : MapV intL Try.prog 3 (w.alloc (.map #[] 0)) w.heap.size 0 (fun _ => none) := MapV.made w
  obtain ⟨m1, r1, s1, g1⟩ := s0.put ints_keyed Try.underlying110 (by unfold maxLen; omega) intL_inj intL_key (int_key h1) (.int .i64 v1)
  obtain ⟨m2, r2, s2, g2⟩ := s1.put ints_keyed Try.underlying110 (by unfold maxLen; omega) intL_inj intL_key (int_key h2) (.int .i64 v2)
  obtain ⟨m3, r3, s3, g3⟩ := s2.put ints_keyed Try.underlying110 (by unfold maxLen; omega) intL_inj intL_key (int_key h3) (.int .i64 v3)
  obtain ⟨m4, r4, s4, g4⟩ := s3.put ints_keyed Try.underlying110 (by unfold maxLen; omega) intL_inj intL_key (int_key h4) (.int .i64 v4)
  have hq : ∀ q, some w.heap.size = some q → w.heap.size ≤ q := fun q e => by injection e with e; omega
  have b0 : Below w.heap.size w (w.alloc (.map #[] 0)) := (Below.refl _ _).alloc (Nat.le_refl _) _
  have z0 : w.heap.size ≤ (w.alloc (.map #[] 0)).heap.size := by simp
  have b1 := b0.grown g1 z0 hq
  have b2 := b1.grown g2 b1.size hq
  have b3 := b2.grown g3 b2.size hq
  have b4 := b3.grown g4 b3.size hq
  refine ⟨m1, m2, m3, m4, r1, r2, r3, r4, b4, fun k hk => ?_⟩
  rw [s4.look ints_keyed Try.underlying110 (zero_intS m4) (int_key hk)]
  refine congrArg (fun v => Result.ok v m4) ?_
  by_cases e4 : k = k4
  · rw [if_pos e4, if_pos e4]
    rfl
  by_cases e3 : k = k3
  · rw [if_neg e4, if_pos e3, if_neg e4, if_pos e3]
    rfl
  by_cases e2 : k = k2
  · rw [if_neg e4, if_neg e3, if_pos e2, if_neg e4, if_neg e3, if_pos e2]
    rfl
  by_cases e1 : k = k1
  · rw [if_neg e4, if_neg e3, if_neg e2, if_pos e1, if_neg e4, if_neg e3, if_neg e2, if_pos e1]
    rfl
  · rw [if_neg e4, if_neg e3, if_neg e2, if_neg e1, if_neg e4, if_neg e3, if_neg e2, if_neg e1]
    rfl
/-- One cell of one element set. -/
theorem OwnAt.putG {α : Type} {ec : α → List Value} {size : Nat} (hs : ∀ x, (ec x).length = size) {w : World} {base : Nat} {e : TypeId} {n cap g o : Nat} {l : List α} (h : OwnAt w base e size (some ⟨g, o, none⟩) n cap (flat ec l)) {i j : Nat} {x : α} (u : Value) (hx : l[i]? = some x) (hj : j < size) (y : α) (hy : ec y = (ec x).set j u) :
    OwnAt (w.setCell ⟨g, o + i * size + j, none⟩ u) base e size (some ⟨g, o, none⟩) n cap (flat ec (l.set i y)) := by
  have h1 := h.set (j := i * size + j) u
  rw [flat_set hs l u hx hj y hy, ← Nat.add_assoc] at h1
  exact h1
/-- The world after a value's cells are stored. -/
def put4 (w : World) (g p : Nat) (y : VC) : World := (((w.setCell ⟨g, p, none⟩ (.int .i64 y.kind)).setCell ⟨g, p + 1, none⟩ (.int .i64 y.num)).setCell ⟨g, p + 2, none⟩ (.string y.text)).setCell ⟨g, p + 3, none⟩ (.slice y.A y.len y.cap)
section
variable {w w2 w4 : World} {base g : Nat} {S : Nat → Prop} {n : Nat} {A : Option Addr} {c m : Nat} {l : List VC} {vs : List Val} {g' o' c' : Nat} {y : VC} {v : Val}
theorem put4_far {p : Nat} {q : Addr} (h : q.block ≠ g') : (put4 w g' p y).cell? q = w.cell? q := by
  unfold put4
  iterate 4 rw [cell_far h]
theorem OwnAt.put4 {e : TypeId} {cap : Nat} {N : Nat} (h : OwnAt w base e 4 (some ⟨g', o', none⟩) N cap (flat valC l)) {i : Nat} (hi : i < l.length) (r : VC) :
    OwnAt (put4 w g' (o' + i * 4) r) base e 4 (some ⟨g', o', none⟩) N cap (flat valC (l.set i r)) := by
  obtain ⟨x, hx⟩ : ∃ x, l[i]? = some x := ⟨_, List.getElem?_eq_getElem hi⟩
  obtain ⟨x0, x1, x2, x3, x4, x5⟩ := x
  obtain ⟨r0, r1, r2, r3, r4, r5⟩ := r
  have h0 := h.putG valC_len (i := i) (j := 0) (.int .i64 r0) hx (by decide) ⟨r0, x1, x2, x3, x4, x5⟩ rfl
  have h1 := h0.putG valC_len (i := i) (x := ⟨r0, x1, x2, x3, x4, x5⟩) (j := 1) (.int .i64 r1) (by rw [List.getElem?_set_self hi]) (by decide) ⟨r0, r1, x2, x3, x4, x5⟩ rfl
  rw [List.set_set] at h1
  have h2 := h1.putG valC_len (i := i) (x := ⟨r0, r1, x2, x3, x4, x5⟩) (j := 2) (.string r2) (by rw [List.getElem?_set_self hi]) (by decide) ⟨r0, r1, r2, x3, x4, x5⟩ rfl
  rw [List.set_set] at h2
  have h3 := h2.putG valC_len (i := i) (x := ⟨r0, r1, r2, x3, x4, x5⟩) (j := 3) (.slice r3 r4 r5) (by rw [List.getElem?_set_self hi]) (by decide) ⟨r0, r1, r2, r3, r4, r5⟩ rfl
  rw [List.set_set] at h3
  exact h3
theorem set_last {α : Type} (l : List α) (z y : α) : (l ++ [z]).set l.length y = l ++ [y] := by
  rw [List.set_append_right _ _ (Nat.le_refl _), Nat.sub_self]
  rfl
theorem valMk.putLast {z : VC} {zv : Val} (h : valMk w base S n (some ⟨g', o', none⟩) c' (l ++ [z]) (vs ++ [zv])) (hm : l.length = m) (hv : VIn w (Off S (some ⟨g', o', none⟩)) n y v) : valMk (put4 w g' (o' + m * 4) y) base S n (some ⟨g', o', none⟩) c' (l ++ [y]) (vs ++ [v]) := by
  subst hm
  have hlv : l.length = vs.length := by have := h.1; simpa using this
  have hk : ∀ q : Addr, Off S (some ⟨g', o', none⟩) q.block → (put4 w g' (o' + l.length * 4) y).cell? q = w.cell? q := fun q hq => put4_far (fun e => hq.2 (by simp [e]))
  have h1 := h.2.1.put4 (i := l.length) (by simp) y
  rw [set_last, List.length_append] at h1
  refine ⟨by simp [hlv], by rw [List.length_append]; exact h1, fun i hi => ?_⟩
  rw [List.length_append, List.length_singleton] at hi
  rcases Nat.lt_or_ge i l.length with hlt | hge
  · have h2 := h.2.2 i (by simp; omega)
    simp only [List.getD_eq_getElem?_getD, List.getElem?_append_left hlt, List.getElem?_append_left (show i < vs.length by omega)] at h2 ⊢
    exact h2.keep hk fun _ hb => hb
  · obtain rfl : i = l.length := by omega
    simp only [List.getD_eq_getElem?_getD, List.getElem?_append_right (Nat.le_refl _), List.getElem?_append_right (show vs.length ≤ l.length by omega), Nat.sub_self, show l.length - vs.length = 0 by omega, List.getElem?_cons_zero, Option.getD_some]
    exact hv.keep hk fun _ hb => hb
theorem Box.put4 {e : TypeId} {cs : Array Value} (h : Box w g e cs) (hne : g' ≠ g) {p : Nat} : Box (put4 w g' p y) g e cs :=
  ((Only.refl (fun b => b = g') w).set (p := ⟨g', p, none⟩) rfl _ |>.set (p := ⟨g', p + 1, none⟩) rfl _ |>.set (p := ⟨g', p + 2, none⟩) rfl _ |>.set (p := ⟨g', p + 3, none⟩) rfl _).box h fun e => hne e.symm
theorem Only.put4 {T : Nat → Prop} (h : Only T w w2) (hT : T g') {p : Nat} : Only T w (put4 w2 g' p y) :=
  h.set (p := ⟨g', p, none⟩) hT _ |>.set (p := ⟨g', p + 1, none⟩) hT _ |>.set (p := ⟨g', p + 2, none⟩) hT _ |>.set (p := ⟨g', p + 3, none⟩) hT _
theorem only_trim {T T' : Nat → Prop} (h : Only T' w w2) (hT : ∀ b, T' b → T b ∨ w.heap.size ≤ b) : Only T w w2 := only_after (Only.refl T w) h hT
/-- A value appended to the names, its cells stored behind the append; in either order. -/
theorem names_fin (h : NamesAt w base g S n A c l vs) (hS : ∀ b, S b → b < base) (hm : l.length = m) (hmk : valMk w4 base S n (some ⟨g', o', none⟩) c' (l ++ [vc0]) (vs ++ [val0])) (ho : Only (fun b => A.map (·.block) = some b) w w4) (hg : A.map (·.block) = some g' ∨ w.heap.size ≤ g') (hv : VIn w4 S n y v) :
    (NamesAt ((put4 w4 g' (o' + m * 4) y).setCell ⟨g, 0, none⟩ (.slice (some ⟨g', o', none⟩) (m + 1) c')) base g S n (some ⟨g', o', none⟩) c' (l ++ [y]) (vs ++ [v]) ∧ Only (fun b => b = g ∨ A.map (·.block) = some b) w ((put4 w4 g' (o' + m * 4) y).setCell ⟨g, 0, none⟩ (.slice (some ⟨g', o', none⟩) (m + 1) c'))) ∧
    (NamesAt (put4 (w4.setCell ⟨g, 0, none⟩ (.slice (some ⟨g', o', none⟩) (m + 1) c')) g' (o' + m * 4) y) base g S n (some ⟨g', o', none⟩) c' (l ++ [y]) (vs ++ [v]) ∧ Only (fun b => b = g ∨ A.map (·.block) = some b) w (put4 (w4.setCell ⟨g, 0, none⟩ (.slice (some ⟨g', o', none⟩) (m + 1) c')) g' (o' + m * 4) y)) := by
  have hgl : g < w.heap.size := h.box.lt
  have hne : g' ≠ g := by
    rcases hg with e | e
    · intro e'
      exact h.ne (by rw [e, e'])
    · omega
  have hbg : base ≤ g' := hmk.2.1.lt.1
  have hoff : ∀ b, S b → Off S (some ⟨g', o', none⟩) b := Off.of_lt hS hmk
  have hT : ∀ b, (b = g ∨ A.map (·.block) = some b ∨ b = g') → (b = g ∨ A.map (·.block) = some b) ∨ w.heap.size ≤ b := fun b hb => by
    rcases hb with e | e | e
    · exact .inl (.inl e)
    · exact .inl (.inr e)
    · subst e
      rcases hg with e | e
      · exact .inl (.inr e)
      · exact .inr e
  have hlen : (l ++ [y]).length = m + 1 := by simp [hm]
  have hkg : ∀ (w5 : World) (u : Value), ∀ q : Addr, S q.block → (w5.setCell ⟨g, 0, none⟩ u).cell? q = w5.cell? q := fun w5 u q hq => cell_far (by have := hS _ hq; have := h.le; simp; omega)
  have hbx : Box w4 g 26 #[.slice A l.length c] := ho.box h.box h.ne
  have ho' := ho.more (S' := fun b => b = g ∨ A.map (·.block) = some b ∨ b = g') fun b hb => .inr (.inl hb)
  refine ⟨⟨⟨?_, ?_, by simpa using hne, h.le⟩, ?_⟩, ⟨⟨?_, ?_, by simpa using hne, h.le⟩, ?_⟩⟩
  · have := (hbx.put4 hne (y := y) (p := o' + m * 4)).set 0 (.slice (some ⟨g', o', none⟩) (m + 1) c')
    rw [hlen]
    simpa using this
  · have hmk5 := hmk.putLast hm (hv.keep (fun _ _ => rfl) hoff)
    exact ⟨hmk5.1, hmk5.2.1.far (fun g1 o1 e => by injection e with e; injection e with e; simp; omega) _, fun i hi => (hmk5.2.2 i hi).keep (fun q hq => hkg _ _ q hq.1) fun b hb => hb⟩
  · exact only_trim ((ho'.put4 (.inr (.inr rfl))).set (p := ⟨g, 0, none⟩) (.inl rfl) _) hT
  · have := (hbx.set 0 (.slice (some ⟨g', o', none⟩) (m + 1) c')).put4 hne (y := y) (p := o' + m * 4)
    rw [hlen]
    simpa using this
  · have hmk5 : valMk (w4.setCell ⟨g, 0, none⟩ (.slice (some ⟨g', o', none⟩) (m + 1) c')) base S n (some ⟨g', o', none⟩) c' (l ++ [vc0]) (vs ++ [val0]) := ⟨hmk.1, hmk.2.1.far (fun g1 o1 e => by injection e with e; injection e with e; simp; omega) _, fun i hi => (hmk.2.2 i hi).keep (fun q hq => hkg _ _ q hq.1) fun b hb => hb⟩
    exact hmk5.putLast hm ((hv.keep (hkg _ _) fun _ hb => hb).keep (fun _ _ => rfl) hoff)
  · exact only_trim ((ho'.set (p := ⟨g, 0, none⟩) (.inl rfl) _).put4 (.inr (.inr rfl))) hT
end

/-- A value of nothing appended in a region that draws its order. -/
theorem step_mk_zeroO {ops : Array Oper} {o : Oper} {a : Act} {w : World} {K : Act → World → Prop} {Q : Exit → Act → World → Prop} {E : Prop} (hgd : o.guard = none) (s x : Operand)
    (ho : o.op = .call { callee := .builtin .append, args := #[s, x], argTypes := #[26, 26] })
    (base : Nat) (S : Nat → Prop) (n : Nat) (A : Option Addr) (c m : Nat) (l : List VC) (vs : List Val) (hm : l.length = m) (hs : a.eval s = .slice A m c) (hmk : valMk w base S (n + 1) A c l vs) (g : Nat) (hx : a.eval x = .slice (some ⟨g, 0, none⟩) 1 1) (hy : ∀ j u, (valC vc0)[j]? = some u → w.cell? ⟨g, j, none⟩ = some u)
    (hb : (m + 1) * 56 ≤ 140737488355328) (hbase : base ≤ w.heap.size)
    (h : ∀ g' o' c' w', valMk w' base S (n + 1) (some ⟨g', o', none⟩) c' (l ++ [vc0]) (vs ++ [val0]) → Only (fun b => A.map (·.block) = some b) w w' → (A.map (·.block) = some g' ∨ g' = w.heap.size) → K (a.put o.dst (.slice (some ⟨g', o', none⟩) (m + 1) c')) w') :
    if Region.wanted o (yielded ops a.tmps) = true then Oper.wp Try.prog o a w K Q else E := by
  subst hm
  obtain ⟨i0, z0, hi0, hz0, hz1, hz2, hz3⟩ := val_parts
  refine step_append_q hgd s x _ ho base 28 i0 z0 4 56 Try.underlying26 hi0 hz0 hz1 hz2 hz3 (by decide) A l.length c (flat valC l) hs hmk.2.1 ⟨g, 0, none⟩ 1 1 (valC vc0) hx rfl ?_ (val_one vc0) (by unfold maxLen; omega) hb hbase (by decide) ?_
  · intro j u hu
    rw [addr_add, Nat.zero_add]
    exact hy j u hu
  · intro g' o' c' w' h1 h2 h3
    exact h g' o' c' w' (hmk.push hbase (VIn.leaf n 0 0 (by simp [I64]) (by simp [I64])) h1 h2 h3).1 ⟨h2.os, h2.tape, h2.output, h2.size, fun i hi hne => h2.block i hi (fun e => hne e.symm)⟩ h3

theorem name_facts {w w4 : World} {base g gv : Nat} {S : Nat → Prop} {n : Nat} {A : Option Addr} {c : Nat} {l : List VC} {vs vs4 : List Val} {g' o' c' : Nat} {t : TypeId} {b0 b1 b2 b3 : Value}
    (h : NamesAt w base g S n A c l vs) (hmk : valMk w4 base S n (some ⟨g', o', none⟩) c' (l ++ [vc0]) vs4) (ho : Only (fun b => A.map (·.block) = some b) w w4) (hg : A.map (·.block) = some g' ∨ w.heap.size ≤ g') (hbx : Box w gv t #[b0, b1, b2, b3]) (hne : A.map (·.block) ≠ some gv) :
    (w4.cell? ⟨g, 0, none⟩ = some (.slice A l.length c) ∧ w4.frozen? ⟨g, 0, none⟩ = false) ∧ (w4.cell? ⟨gv, 0, none⟩ = some b0 ∧ w4.cell? ⟨gv, 1, none⟩ = some b1 ∧ w4.cell? ⟨gv, 2, none⟩ = some b2 ∧ w4.cell? ⟨gv, 3, none⟩ = some b3) ∧
    (w4.cell? ⟨g', o' + l.length * 4, none⟩ = some (.int .i64 0) ∧ w4.cell? ⟨g', o' + l.length * 4 + 1, none⟩ = some (.int .i64 0) ∧ w4.cell? ⟨g', o' + l.length * 4 + 2, none⟩ = some (.string ⟨#[]⟩) ∧ w4.cell? ⟨g', o' + l.length * 4 + 3, none⟩ = some (.slice none 0 0)) ∧
    (w4.frozen? ⟨g', o' + l.length * 4, none⟩ = false ∧ w4.frozen? ⟨g', o' + l.length * 4 + 1, none⟩ = false ∧ w4.frozen? ⟨g', o' + l.length * 4 + 2, none⟩ = false ∧ w4.frozen? ⟨g', o' + l.length * 4 + 3, none⟩ = false) ∧ g' ≠ g ∧ g' ≠ gv := by
  have hb1 := ho.box h.box h.ne
  obtain ⟨c0, c1, c2, c3, _⟩ := own_cells4 (ho.box hbx hne)
  have hfr := hmk.2.1.frozen
  obtain ⟨b, o, e, _, d0, d1, d2, d3⟩ := hmk.2.1.row.val (i := l.length) (by simp) vc0
  injection e with e
  injection e with e1 e2
  subst e1 e2
  rw [show (l ++ [vc0]).getD l.length vc0 = vc0 by simp [List.getD_eq_getElem?_getD]] at d0 d1 d2 d3
  refine ⟨⟨hb1.cell 0, hb1.frozen 0⟩, ⟨c0, c1, c2, c3⟩, ⟨d0, d1, d2, d3⟩, ⟨hfr _, hfr _, hfr _, hfr _⟩, ?_, ?_⟩
  · rcases hg with e | e
    · exact fun e' => h.ne (by rw [e, e'])
    · have := h.box.lt; omega
  · rcases hg with e | e
    · exact fun e' => hne (by rw [e, e'])
    · have := hbx.lt; omega

/-- What Matches answers: what is bound is appended to the names. -/
def MatchPost (w : World) (A : Option Addr) (base g N : Nat) (S : Nat → Prop) (vs : List Val) (r : Option (List Val)) (e : Ending) (w' : World) : Prop :=
  ∃ (q : Bool) (A' : Option Addr) (c' : Nat) (l' : List VC) (vs' : List Val), e = .returned (.bool q) ∧ q = r.isSome ∧ NamesAt w' base g S N A' c' l' vs' ∧ (∀ xs, r = some xs → vs' = vs ++ xs) ∧ Only (fun b => b = g ∨ A.map (·.block) = some b) w w' ∧ ∀ b, A'.map (·.block) = some b → A.map (·.block) = some b ∨ w.heap.size ≤ b
def MatchesAt (n : Nat) : Prop := ∀ (x y : VC) (p v : Val) (w : World) (base g N M : Nat) (Sp Sv : Nat → Prop) (A : Option Addr) (c : Nat) (l : List VC) (vs : List Val), VIn w Sp n x p → VIn w Sv n y v → (∀ b, Sp b → b < base) → (∀ b, Sv b → b < base) → base ≤ w.heap.size → n ≤ N →
  NamesAt w base g Sv N A c l vs → l.length + p.size ≤ M → M ≤ 2097152 → Calls Try.prog 17 #[valV x, valV y, .pointer (some ⟨g, 0, none⟩)] w (MatchPost w A base g N Sv vs (bindN n p v))

set_option maxRecDepth 100000 in
set_option maxHeartbeats 4000000 in
/-- A name: the value is appended. -/
theorem matches_name (n : Nat) (x y : VC) (p v : Val) (w : World) (base g N M : Nat) (Sp Sv : Nat → Prop) (A : Option Addr) (c : Nat) (l : List VC) (vs : List Val) (hx : VIn w Sp (n + 1) x p) (hy : VIn w Sv (n + 1) y v) (hSv : ∀ b, Sv b → b < base) (hbase : base ≤ w.heap.size) (hN : n + 1 ≤ N)
    (hnm : NamesAt w base g Sv N A c l vs) (hM : l.length + p.size ≤ M) (hM2 : M ≤ 2097152) (hk2 : p.kind = 2) : Calls Try.prog 17 #[valV x, valV y, .pointer (some ⟨g, 0, none⟩)] w (MatchPost w A base g N Sv vs (some [v])) := by
  obtain ⟨N, rfl⟩ : ∃ N', N = N' + 1 := ⟨N - 1, by omega⟩
  obtain ⟨k1, m1, t1, A1, len1, cap1⟩ := x
  have b2 : (k1 == 2) = true := by have := hx.1.1; simp at this; simp [this, hk2]
  have b1 : (k1 == 1) = false := by have := hx.1.1; simp at this; simp [this, hk2]
  have hi64 : I64 k1 := hx.1.2.2.2.2.2.1
  have hkk : k1 = 2 := by simpa using b2
  have hps := size_pos p
  have hroom : (l.length + 1) * 56 ≤ 140737488355328 := by omega
  have HNM := Lib.hid hnm
  have HY := Lib.hid hy.lt
  have HSV := Lib.hid hSv
  have hgl := hnm.box.lt
  clear hx hy hnm hSv
  subst hkk
  unfold valV
  go_enter Try.func17, Try.ntmps17
  go_upto_region 2 with fail
  have hb2 : Below w.heap.size w ((w.alloc (.cells #[.int .i64 2, .int .i64 m1, .string t1, .slice A1 len1 cap1] 32)).alloc (.cells #[.int .i64 y.kind, .int .i64 y.num, .string y.text, .slice y.A y.len y.cap] 28)) := ((Below.refl _ _).alloc (Nat.le_refl _) _).alloc (by simp) _
  have HNM2 := Lib.hid (HNM.out.below hb2)
  have HYV := Lib.hid (((HY.out.below hb2 fun _ h => h.2).keep (fun _ _ => rfl) fun _ h => h.1).more hN)
  have hbx1 := Box.new (w.alloc (.cells #[.int .i64 2, .int .i64 m1, .string t1, .slice A1 len1 cap1] 32)) 28 #[.int .i64 y.kind, .int .i64 y.num, .string y.text, .slice y.A y.len y.cap]
  have hbx0 := (Box.new w 32 #[.int .i64 2, .int .i64 m1, .string t1, .slice A1 len1 cap1]).alloc (.cells #[.int .i64 y.kind, .int .i64 y.num, .string y.text, .slice y.A y.len y.cap] 28)
  have hne1 : A.map (·.block) ≠ some w.heap.size := fun e => by have := (HNM.out.made.lt_block e).2; omega
  have hne2 : A.map (·.block) ≠ some (w.heap.size + 1) := fun e => by have := (HNM.out.made.lt_block e).2; omega
  have HNE1 := Lib.hid hne1
  have HNE2 := Lib.hid hne2
  have hbs : base ≤ ((w.alloc (.cells #[.int .i64 2, .int .i64 m1, .string t1, .slice A1 len1 cap1] 32)).alloc (.cells #[.int .i64 y.kind, .int .i64 y.num, .string y.text, .slice y.A y.len y.cap] 28)).heap.size := by simp; omega
  have hsz : ((w.alloc (.cells #[.int .i64 2, .int .i64 m1, .string t1, .slice A1 len1 cap1] 32)).alloc (.cells #[.int .i64 y.kind, .int .i64 y.num, .string y.text, .slice y.A y.len y.cap] 28)).heap.size = w.heap.size + 2 := by simp
  rw [show (w.alloc (.cells #[.int .i64 2, .int .i64 m1, .string t1, .slice A1 len1 cap1] 32)).heap.size = w.heap.size + 1 by simp] at hbx1
  have HB2 := Lib.hid hb2
  clear hb2 hne1 hne2
  generalize (w.alloc (.cells #[.int .i64 2, .int .i64 m1, .string t1, .slice A1 len1 cap1] 32)).alloc (.cells #[.int .i64 y.kind, .int .i64 y.num, .string y.text, .slice y.A y.len y.cap] 28) = w2 at *
  obtain ⟨e0, e1, e2, e3, _⟩ := own_cells4 hbx1
  have hg0 : w2.cell? ⟨g, 0, none⟩ = some (.slice A l.length c) := HNM2.out.box.cell 0
  have HBX0 := Lib.hid hbx0
  have HBX1 := Lib.hid hbx1
  clear hbx0 hbx1
  have hgw : g < w2.heap.size := by omega
  have hvw : w.heap.size + 1 < w2.heap.size := by omega
  have HSZ := Lib.hid hsz
  have HSZ2 := Lib.hid (show ∀ b, w2.heap.size ≤ b → w.heap.size ≤ b from fun b h => by omega)
  clear hsz
  have hidx : (l.length : Int) < (l.length : Int) + 1 := by omega
  go_cut [] from 13 to 21 (fun wx => ∃ g' o' c', NamesAt wx base g Sv (N + 1) (some ⟨g', o', none⟩) c' (l ++ [y]) (vs ++ [v]) ∧ Only (fun b => b = g ∨ A.map (·.block) = some b) w2 wx ∧ (A.map (·.block) = some g' ∨ w.heap.size ≤ g'))
  case first =>
    go_region_law ((refine step_mk_zeroO rfl (.tmp 15) (.tmp 18) rfl base Sv N A c l.length l vs rfl rfl ((HNM2.out.made.below ((Below.refl _ _).alloc (Nat.le_refl _) _)).below (below_drewN (Below.refl _ _) 1)) w2.heap.size rfl (val_new w2 vc0) hroom (by simp; omega) ?_; intro g' o' c' w4 hmk4 ho4 hg4; have ho5 := ((Only.refl (fun b => A.map (·.block) = some b) w2).alloc (.cells (valC vc0).toArray 28)).drew.trans ho4; have hg5 : A.map (·.block) = some g' ∨ w2.heap.size ≤ g' := hg4.imp_right (fun h => by rw [h]; simp); obtain ⟨⟨n0, n1⟩, ⟨p0, p1, p2, p3⟩, ⟨q0, q1, q2, q3⟩, ⟨r0, r1, r2, r3⟩, hne4, hne5⟩ := name_facts HNM2.out hmk4 ho5 hg5 HBX1.out HNE2.out))
    all_goals (
      have hF := names_fin HNM2.out HSV.out rfl hmk4 ho5 hg5 (HYV.out.lt.keep (only_keepS HNM2.out.made HSV.out ho5) fun _ h => h.1)
      unfold put4 at hF
      have hg6 : A.map (·.block) = some g' ∨ w.heap.size ≤ g' := hg5.imp_right (HSZ2.out _)
      go_wp2_with fail
      go_meet
      first
        | with_reducible exact ⟨g', o', c', hF.1.1, hF.1.2, hg6⟩
        | with_reducible exact ⟨g', o', c', hF.2.1, hF.2.2, hg6⟩)
  case rest =>
  obtain ⟨g', o', c', hF, hF2, hg6⟩ := hcut
  obtain ⟨w5, hw5⟩ : ∃ w5, w5 = wc := ⟨_, rfl⟩
  subst hw5
  have hnm5 := hF
  have ho6 := hF2
  have hsz5 : w.heap.size + 2 ≤ w5.heap.size := by have := ho6.size; have := HSZ.out; omega
  have HNM5 := Lib.hid hnm5
  have HO6 := Lib.hid (only_after (Only.of_below HB2.out (S := fun b => b = g ∨ A.map (·.block) = some b)) ho6 fun b hb => .inl hb)
  have HX5 := Lib.hid (ho6.box HBX0.out fun e => e.elim (fun e => by omega) HNE1.out)
  obtain ⟨x0, x1, x2, x3, _⟩ := own_cells4 HX5.out
  clear hnm5 ho6 hF hF2 hidx e0 e1 e2 e3 hg0
  have hm4 := map4 w5 3 2 4 3 5 4 6 5 (by unfold I64; omega) (by unfold I64; omega) (by unfold I64; omega) (by unfold I64; omega)
  obtain ⟨m1, m2, m3, m4, z1, z2, z3, z4, hb4, hlk⟩ := hm4
  have hlk2 := hlk 2 (by unfold I64; omega)
  have hmm := @run_makeMap_plain Try.prog
  have HB4 := Lib.hid hb4
  have HX6 := Lib.hid (HX5.out.below hb4 (by omega))
  obtain ⟨u0, u1, u2, u3, _⟩ := own_cells4 HX6.out
  clear hlk hb4
  go_wp2_with fail
  go_ret
  refine ⟨_, _, _, _, _, rfl, rfl, HNM5.out.below HB4.out, (fun xs h => by injection h with h; rw [h]), HO6.out.below HB4.out, fun b hb => ?_⟩
  simp at hb
  subst hb
  exact hg6
end Go.Proofs.Ytdjahlkjfpbifaa
