
/-
  A slice that lies anywhere in memory of the call's own (a queue: cut at its head, appended to at its end): what an append makes of it.
-/
import Derived.Test.YtgkckldflfalgaaOpen2
import Derived.OwnWalk
import Derived.Maps.AppendAt
namespace Go.Proofs.Ytgkckldflfalgaa
open Go.RowKit

/-- A slice over memory of the call's own, not always from a block's head on. -/
def OwnAt (w : World) (base : Nat) (e : TypeId) (size : Nat) (A : Option Addr) (n cap : Nat) (xs : List Value) : Prop :=
  xs.length = n * size ∧
  ((A = none ∧ n = 0 ∧ cap = 0) ∨
   ∃ g o cur, A = some ⟨g, o, none⟩ ∧ base ≤ g ∧ w.heap[g]? = some (.cells cur e (0, 0)) ∧ n ≤ cap ∧ cap ≤ maxLen ∧ o + cap * size ≤ cur.size ∧ (cur.toList.drop o).take (n * size) = xs)

section
variable {w w' : World} {base : Nat} {e : TypeId} {size n cap : Nat} {A : Option Addr} {xs : List Value}
theorem OwnAt.of_own {v : Value} (h : w.ownsRow base e size v n xs) : ∃ A cap, v = .slice A n cap ∧ OwnAt w base e size A n cap xs := by
  rcases h.2 with ⟨rfl, rfl⟩ | ⟨g, cap, cur, rfl, h1, h2, h3, h4, h5, h6⟩
  · exact ⟨none, 0, rfl, h.1, .inl ⟨rfl, rfl, rfl⟩⟩
  · exact ⟨_, cap, rfl, h.1, .inr ⟨g, 0, cur, rfl, h1, h2, h3, h4, by omega, by simpa using h6⟩⟩
theorem OwnAt.cells {g o : Nat} (h : OwnAt w base e size (some ⟨g, o, none⟩) n cap xs) : ∀ j u, xs[j]? = some u → w.cell? ⟨g, o + j, none⟩ = some u := by
  rcases h.2 with ⟨h0, _⟩ | ⟨g', o', cur, hA, _, hh, _, _, _, htk⟩
  · cases h0
  · injection hA with hA
    injection hA with hg ho
    subst hg ho
    intro j u hu
    have h2 : ((cur.toList.drop o).take (n * size))[j]? = some u := by rw [htk]; exact hu
    rw [List.getElem?_take] at h2
    split at h2
    · rw [List.getElem?_drop] at h2
      rw [Array.getElem?_toList] at h2
      simp [World.cell?, hh, h2]
    · cases h2
theorem OwnAt.below (h : OwnAt w base e size A n cap xs) (hb : Below w.heap.size w w') : OwnAt w' base e size A n cap xs := by
  refine ⟨h.1, ?_⟩
  rcases h.2 with h0 | ⟨g, o, cur, h1, h2, h3, h4⟩
  · exact .inl h0
  · have hlt : g < w.heap.size := by
      rcases Nat.lt_or_ge g w.heap.size with hl | hge
      · exact hl
      · rw [Array.getElem?_eq_none hge] at h3; cases h3
    exact .inr ⟨g, o, cur, h1, h2, (hb.block g hlt).trans h3, h4⟩
/-- cut at its head -/
theorem OwnAt.cut {g o k : Nat} (h : OwnAt w base e size (some ⟨g, o, none⟩) n cap xs) (hk : k ≤ n) : OwnAt w base e size (some ⟨g, o + k * size, none⟩) (n - k) (cap - k) (xs.drop (k * size)) := by
  rcases h.2 with ⟨h0, _⟩ | ⟨g', o', cur, hA, h1, h2, h3, h4, h5, h6⟩
  · cases h0
  · injection hA with hA
    injection hA with hg ho
    subst hg ho
    have e1 : cap * size = k * size + (cap - k) * size := by rw [← Nat.add_mul]; congr 1; omega
    refine ⟨by rw [List.length_drop, h.1, Nat.sub_mul], .inr ⟨g, o + k * size, cur, rfl, h1, h2, by omega, by omega, by omega, ?_⟩⟩
    rw [← h6, List.drop_take, List.drop_drop, Nat.sub_mul]
end

theorem run_append_at {P : Program} (w : World) (base : Nat) (t ty e : TypeId) (i : TypeInfo) (z : Value) (size bytes : Nat) (ht : P.underlying t = some (.slice e)) (hi : P.info? e = some i) (hz : i.zero = some z)
    (hsize : i.size = size) (hby : i.bytes = bytes) (hzs : z.cells.size = size)
    (g o n cap : Nat) (xs : List Value) (hown : OwnAt w base e size (some ⟨g, o, none⟩) n cap xs)
    (a : Addr) (m c : Nat) (news : List Value) (hl : news.length = m * size) (hnews : ∀ j u, news[j]? = some u → w.cell? (a.add j) = some u) (h1 : ∀ u ∈ news, u.oneCell' = true)
    (h63 : n + m ≤ maxLen) (hbytes : (n + m) * bytes ≤ 140737488355328) (hbase : base ≤ w.heap.size) :
    ∃ A' cap' w', (Builtin.append_ #[t, t] ty #[.slice (some ⟨g, o, none⟩) n cap, .slice (some a) m c]).run P w = .ok (.slice A' (n + m) cap') w' ∧ OwnAt w' base e size A' (n + m) cap' (xs ++ news) ∧ w.grownBy w' (some g) ∧
      (∃ g' o', A' = some ⟨g', o', none⟩ ∧ (g' = g ∨ g' = w.heap.size)) := by
  subst hsize
  subst hby
  have hlen : (xs ++ news).length = (n + m) * i.size := by rw [List.length_append, hown.1, hl, Nat.add_mul]
  have hcells := hown.cells
  rcases hown.2 with ⟨h0, _⟩ | ⟨g', o', cur, hA, h1', h2, h3, h4, h5, h6⟩
  · cases h0
  injection hA with hA
  injection hA with hg ho
  subst hg ho
  by_cases hroom : n + m ≤ cap
  · have hfit : o + n * i.size + news.length ≤ cur.size := by
      have : (n + m) * i.size ≤ cap * i.size := Nat.mul_le_mul_right _ hroom
      rw [hl]; rw [Nat.add_mul] at this; omega
    have hf := run_firstCells_some (P := P) w i.size m a m c news hl hnews
    have hst := run_storeCells_at P g (o + n * i.size) e news 0 cur w h2 (by omega) h1
    simp only [Nat.add_zero] at hst
    refine ⟨some ⟨g, o, none⟩, cap, w.setRow g (cur.toList.take (o + n * i.size) ++ news ++ cur.toList.drop (o + n * i.size + news.length)).toArray, ?_, ⟨hlen, .inr ⟨g, o, _, rfl, h1', setRow_heap w g cur _ e _ h2, hroom, h4, ?_, ?_⟩⟩, ⟨rfl, rfl, rfl, by simp, fun k _ hk => setRow_other w g k _ (fun e => hk (by rw [e]))⟩, ⟨g, o, rfl, .inl rfl⟩⟩
    · simp [Builtin.append_, run_underlying ht, sizeOf, typeInfo, hi, Builtin.lenOf, hroom, hf, Addr.add_lit, hst]
    · simp only [List.size_toArray, List.length_append, List.length_take, List.length_drop, Array.length_toList]
      omega
    · have hlo : o ≤ (cur.toList.take (o + n * i.size)).length := by rw [List.length_take, Array.length_toList]; omega
      rw [List.append_assoc, List.drop_append_of_le_length hlo, List.drop_take, show o + n * i.size - o = n * i.size by omega, h6, ← List.append_assoc, ← hlen]
      exact List.take_left
  · have hr := run_append_grow (P := P) w t ty e i z ht hi hz ⟨g, o, none⟩ n cap xs hown.1 (fun j u hu => by rw [Addr.add_lit]; exact hcells j u hu) a m c news hl hnews (by omega) (by simp only [maxLen] at h63; omega) (growslice_fits (by omega) hbytes)
    have hge := grownCap_ge w (n + m) cap e
    have hcm : grownCap w (n + m) cap e ≤ maxLen := grownCap_le_maxLen w (n + m) cap e h63
    refine ⟨_, _, _, hr, ⟨hlen, .inr ⟨w.heap.size, 0, _, rfl, hbase, heap_alloc_new w.drew _, hge, hcm, ?_, ?_⟩⟩, ⟨rfl, rfl, rfl, by simp, fun k hk _ => Below.heap_alloc w.drew _ k hk⟩, ⟨_, _, rfl, .inr rfl⟩⟩
    · simp only [Array.size_append, List.size_toArray, size_zeroCells, hzs, hown.1, hl, ← Nat.add_mul]
      apply Nat.le_of_eq
      rw [Nat.zero_add]
      congr 1
      omega
    · simp only [Array.toList_append, List.append_assoc, List.drop_zero]
      rw [← List.append_assoc, ← hlen]
      exact List.take_left

section
variable {w w' : World} {base : Nat} {e : TypeId} {size n cap : Nat} {A : Option Addr} {xs : List Value}
theorem OwnAt.nil : OwnAt w base e size none 0 0 [] := ⟨by simp, .inl ⟨rfl, rfl, rfl⟩⟩
theorem OwnAt.lt {g o : Nat} (h : OwnAt w base e size (some ⟨g, o, none⟩) n cap xs) : base ≤ g ∧ g < w.heap.size := by
  rcases h.2 with ⟨h0, _⟩ | ⟨g', o', cur, hA, h1, h2, _⟩
  · cases h0
  · injection hA with hA
    injection hA with hg ho
    subst hg ho
    refine ⟨h1, ?_⟩
    rcases Nat.lt_or_ge g w.heap.size with hl | hge
    · exact hl
    · rw [Array.getElem?_eq_none hge] at h2; cases h2
theorem OwnAt.form (h : OwnAt w base e size A n cap xs) : (A = none ∧ n = 0 ∧ cap = 0) ∨ ∃ g o, A = some ⟨g, o, none⟩ := by
  rcases h.2 with h0 | ⟨g', o', cur, hA, _⟩
  · exact .inl h0
  · exact .inr ⟨g', o', hA⟩
theorem OwnAt.some_of (h : OwnAt w base e size A n cap xs) (hn : 0 < n) : ∃ g o, A = some ⟨g, o, none⟩ ∧ n ≤ cap := by
  rcases h.2 with ⟨_, h0, _⟩ | ⟨g', o', cur, hA, _, _, h3, _⟩
  · omega
  · exact ⟨g', o', hA, h3⟩
theorem OwnAt.grown {row : Option Nat} (h : OwnAt w base e size A n cap xs) (hg : w.grownBy w' row) (hne : ∀ g o, A = some ⟨g, o, none⟩ → some g ≠ row) : OwnAt w' base e size A n cap xs := by
  refine ⟨h.1, ?_⟩
  rcases h.2 with h0 | ⟨g, o, cur, h1, h2, h3, h4⟩
  · exact .inl h0
  · subst h1
    exact .inr ⟨g, o, cur, rfl, h2, (hg.block g h.lt.2 (hne g o rfl)).trans h3, h4⟩
theorem OwnAt.alloc (h : OwnAt w base e size A n cap xs) (ob : Obj) : OwnAt (w.alloc ob) base e size A n cap xs := by
  refine ⟨h.1, ?_⟩
  rcases h.2 with h0 | ⟨g, o, cur, h1, h2, h3, h4⟩
  · exact .inl h0
  · subst h1
    exact .inr ⟨g, o, cur, rfl, h2, (Below.heap_alloc w ob g h.lt.2).trans h3, h4⟩
theorem OwnAt.lower {base' : Nat} (h : OwnAt w base e size A n cap xs) (hb : base' ≤ base) : OwnAt w base' e size A n cap xs := by
  refine ⟨h.1, ?_⟩
  rcases h.2 with h0 | ⟨g, o, cur, h1, h2, h3⟩
  · exact .inl h0
  · exact .inr ⟨g, o, cur, h1, by omega, h3⟩
theorem OwnAt.drew (h : OwnAt w base e size A n cap xs) : OwnAt w.drew base e size A n cap xs := h
theorem OwnAt.drewN (h : OwnAt w base e size A n cap xs) (k : Nat) : OwnAt (w.drewN k) base e size A n cap xs := h
theorem OwnAt.far (h : OwnAt w base e size A n cap xs) {p : Addr} (hp : ∀ g o, A = some ⟨g, o, none⟩ → g ≠ p.block) (u : Value) : OwnAt (w.setCell p u) base e size A n cap xs := by
  refine ⟨h.1, ?_⟩
  rcases h.2 with h0 | ⟨g, o, cur, h1, h2, h3, h4⟩
  · exact .inl h0
  · exact .inr ⟨g, o, cur, h1, h2, (Below.heap_setCell w p u g (hp g o h1)).trans h3, h4⟩
theorem OwnAt.frozen {g o : Nat} (h : OwnAt w base e size (some ⟨g, o, none⟩) n cap xs) (j : Nat) : w.frozen? ⟨g, j, none⟩ = false := by
  rcases h.2 with ⟨h0, _⟩ | ⟨g', o', cur, hA, _, hh, _⟩
  · cases h0
  · injection hA with hA
    injection hA with hg ho
    subst hg
    simp [World.frozen?, hh]
theorem OwnAt.set {g o j : Nat} (h : OwnAt w base e size (some ⟨g, o, none⟩) n cap xs) (u : Value) : OwnAt (w.setCell ⟨g, o + j, none⟩ u) base e size (some ⟨g, o, none⟩) n cap (xs.set j u) := by
  refine ⟨by rw [List.length_set]; exact h.1, ?_⟩
  rcases h.2 with ⟨h0, _⟩ | ⟨g', o', cur, hA, h1, hh, h3, h4, h5, h6⟩
  · cases h0
  · injection hA with hA
    injection hA with hg ho
    subst hg ho
    refine .inr ⟨g, o, cur.setIfInBounds (o + j) u, rfl, h1, ?_, h3, h4, by simpa using h5, ?_⟩
    · simp [World.setCell, Array.getElem?_modify, hh]
    · rw [← h6]
      rw [Array.toList_setIfInBounds, List.drop_set, if_neg (by omega), show o + j - o = j by omega, List.take_set]
theorem OwnAt.row (h : OwnAt w base e size A n cap xs) : Row w w.heap.size A xs := fun hp => by
  rcases h.form with ⟨_, h0, _⟩ | ⟨g, o, rfl⟩
  · rw [h.1, h0] at hp; simp at hp
  · exact ⟨g, o, rfl, h.lt.2, fun i v hv => h.cells i v hv⟩
theorem OwnAt.cap_le (h : OwnAt w base e size A n cap xs) : n ≤ cap ∧ cap ≤ maxLen := by
  rcases h.2 with ⟨_, rfl, rfl⟩ | ⟨g', o', cur, hA, h1, hh, h3, h4, h5, h6⟩
  · exact ⟨by omega, by simp⟩
  · exact ⟨h3, h4⟩
/-- the slice without its first element -/
theorem OwnAt.tail {P : Program} {t : TypeId} {i : TypeInfo} (ht : P.underlying t = some (.slice e)) (hi : P.info? e = some i) (hsz : i.size = size) {g o : Nat} (h : OwnAt w base e size (some ⟨g, o, none⟩) n cap xs) (hn : 0 < n) :
    ∃ o', (∀ w, (Instr.slice t (.slice (some ⟨g, o, none⟩) n cap) (some (.int .i64 1)) none none).run P w = .ok (.slice (some ⟨g, o', none⟩) (n - 1) (cap - 1)) w) ∧ OwnAt w base e size (some ⟨g, o', none⟩) (n - 1) (cap - 1) (xs.drop size) := by
  have he : P.elem t = e := by simp [Program.elem, ht]
  have hr : ∀ w, (Instr.slice t (.slice (some ⟨g, o, none⟩) n cap) (some (.int .i64 1)) none none).run P w = .ok (sliced (some ⟨g, o, none⟩) 1 n cap size) w := fun w => by
    rw [run_slice_l w t _ n cap (by rw [he]; exact ht) .i64 1 (by omega) (by omega), he]
    simp [sizeOf, typeInfo, hi, hsz]
  by_cases hc : cap = 1
  · refine ⟨o, fun w => ?_, ?_⟩
    · rw [hr]; simp [sliced, hc]
    · have hcl := h.cap_le
      have hn1 : n = 1 := by omega
      subst hc hn1
      rcases h.2 with ⟨h0, _⟩ | ⟨g', o', cur, hA, h1, hh, h3, h4, h5, h6⟩
      · cases h0
      · injection hA with hA
        injection hA with hg ho
        subst hg ho
        have hd : xs.drop size = [] := List.drop_of_length_le (by rw [h.1]; omega)
        rw [hd]
        exact ⟨by simp, .inr ⟨g, o, cur, rfl, h1, hh, by omega, by omega, by omega, by simp⟩⟩
  · refine ⟨o + 1 * size, fun w => ?_, ?_⟩
    · rw [hr]; simp only [sliced, if_neg hc, Option.map_some, addr_add]
    · have := h.cut (k := 1) (by omega)
      simpa using this
end

/-- One or more elements appended to a slice of the call's own, wherever it lies. -/
theorem run_append_q {P : Program} (w : World) (base : Nat) (t ty e : TypeId) (i : TypeInfo) (z : Value) (size bytes : Nat) (ht : P.underlying t = some (.slice e)) (hi : P.info? e = some i) (hz : i.zero = some z)
    (hsize : i.size = size) (hby : i.bytes = bytes) (hzs : z.cells.size = size) (hsz : 0 < size)
    (A : Option Addr) (n cap : Nat) (xs : List Value) (hown : OwnAt w base e size A n cap xs)
    (a : Addr) (m c : Nat) (news : List Value) (hl : news.length = m * size) (hnews : ∀ j u, news[j]? = some u → w.cell? (a.add j) = some u) (h1 : ∀ u ∈ news, u.oneCell' = true)
    (h63 : n + m ≤ maxLen) (hbytes : (n + m) * bytes ≤ 140737488355328) (hbase : base ≤ w.heap.size) (hm : 0 < m) :
    ∃ g' o' cap' w', (Builtin.append_ #[t, t] ty #[.slice A n cap, .slice (some a) m c]).run P w = .ok (.slice (some ⟨g', o', none⟩) (n + m) cap') w' ∧ OwnAt w' base e size (some ⟨g', o', none⟩) (n + m) cap' (xs ++ news) ∧ w.grownBy w' (A.map (·.block)) ∧
      (A.map (·.block) = some g' ∨ g' = w.heap.size) := by
  rcases hown.form with ⟨rfl, rfl, rfl⟩ | ⟨g, o, rfl⟩
  · have hx : xs = [] := List.eq_nil_of_length_eq_zero (by rw [hown.1]; simp)
    subst hx
    obtain ⟨v', w', hr, ho, hg, hnil, hblk⟩ := run_append_own_at (P := P) w base t ty e i z size bytes ht hi hz hsize hby hzs hsz (.slice none 0 0) 0 [] (World.ownsRow_nil _ _ _ _) a m c news hl hnews h1 h63 hbytes hbase
    obtain ⟨A', c', rfl, hq⟩ := OwnAt.of_own ho
    obtain ⟨g', o', rfl, _⟩ := hq.some_of (by omega)
    refine ⟨g', o', c', w', hr, hq, hg, .inr ?_⟩
    rcases ho.2 with ⟨h0, _⟩ | ⟨g2, cap2, cur2, hv, _⟩
    · cases h0
    · injection hv with hv
      injection hv with hv
      injection hv with hv1 hv2
      subst hv1 hv2
      simpa [Value.ownBlock] using hblk
  · obtain ⟨A', cap', w', hr, ho, hg, g', o', rfl, hb⟩ := run_append_at w base t ty e i z size bytes ht hi hz hsize hby hzs g o n cap xs hown a m c news hl hnews h1 h63 hbytes hbase
    exact ⟨g', o', cap', w', hr, ho, hg, by rcases hb with rfl | hb; exact .inl rfl; exact .inr hb⟩

theorem wp_append_q {P : Program} (w : World) {o : Oper} {a : Act} {K : Act → World → Prop} {Q : Exit → Act → World → Prop} (s x : Operand) (t : TypeId)
    (ho : o.op = .call { callee := .builtin .append, args := #[s, x], argTypes := #[t, t] })
    (base : Nat) (e : TypeId) (i : TypeInfo) (z : Value) (size bytes : Nat) (ht : P.underlying t = some (.slice e)) (hi : P.info? e = some i) (hz : i.zero = some z)
    (hsize : i.size = size) (hby : i.bytes = bytes) (hzs : z.cells.size = size) (hsz : 0 < size)
    (A : Option Addr) (n cap : Nat) (xs : List Value) (hs : a.eval s = .slice A n cap) (hown : OwnAt w base e size A n cap xs)
    (ad : Addr) (m c : Nat) (news : List Value) (hx : a.eval x = .slice (some ad) m c) (hl : news.length = m * size) (hnews : ∀ j u, news[j]? = some u → w.cell? (ad.add j) = some u) (h1 : ∀ u ∈ news, u.oneCell' = true)
    (h63 : n + m ≤ maxLen) (hbytes : (n + m) * bytes ≤ 140737488355328) (hbase : base ≤ w.heap.size) (hm : 0 < m)
    (h : ∀ g' o' cap' w', OwnAt w' base e size (some ⟨g', o', none⟩) (n + m) cap' (xs ++ news) → w.grownBy w' (A.map (·.block)) → (A.map (·.block) = some g' ∨ g' = w.heap.size) → K (a.put o.dst (.slice (some ⟨g', o', none⟩) (n + m) cap')) w') : o.wp P a w K Q := by
  obtain ⟨g', o', cap', w', hr, h2, h3, h4⟩ := run_append_q (P := P) w base t o.type e i z size bytes ht hi hz hsize hby hzs hsz A n cap xs hown ad m c news hl hnews h1 h63 hbytes hbase hm
  unfold Oper.wp execOp
  simp only [ho, resolve, invoke, builtin, Sem.run_bind, Sem.run_pure, Result.andThen_ok, List.map_toArray, List.map_cons, List.map_nil, hs, hx, hr]
  exact h g' o' cap' w' h2 h3 h4

theorem wpList_append_q {P : Program} {w : World} {ops : Array Oper} {rest : List Oper} {o : Oper} {a : Act} {Q : Exit → Act → World → Prop} (hgd : o.guard = none) (s x : Operand) (t : TypeId)
    (ho : o.op = .call { callee := .builtin .append, args := #[s, x], argTypes := #[t, t] })
    (base : Nat) (e : TypeId) (i : TypeInfo) (z : Value) (size bytes : Nat) (ht : P.underlying t = some (.slice e)) (hi : P.info? e = some i) (hz : i.zero = some z)
    (hsize : i.size = size) (hby : i.bytes = bytes) (hzs : z.cells.size = size) (hsz : 0 < size)
    (A : Option Addr) (n cap : Nat) (xs : List Value) (hs : a.eval s = .slice A n cap) (hown : OwnAt w base e size A n cap xs)
    (ad : Addr) (m c : Nat) (news : List Value) (hx : a.eval x = .slice (some ad) m c) (hl : news.length = m * size) (hnews : ∀ j u, news[j]? = some u → w.cell? (ad.add j) = some u) (h1 : ∀ u ∈ news, u.oneCell' = true)
    (h63 : n + m ≤ maxLen) (hbytes : (n + m) * bytes ≤ 140737488355328) (hbase : base ≤ w.heap.size) (hm : 0 < m)
    (h : ∀ g' o' cap' w', OwnAt w' base e size (some ⟨g', o', none⟩) (n + m) cap' (xs ++ news) → w.grownBy w' (A.map (·.block)) → (A.map (·.block) = some g' ∨ g' = w.heap.size) → wpList P ops Q rest (a.put o.dst (.slice (some ⟨g', o', none⟩) (n + m) cap')) w') : wpList P ops Q (o :: rest) a w :=
  wpList_plain hgd fun _ hK => wp_append_q w s x t ho base e i z size bytes ht hi hz hsize hby hzs hsz A n cap xs hs hown ad m c news hx hl hnews h1 h63 hbytes hbase hm fun g' o' cap' w' h2 h3 h4 => hK _ _ (h g' o' cap' w' h2 h3 h4)

theorem step_append_q {P : Program} {w : World} {ops : Array Oper} {o : Oper} {a : Act} {K : Act → World → Prop} {Q : Exit → Act → World → Prop} {E : Prop} (hgd : o.guard = none) (s x : Operand) (t : TypeId)
    (ho : o.op = .call { callee := .builtin .append, args := #[s, x], argTypes := #[t, t] })
    (base : Nat) (e : TypeId) (i : TypeInfo) (z : Value) (size bytes : Nat) (ht : P.underlying t = some (.slice e)) (hi : P.info? e = some i) (hz : i.zero = some z)
    (hsize : i.size = size) (hby : i.bytes = bytes) (hzs : z.cells.size = size) (hsz : 0 < size)
    (A : Option Addr) (n cap : Nat) (xs : List Value) (hs : a.eval s = .slice A n cap) (hown : OwnAt w base e size A n cap xs)
    (ad : Addr) (m c : Nat) (news : List Value) (hx : a.eval x = .slice (some ad) m c) (hl : news.length = m * size) (hnews : ∀ j u, news[j]? = some u → w.cell? (ad.add j) = some u) (h1 : ∀ u ∈ news, u.oneCell' = true)
    (h63 : n + m ≤ maxLen) (hbytes : (n + m) * bytes ≤ 140737488355328) (hbase : base ≤ w.heap.size) (hm : 0 < m)
    (h : ∀ g' o' cap' w', OwnAt w' base e size (some ⟨g', o', none⟩) (n + m) cap' (xs ++ news) → w.grownBy w' (A.map (·.block)) → (A.map (·.block) = some g' ∨ g' = w.heap.size) → K (a.put o.dst (.slice (some ⟨g', o', none⟩) (n + m) cap')) w') :
    if Region.wanted o (yielded ops a.tmps) = true then Oper.wp P o a w K Q else E := by
  have hw : Region.wanted o (yielded ops a.tmps) = true := by simp [Region.wanted, hgd]
  rw [if_pos hw]
  exact wp_append_q w s x t ho base e i z size bytes ht hi hz hsize hby hzs hsz A n cap xs hs hown ad m c news hx hl hnews h1 h63 hbytes hbase hm h
end Go.Proofs.Ytgkckldflfalgaa
