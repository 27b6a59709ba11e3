
/-
  Rows of the call's own, of elements of any width: cut, appended to in place, copied into, extended by zeros (what slices.Delete and slices.Insert do).
-/
import Derived.Test.YtdjahlkjfpbifaaOnly
import Derived.Test.YtdjahlkjfpbifaaQueue
import Derived.Lib.SliceRun
import Derived.Lib.AppendZerosOnto
import Derived.Lib.Overlaps
import Derived.Laws.CopyOwn
import Derived.Laws.Externs
import Derived.Deep.RegionLaw
namespace Go.Proofs.Ytdjahlkjfpbifaa
open Go.RowKit

theorem OwnAt.shrinkD {w : World} {base : Nat} {e : TypeId} {size n cap k : Nat} {A : Option Addr} {xs : List Value} (h : OwnAt w base e size A n cap xs) (hk : k ≤ n) : OwnAt w base e size A k cap (xs.take (k * size)) := by
  have hks : k * size ≤ n * size := Nat.mul_le_mul_right _ hk
  refine ⟨by rw [List.length_take, h.1, Nat.min_eq_left hks], ?_⟩
  rcases h.2 with ⟨h0, h1, h2⟩ | ⟨g, o, cur, h1, h2, h3, h4, h5, h6, h7⟩
  · exact .inl ⟨h0, by omega, h2⟩
  · refine .inr ⟨g, o, cur, h1, h2, h3, by omega, h5, h6, ?_⟩
    rw [← h7, List.take_take, Nat.min_eq_left hks]
theorem OwnAt.setsPastD {base : Nat} {e : TypeId} {size n cap g o : Nat} {xs : List Value} : ∀ (vs : List Value) (j : Nat) (w : World), n * size ≤ j → OwnAt w base e size (some ⟨g, o, none⟩) n cap xs → OwnAt (w.setCells g (o + j) vs) base e size (some ⟨g, o, none⟩) n cap xs
  | [], _, _, _, h => h
  | v :: r, j, w, hj, h => by
    have h2 := h.set (j := j) v
    rw [List.set_eq_of_length_le (by rw [h.1]; exact hj)] at h2
    have := OwnAt.setsPastD r (j + 1) _ (by omega) h2
    rw [World.setCells]
    exact this
theorem Only.setsD {S : Nat → Prop} {a : World} {g : Nat} (hg : S g) : ∀ (vs : List Value) (o : Nat) (w : World), Only S a w → Only S a (w.setCells g o vs)
  | [], _, _, h => h
  | v :: r, o, w, h => by
    rw [World.setCells]
    exact Only.setsD hg r (o + 1) _ (h.set (p := ⟨g, o, none⟩) hg v)
theorem OwnAt.room {w : World} {base : Nat} {e : TypeId} {size n cap g o : Nat} {xs : List Value} (h : OwnAt w base e size (some ⟨g, o, none⟩) n cap xs) {j : Nat} (hj : j < cap * size) : (w.cell? ⟨g, o + j, none⟩).isSome = true := by
  rcases h.2 with ⟨h0, _⟩ | ⟨g', o', cur, hA, h1, h2, h3, h4, h5, h6⟩
  · cases h0
  · injection hA with hA
    injection hA with hg ho
    subst hg ho
    simp [World.cell?, h2]
    omega
/-- An append that has room: in place. -/
theorem run_append_in {P : Program} (w : World) (base : Nat) (t ty e : TypeId) (i : TypeInfo) (size : Nat) (ht : P.underlying t = some (.slice e)) (hi : P.info? e = some i) (hsize : i.size = size)
    (g o n cap : Nat) (xs : List Value) (hown : OwnAt w base e size (some ⟨g, o, none⟩) n cap xs)
    (a : Addr) (m c : Nat) (news : List Value) (hl : news.length = m * size) (hnews : ∀ j u, news[j]? = some u → w.cell? (a.add j) = some u) (h1 : ∀ u ∈ news, u.oneCell' = true) (hroom : n + m ≤ cap) :
    ∃ w', (Builtin.append_ #[t, t] ty #[.slice (some ⟨g, o, none⟩) n cap, .slice (some a) m c]).run P w = .ok (.slice (some ⟨g, o, none⟩) (n + m) cap) w' ∧ OwnAt w' base e size (some ⟨g, o, none⟩) (n + m) cap (xs ++ news) ∧ Only (· = g) w w' := by
  subst hsize
  have hlen : (xs ++ news).length = (n + m) * i.size := by rw [List.length_append, hown.1, hl, Nat.add_mul]
  rcases hown.2 with ⟨h0, _⟩ | ⟨g', o', cur, hA, h1', h2, h3, h4, h5, h6⟩
  · cases h0
  injection hA with hA
  injection hA with hg ho
  subst hg ho
  have hfit : o + n * i.size + news.length ≤ cur.size := by
    have : (n + m) * i.size ≤ cap * i.size := Nat.mul_le_mul_right _ hroom
    rw [hl]; rw [Nat.add_mul] at this; omega
  have hf := run_firstCells_some (P := P) w i.size m a m c news hl hnews
  have hst := run_storeCells_at P g (o + n * i.size) e news 0 cur w h2 (by omega) h1
  simp only [Nat.add_zero] at hst
  refine ⟨w.setRow g (cur.toList.take (o + n * i.size) ++ news ++ cur.toList.drop (o + n * i.size + news.length)).toArray, ?_, ⟨hlen, .inr ⟨g, o, _, rfl, h1', setRow_heap w g cur _ e _ h2, hroom, h4, ?_, ?_⟩⟩, ⟨rfl, rfl, rfl, by simp, fun k _ hk => setRow_other w g k _ hk⟩⟩
  · simp [Builtin.append_, run_underlying ht, sizeOf, typeInfo, hi, Builtin.lenOf, hroom, hf, Addr.add_lit, hst]
  · simp only [List.size_toArray, List.length_append, List.length_take, List.length_drop, Array.length_toList]
    omega
  · have hlo : o ≤ (cur.toList.take (o + n * i.size)).length := by rw [List.length_take, Array.length_toList]; omega
    rw [List.append_assoc, List.drop_append_of_le_length hlo, List.drop_take, show o + n * i.size - o = n * i.size by omega, h6, ← List.append_assoc, ← hlen]
    exact List.take_left
theorem OwnAt.tailsD {w : World} {base : Nat} {e : TypeId} {size n cap : Nat} {xs : List Value} {g o : Nat} (h : OwnAt w base e size (some ⟨g, o, none⟩) n cap xs) {k : Nat} (hk : k ≤ n) :
    ∃ o', (if cap = k then (some ⟨g, o, none⟩ : Option Addr) else some ⟨g, o + k * size, none⟩) = some ⟨g, o', none⟩ ∧ Row w w.heap.size (some ⟨g, o', none⟩) (xs.drop (k * size)) := by
  by_cases hc : cap = k
  · refine ⟨o, if_pos hc, ?_⟩
    have hcl := h.cap_le
    rw [List.drop_of_length_le (by rw [h.1]; exact Nat.mul_le_mul_right _ (by omega))]
    exact Row.nil
  · exact ⟨o + k * size, if_neg hc, (h.cut hk).row⟩
theorem Row.news {w : World} {B : Nat} {a : Addr} {xs : List Value} (h : Row w B (some a) xs) : ∀ j u, xs[j]? = some u → w.cell? (a.add j) = some u := by
  intro j u hu
  have hj : j < xs.length := (List.getElem?_eq_some_iff.1 hu).1
  obtain ⟨b, o, e, _, hc⟩ := h (by omega)
  injection e with e
  subst e
  rw [addr_add]
  exact hc j u hu
theorem step_append_in {P : Program} {w : World} {ops : Array Oper} {o : Oper} {a : Act} {K : Act → World → Prop} {Q : Exit → Act → World → Prop} {E : Prop} (hgd : o.guard = none) (s x : Operand) (t : TypeId)
    (ho : o.op = .call { callee := .builtin .append, args := #[s, x], argTypes := #[t, t] })
    (base : Nat) (e : TypeId) (i : TypeInfo) (size : Nat) (ht : P.underlying t = some (.slice e)) (hi : P.info? e = some i) (hsize : i.size = size)
    (g o1 n cap : Nat) (xs : List Value) (hs : a.eval s = .slice (some ⟨g, o1, none⟩) n cap) (hown : OwnAt w base e size (some ⟨g, o1, none⟩) n cap xs)
    (ad : Addr) (m c : Nat) (news : List Value) (hx : a.eval x = .slice (some ad) m c) (hl : news.length = m * size) (hnews : ∀ j u, news[j]? = some u → w.cell? (ad.add j) = some u) (h1 : ∀ u ∈ news, u.oneCell' = true) (hroom : n + m ≤ cap)
    (h : ∀ w', OwnAt w' base e size (some ⟨g, o1, none⟩) (n + m) cap (xs ++ news) → Only (· = g) w w' → K (a.put o.dst (.slice (some ⟨g, o1, none⟩) (n + m) cap)) w') :
    if Region.wanted o (yielded ops a.tmps) = true then Oper.wp P o a w K Q else E := by
  have hw : Region.wanted o (yielded ops a.tmps) = true := by simp [Region.wanted, hgd]
  rw [if_pos hw]
  obtain ⟨w', hr, h2, h3⟩ := run_append_in (P := P) w base t o.type e i size ht hi hsize g o1 n cap xs hown ad m c news hl hnews h1 hroom
  unfold Oper.wp execOp
  simp only [ho, resolve, invoke, builtin, Sem.run_bind, Sem.run_pure, Result.andThen_ok, List.map_toArray, List.map_cons, List.map_nil, hs, hx, hr]
  exact h w' h2 h3

theorem run_copy_gen {P : Program} (w : World) (t ty e : TypeId) (i : TypeInfo) (size : Nat) (ht : P.underlying t = some (.slice e)) (hi : P.info? e = some i) (hsize : i.size = size) (g o dLen dCap : Nat) (a : Addr) (sLen sCap : Nat) (cur : Array Value) (te : TypeId) (cs : List Value)
    (hg : w.heap[g]? = some (.cells cur te (0, 0))) (hn : cs.length = Nat.min sLen dLen * size) (hsrc : ∀ j v, cs[j]? = some v → w.cell? (a.add j) = some v) (hfit : o + cs.length ≤ cur.size) (h1 : ∀ v ∈ cs, v.oneCell' = true) :
    (Builtin.copy_ #[t, t] ty #[.slice (some ⟨g, o, none⟩) dLen dCap, .slice (some a) sLen sCap]).run P w = .ok (goInt (Nat.min sLen dLen)) (w.setRow g (cur.toList.take o ++ cs ++ cur.toList.drop (o + cs.length)).toArray) := by
  subst hsize
  have hl := run_loadCells_list (P := P) w a cs hsrc
  have hst := run_storeCells_at P g o te cs 0 cur w hg (by simpa using hfit) h1
  simp [Builtin.copy_, run_underlying ht, Builtin.lenOf, Builtin.firstCells, sizeOf, typeInfo, hi, ← hn, hl, hst]
theorem splice_row {α : Type} (L cs : List α) (o N j : Nat) (hj : j + cs.length ≤ N) (hN : o + N ≤ L.length) :
    ((L.take (o + j) ++ cs ++ L.drop (o + j + cs.length)).drop o).take N = splice ((L.drop o).take N) j cs := by
  have h0 : o ≤ (L.take (o + j)).length := by rw [List.length_take]; omega
  rw [List.append_assoc, List.drop_append_of_le_length h0, List.drop_take, show o + j - o = j by omega]
  have hA : ((L.drop o).take j).length = j := by rw [List.length_take, List.length_drop]; omega
  have e1 : ((L.drop o).take N).take j = (L.drop o).take j := by rw [List.take_take, Nat.min_eq_left (by omega)]
  have e2 : ((L.drop o).take N).drop (j + cs.length) = (L.drop (o + j + cs.length)).take (N - (j + cs.length)) := by
    rw [List.drop_take, List.drop_drop, Nat.add_assoc]
  unfold splice
  rw [e1, e2]
  generalize (L.drop o).take j = X at hA ⊢
  subst hA
  rw [List.take_append, List.take_of_length_le (show X.length ≤ N by omega), List.take_append, List.take_of_length_le (show cs.length ≤ N - X.length by omega), Nat.sub_sub]
theorem splice_down {α : Type} (XS X D : List α) (a b : Nat) (hX : X.length = b) (hl : XS.length = a + b + D.length) : splice (splice XS (a + b) D) a X = XS.take a ++ (X ++ D) := by
  unfold splice
  have h1 : (XS.take (a + b)).length = a + b := by rw [List.length_take]; omega
  rw [List.drop_of_length_le (show XS.length ≤ a + b + D.length by omega), List.append_nil, List.take_append_of_le_length (by omega), List.take_take, Nat.min_eq_left (by omega), hX]
  generalize XS.take (a + b) = Y at h1 ⊢
  rw [← h1, List.drop_left]
theorem splice_up {α : Type} (XS X D : List α) (a b : Nat) (hX : X.length = b) (hl : XS.length = a + b + D.length) : splice (splice XS a X) (a + b) D = XS.take a ++ (X ++ D) := by
  unfold splice
  have h1 : (XS.take a).length = a := by rw [List.length_take]; omega
  have h2 : (XS.take a ++ (X ++ XS.drop (a + X.length))).length = a + b + D.length := by simp; omega
  rw [List.drop_of_length_le (show (XS.take a ++ (X ++ XS.drop (a + X.length))).length ≤ a + b + D.length by omega), List.append_nil, ← List.append_assoc, List.take_append_of_le_length (by simp; omega), List.take_of_length_le (by simp; omega), List.append_assoc]
/-- Cells copied into a row of the call's own. -/
theorem run_copy_at {P : Program} (w : World) (base : Nat) (t ty e : TypeId) (i : TypeInfo) (size : Nat) (ht : P.underlying t = some (.slice e)) (hi : P.info? e = some i) (hsize : i.size = size)
    (g o n cap : Nat) (xs : List Value) (hown : OwnAt w base e size (some ⟨g, o, none⟩) n cap xs) (j dLen dCap : Nat) (a : Addr) (sLen sCap : Nat) (cs : List Value) (hn : cs.length = Nat.min sLen dLen * size) (hfit : j + cs.length ≤ n * size)
    (hsrc : ∀ j v, cs[j]? = some v → w.cell? (a.add j) = some v) (h1 : ∀ v ∈ cs, v.oneCell' = true) :
    ∃ w', (Builtin.copy_ #[t, t] ty #[.slice (some ⟨g, o + j, none⟩) dLen dCap, .slice (some a) sLen sCap]).run P w = .ok (goInt (Nat.min sLen dLen)) w' ∧ OwnAt w' base e size (some ⟨g, o, none⟩) n cap (splice xs j cs) ∧ Only (· = g) w w' := by
  rcases hown.2 with ⟨h0, _⟩ | ⟨g', o', cur, hA, h1', h2, h3, h4, h5, h6⟩
  · cases h0
  injection hA with hA
  injection hA with hg ho
  subst hg ho
  have hcs : n * size ≤ cap * size := Nat.mul_le_mul_right _ h3
  have hr := run_copy_gen (P := P) w t ty e i size ht hi hsize g (o + j) dLen dCap a sLen sCap cur e cs h2 hn hsrc (by omega) h1
  have hxl := hown.1
  refine ⟨_, hr, ⟨?_, .inr ⟨g, o, _, rfl, h1', setRow_heap w g cur _ e _ h2, h3, h4, ?_, ?_⟩⟩, ⟨rfl, rfl, rfl, by simp, fun k _ hk => setRow_other w g k _ hk⟩⟩
  · rw [length_splice _ _ _ (by omega), hxl]
  · simp only [List.size_toArray, List.length_append, List.length_take, List.length_drop, Array.length_toList]
    omega
  · rw [← h6]
    exact splice_row cur.toList cs o (n * size) j hfit (by rw [Array.length_toList]; omega)
/-- A row of the call's own, cut further into its spare cells. -/
theorem OwnAt.extend {w : World} {base : Nat} {e : TypeId} {size n cap n' g o : Nat} {xs : List Value} (h : OwnAt w base e size (some ⟨g, o, none⟩) n cap xs) (hn : n ≤ n') (hc : n' ≤ cap) :
    ∃ ys : List Value, ys.length = (n' - n) * size ∧ OwnAt w base e size (some ⟨g, o, none⟩) n' cap (xs ++ ys) := by
  rcases h.2 with ⟨h0, _⟩ | ⟨g', o', cur, hA, h1', h2, h3, h4, h5, h6⟩
  · cases h0
  injection hA with hA
  injection hA with hg ho
  subst hg ho
  have hcs : n' * size ≤ cap * size := Nat.mul_le_mul_right _ hc
  have hns : n' * size = n * size + (n' - n) * size := by rw [← Nat.add_mul]; congr 1; omega
  refine ⟨((cur.toList.drop o).drop (n * size)).take ((n' - n) * size), ?_, ?_, .inr ⟨g, o, cur, rfl, h1', h2, hc, h4, h5, ?_⟩⟩
  · rw [List.length_take, List.length_drop, List.length_drop, Array.length_toList]; omega
  · rw [List.length_append, h.1, List.length_take, List.length_drop, List.length_drop, Array.length_toList]; omega
  · rw [← h6, hns, List.take_add]
/-- append(s[:k], make([]T, m)...) past the capacity: a new row. -/
theorem run_zeros_at {P : Program} (w : World) (base : Nat) (t tn ty e : TypeId) (i : TypeInfo) (z : Value) (size bytes : Nat) (ht : P.underlying t = some (.slice e)) (htn : P.underlying tn = some (.int .i64)) (hi : P.info? e = some i) (hz : i.zero = some z)
    (hsize : i.size = size) (hby : i.bytes = bytes) (hzs : z.cells.size = size) (hsz : 0 < size) (g o k cap : Nat) (xs : List Value) (hown : OwnAt w base e size (some ⟨g, o, none⟩) k cap xs)
    (m : Nat) (hm : 0 < m) (hc : cap < k + m) (h63 : k + m ≤ maxLen) (hbytes : (k + m) * bytes ≤ 140737488355328) (hbase : base ≤ w.heap.size) :
    ∃ cap' ys w', (Builtin.append_ #[t, tn] ty #[.slice (some ⟨g, o, none⟩) k cap, .int .i64 m]).run P w = .ok (.slice (some ⟨w.heap.size, 0, none⟩) (k + m) cap') w' ∧ ys.length = m * size ∧
      OwnAt w' base e size (some ⟨w.heap.size, 0, none⟩) (k + m) cap' (xs ++ ys) ∧ Below w.heap.size w w' ∧ w'.heap.size = w.heap.size + 1 := by
  subst hsize
  subst hby
  have hold : (Builtin.firstCells i.size k (.slice (some ⟨g, o, none⟩) k cap)).run P w.drew = .ok xs.toArray w.drew :=
    run_firstCells_some w.drew i.size k ⟨g, o, none⟩ k cap xs hown.1 (fun j v hj => by rw [Addr.add_lit]; exact hown.cells j v hj)
  have hmb : m * i.bytes ≤ (k + m) * i.bytes := Nat.mul_le_mul_right _ (by omega)
  have h := Lib.run_append_grow_zeros w t tn ty e i z .i64 .i64 ht htn hi hz (some ⟨g, o, none⟩) k cap xs hold m hm hsz hc (by simp only [maxLen] at h63; omega) (by omega) (growslice_fits (by omega) hbytes)
  have hge := grownCap_ge w (k + m) cap e
  have hcm : grownCap w (k + m) cap e ≤ maxLen := grownCap_le_maxLen w (k + m) cap e h63
  have hzl : (Builtin.zeroCells z.cells m).toList.length = m * i.size := by rw [Array.length_toList, size_zeroCells, hzs]
  refine ⟨_, (Builtin.zeroCells z.cells m).toList, _, h, hzl, ⟨?_, .inr ⟨w.heap.size, 0, _, rfl, hbase, heap_alloc_new w.drew _, hge, hcm, ?_, ?_⟩⟩, ?_, by simp⟩
  · rw [List.length_append, hown.1, hzl, Nat.add_mul]
  · simp only [Array.size_append, List.size_toArray, size_zeroCells, hzs, hown.1, ← Nat.add_mul]
    apply Nat.le_of_eq
    rw [Nat.zero_add]
    congr 1
    omega
  · simp only [Array.toList_append, List.drop_zero]
    rw [show (k + m) * i.size = (xs ++ (Builtin.zeroCells z.cells m).toList).length by rw [List.length_append, hown.1, hzl, Nat.add_mul]]
    exact List.take_left
  · exact ((Below.refl w.heap.size w).drew).alloc (Nat.le_refl _) _
theorem wp_copy_rune {P : Program} (w : World) {o : Oper} {a : Act} {K : Act → World → Prop} {Q : Exit → Act → World → Prop} (d s : Operand) (t t' : TypeId)
    (ho : o.op = .call { callee := .builtin .copy, args := #[d, s], argTypes := #[t, t'] }) (v u : Value) (hd : a.eval d = v) (hs : a.eval s = u) {v' : Value} {w' : World}
    (hr : (Builtin.copy_ #[t, t'] o.type #[v, u]).run P w = .ok v' w') (h : K (a.put o.dst v') w') : o.wp P a w K Q := by
  unfold Oper.wp execOp
  simp only [ho, resolve, invoke, builtin, Sem.run_bind, Sem.run_pure, Result.andThen_ok, List.map_toArray, List.map_cons, List.map_nil, hd, hs, hr]
  exact h
theorem wpList_copy_at {P : Program} {w : World} {ops : Array Oper} {rest : List Oper} {o : Oper} {a : Act} {Q : Exit → Act → World → Prop} (hgd : o.guard = none) (d s : Operand) (t : TypeId)
    (ho : o.op = .call { callee := .builtin .copy, args := #[d, s], argTypes := #[t, t] }) (base : Nat) (e : TypeId) (i : TypeInfo) (size : Nat) (ht : P.underlying t = some (.slice e)) (hi : P.info? e = some i) (hsize : i.size = size)
    (g o1 n cap : Nat) (xs : List Value) (hown : OwnAt w base e size (some ⟨g, o1, none⟩) n cap xs) (j p dLen dCap : Nat) (hp : p = o1 + j) (ad : Addr) (sLen sCap : Nat) (hd : a.eval d = .slice (some ⟨g, p, none⟩) dLen dCap) (hs : a.eval s = .slice (some ad) sLen sCap)
    (cs : List Value) (hn : cs.length = Nat.min sLen dLen * size) (hfit : j + cs.length ≤ n * size) (hsrc : ∀ j v, cs[j]? = some v → w.cell? (ad.add j) = some v) (h1 : ∀ v ∈ cs, v.oneCell' = true)
    (h : ∀ w', OwnAt w' base e size (some ⟨g, o1, none⟩) n cap (splice xs j cs) → Only (· = g) w w' → wpList P ops Q rest (a.put o.dst (goInt (Nat.min sLen dLen))) w') : wpList P ops Q (o :: rest) a w := by
  subst hp
  obtain ⟨w', hr, h2, h3⟩ := run_copy_at (P := P) w base t o.type e i size ht hi hsize g o1 n cap xs hown j dLen dCap ad sLen sCap cs hn hfit hsrc h1
  exact wpList_plain hgd fun _ hK => wp_copy_rune w d s t t ho _ _ hd hs hr (hK _ _ (h w' h2 h3))
theorem step_copy_at {P : Program} {w : World} {ops : Array Oper} {o : Oper} {a : Act} {K : Act → World → Prop} {Q : Exit → Act → World → Prop} {E : Prop} (hgd : o.guard = none) (d s : Operand) (t : TypeId)
    (ho : o.op = .call { callee := .builtin .copy, args := #[d, s], argTypes := #[t, t] }) (base : Nat) (e : TypeId) (i : TypeInfo) (size : Nat) (ht : P.underlying t = some (.slice e)) (hi : P.info? e = some i) (hsize : i.size = size)
    (g o1 n cap : Nat) (xs : List Value) (hown : OwnAt w base e size (some ⟨g, o1, none⟩) n cap xs) (j p dLen dCap : Nat) (hp : p = o1 + j) (ad : Addr) (sLen sCap : Nat) (hd : a.eval d = .slice (some ⟨g, p, none⟩) dLen dCap) (hs : a.eval s = .slice (some ad) sLen sCap)
    (cs : List Value) (hn : cs.length = Nat.min sLen dLen * size) (hfit : j + cs.length ≤ n * size) (hsrc : ∀ j v, cs[j]? = some v → w.cell? (ad.add j) = some v) (h1 : ∀ v ∈ cs, v.oneCell' = true)
    (h : ∀ w', OwnAt w' base e size (some ⟨g, o1, none⟩) n cap (splice xs j cs) → Only (· = g) w w' → K (a.put o.dst (goInt (Nat.min sLen dLen))) w') :
    if Region.wanted o (yielded ops a.tmps) = true then Oper.wp P o a w K Q else E := by
  have hw : Region.wanted o (yielded ops a.tmps) = true := by simp [Region.wanted, hgd]
  rw [if_pos hw]
  subst hp
  obtain ⟨w', hr, h2, h3⟩ := run_copy_at (P := P) w base t o.type e i size ht hi hsize g o1 n cap xs hown j dLen dCap ad sLen sCap cs hn hfit hsrc h1
  exact wp_copy_rune w d s t t ho _ _ hd hs hr (h w' h2 h3)
theorem wpList_zeros_at {P : Program} {w : World} {ops : Array Oper} {rest : List Oper} {o : Oper} {a : Act} {Q : Exit → Act → World → Prop} (hgd : o.guard = none) (s x : Operand) (t tn : TypeId)
    (ho : o.op = .call { callee := .builtin .append, args := #[s, x], argTypes := #[t, tn] }) (base : Nat) (e : TypeId) (i : TypeInfo) (z : Value) (size bytes : Nat) (ht : P.underlying t = some (.slice e)) (htn : P.underlying tn = some (.int .i64)) (hi : P.info? e = some i) (hz : i.zero = some z)
    (hsize : i.size = size) (hby : i.bytes = bytes) (hzs : z.cells.size = size) (hsz : 0 < size) (g o1 k cap : Nat) (xs : List Value) (hs : a.eval s = .slice (some ⟨g, o1, none⟩) k cap) (hown : OwnAt w base e size (some ⟨g, o1, none⟩) k cap xs)
    (m : Nat) (hx : a.eval x = .int .i64 m) (hm : 0 < m) (hc : cap < k + m) (h63 : k + m ≤ maxLen) (hbytes : (k + m) * bytes ≤ 140737488355328) (hbase : base ≤ w.heap.size)
    (h : ∀ cap' ys w', ys.length = m * size → OwnAt w' base e size (some ⟨w.heap.size, 0, none⟩) (k + m) cap' (xs ++ ys) → Below w.heap.size w w' → w'.heap.size = w.heap.size + 1 → wpList P ops Q rest (a.put o.dst (.slice (some ⟨w.heap.size, 0, none⟩) (k + m) cap')) w') : wpList P ops Q (o :: rest) a w := by
  obtain ⟨cap', ys, w', hr, h1, h2, h3, h4⟩ := run_zeros_at (P := P) w base t tn o.type e i z size bytes ht htn hi hz hsize hby hzs hsz g o1 k cap xs hown m hm hc h63 hbytes hbase
  refine wpList_plain hgd fun K hK => ?_
  unfold Oper.wp execOp
  simp only [ho, resolve, invoke, builtin, Sem.run_bind, Sem.run_pure, Result.andThen_ok, List.map_toArray, List.map_cons, List.map_nil, hs, hx, hr]
  exact hK _ _ (h cap' ys w' h1 h2 h3 h4)
theorem run_overlaps_own {P : Program} (w : World) (tS tR e : TypeId) (ht : P.underlying tS = some (.slice e)) (i : TypeInfo) (hi : P.info? e = some i) (fid : FuncId) (fn : Func) (hf : P.funcs[fid]? = some fn) (hname : (fn.name == "runtime.NumGoroutine") = false)
    (hbody : fn.body.isNone = true) (hnext : Extern.findNext fn = none) (hfind : Extern.find fn = some (Extern.SlicesOverlaps.overlaps #[tS, tS] #[tR]))
    {b g p o1 n cap base size la ca lb cb : Nat} {xs : List Value} {bc : Array Value} (hb : Box w b e bc) (hown : OwnAt w base e size (some ⟨g, o1, none⟩) n cap xs) (hcap : 0 < cap) (hsz : 0 < size) (hne : b ≠ g) :
    (callFunc fid #[.slice (some ⟨b, 0, none⟩) la ca, .slice (some ⟨g, p, none⟩) lb cb]).run P w = .ok (.value (.bool false)) w := by
  have hz : ∀ w, (Go.sizeOf e).run P w = .ok i.size w := fun w => by simp [sizeOf, typeInfo, hi]
  have hsa : w.shape? b = some (e, bc.size) := by
    have h : w.heap[b]? = some (.cells bc e (0, 0)) := hb
    simp [World.shape?, h]
  rcases hown.2 with ⟨h0, _⟩ | ⟨g', o', cur, hA, h1', h2, h3, h4, h5, h6⟩
  · cases h0
  injection hA with hA
  injection hA with hg ho
  subst hg ho
  have hsb : w.shape? g = some (e, cur.size) := by simp [World.shape?, h2]
  have hcz : cur.size ≠ 0 := by
    have := Nat.mul_pos hcap hsz
    omega
  rw [run_callFunc_extern hf hname hbody hnext hfind, Lib.run_overlaps_apart w tS tR e ht i.size hz ⟨b, 0, none⟩ ⟨g, p, none⟩ la ca lb cb hne e e bc.size cur.size hsa hsb hcz (hb.frozen 0) (hb.frozen _)]
  rfl
end Go.Proofs.Ytdjahlkjfpbifaa
