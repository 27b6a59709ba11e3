/-
  slices.Delete of one element, at weight.Way.
-/
import Derived.Test.YtcmkkfpcdebfkaaWt2
import Derived.Lib.SliceRun
namespace Go.Proofs.Ytcmkkfpcdebfkaa
open Go.RowKit

theorem OwnAt.shrinkD {w : World} {base : Nat} {e : TypeId} {size n cap k : Nat} {A : Option Addr} {xs : List Value} (h : OwnAt w base e size A n cap xs) (hk : k ≤ n) : OwnAt w base e size A k cap (xs.take (k * size)) := by
  have hks : k * size ≤ n * size := Nat.mul_le_mul_right _ hk
  refine ⟨by rw [List.length_take, h.1, Nat.min_eq_left hks], ?_⟩
  rcases h.2 with ⟨h0, h1, h2⟩ | ⟨g, o, cur, h1, h2, h3, h4, h5, h6, h7⟩
  · exact .inl ⟨h0, by omega, h2⟩
  · refine .inr ⟨g, o, cur, h1, h2, h3, by omega, h5, h6, ?_⟩
    rw [← h7, List.take_take, Nat.min_eq_left hks]
theorem OwnAt.setsPastD {base : Nat} {e : TypeId} {size n cap g o : Nat} {xs : List Value} : ∀ (vs : List Value) (j : Nat) (w : World), n * size ≤ j → OwnAt w base e size (some ⟨g, o, none⟩) n cap xs → OwnAt (w.setCells g (o + j) vs) base e size (some ⟨g, o, none⟩) n cap xs
  | [], _, _, _, h => h
  | v :: r, j, w, hj, h => by
    have h2 := h.set (j := j) v
    rw [List.set_eq_of_length_le (by rw [h.1]; exact hj)] at h2
    have := OwnAt.setsPastD r (j + 1) _ (by omega) h2
    rw [World.setCells]
    exact this
theorem Only.setsD {S : Nat → Prop} {a : World} {g : Nat} (hg : S g) : ∀ (vs : List Value) (o : Nat) (w : World), Only S a w → Only S a (w.setCells g o vs)
  | [], _, _, h => h
  | v :: r, o, w, h => by
    rw [World.setCells]
    exact Only.setsD hg r (o + 1) _ (h.set (p := ⟨g, o, none⟩) hg v)
theorem OwnAt.room {w : World} {base : Nat} {e : TypeId} {size n cap g o : Nat} {xs : List Value} (h : OwnAt w base e size (some ⟨g, o, none⟩) n cap xs) {j : Nat} (hj : j < cap * size) : (w.cell? ⟨g, o + j, none⟩).isSome = true := by
  rcases h.2 with ⟨h0, _⟩ | ⟨g', o', cur, hA, h1, h2, h3, h4, h5, h6⟩
  · cases h0
  · injection hA with hA
    injection hA with hg ho
    subst hg ho
    simp [World.cell?, h2]
    omega
/-- An append that has room: in place. -/
theorem run_append_in {P : Program} (w : World) (base : Nat) (t ty e : TypeId) (i : TypeInfo) (size : Nat) (ht : P.underlying t = some (.slice e)) (hi : P.info? e = some i) (hsize : i.size = size)
    (g o n cap : Nat) (xs : List Value) (hown : OwnAt w base e size (some ⟨g, o, none⟩) n cap xs)
    (a : Addr) (m c : Nat) (news : List Value) (hl : news.length = m * size) (hnews : ∀ j u, news[j]? = some u → w.cell? (a.add j) = some u) (h1 : ∀ u ∈ news, u.oneCell' = true) (hroom : n + m ≤ cap) :
    ∃ w', (Builtin.append_ #[t, t] ty #[.slice (some ⟨g, o, none⟩) n cap, .slice (some a) m c]).run P w = .ok (.slice (some ⟨g, o, none⟩) (n + m) cap) w' ∧ OwnAt w' base e size (some ⟨g, o, none⟩) (n + m) cap (xs ++ news) ∧ Only (· = g) w w' := by
  subst hsize
  have hlen : (xs ++ news).length = (n + m) * i.size := by rw [List.length_append, hown.1, hl, Nat.add_mul]
  rcases hown.2 with ⟨h0, _⟩ | ⟨g', o', cur, hA, h1', h2, h3, h4, h5, h6⟩
  · cases h0
  injection hA with hA
  injection hA with hg ho
  subst hg ho
  have hfit : o + n * i.size + news.length ≤ cur.size := by
    have : (n + m) * i.size ≤ cap * i.size := Nat.mul_le_mul_right _ hroom
    rw [hl]; rw [Nat.add_mul] at this; omega
  have hf := run_firstCells_some (P := P) w i.size m a m c news hl hnews
  have hst := run_storeCells_at P g (o + n * i.size) e news 0 cur w h2 (by omega) h1
  simp only [Nat.add_zero] at hst
  refine ⟨w.setRow g (cur.toList.take (o + n * i.size) ++ news ++ cur.toList.drop (o + n * i.size + news.length)).toArray, ?_, ⟨hlen, .inr ⟨g, o, _, rfl, h1', setRow_heap w g cur _ e _ h2, hroom, h4, ?_, ?_⟩⟩, ⟨rfl, rfl, rfl, by simp, fun k _ hk => setRow_other w g k _ hk⟩⟩
  · simp [Builtin.append_, run_underlying ht, sizeOf, typeInfo, hi, Builtin.lenOf, hroom, hf, Addr.add_lit, hst]
  · simp only [List.size_toArray, List.length_append, List.length_take, List.length_drop, Array.length_toList]
    omega
  · have hlo : o ≤ (cur.toList.take (o + n * i.size)).length := by rw [List.length_take, Array.length_toList]; omega
    rw [List.append_assoc, List.drop_append_of_le_length hlo, List.drop_take, show o + n * i.size - o = n * i.size by omega, h6, ← List.append_assoc, ← hlen]
    exact List.take_left
theorem OwnAt.tailsD {w : World} {base : Nat} {e : TypeId} {size n cap : Nat} {xs : List Value} {g o : Nat} (h : OwnAt w base e size (some ⟨g, o, none⟩) n cap xs) {k : Nat} (hk : k ≤ n) :
    ∃ o', (if cap = k then (some ⟨g, o, none⟩ : Option Addr) else some ⟨g, o + k * size, none⟩) = some ⟨g, o', none⟩ ∧ Row w w.heap.size (some ⟨g, o', none⟩) (xs.drop (k * size)) := by
  by_cases hc : cap = k
  · refine ⟨o, if_pos hc, ?_⟩
    have hcl := h.cap_le
    rw [List.drop_of_length_le (by rw [h.1]; exact Nat.mul_le_mul_right _ (by omega))]
    exact Row.nil
  · exact ⟨o + k * size, if_neg hc, (h.cut hk).row⟩
theorem Row.news {w : World} {B : Nat} {a : Addr} {xs : List Value} (h : Row w B (some a) xs) : ∀ j u, xs[j]? = some u → w.cell? (a.add j) = some u := by
  intro j u hu
  have hj : j < xs.length := (List.getElem?_eq_some_iff.1 hu).1
  obtain ⟨b, o, e, _, hc⟩ := h (by omega)
  injection e with e
  subst e
  rw [addr_add]
  exact hc j u hu
theorem zero_wy (w : World) : (zeroValue 95).run Try.prog w = .ok (wyV wyd) w := by kernel_rfl
theorem run_clear_wy (w : World) (ty : TypeId) (g o c : Nat) (hc : ∀ j, j < 4 → (w.cell? ⟨g, o + j, none⟩).isSome = true) (hf : ∀ j, j < 4 → w.frozen? ⟨g, o + j, none⟩ = false) :
    (Builtin.clear_ #[93] ty #[.slice (some ⟨g, o, none⟩) 1 c]).run Try.prog w = .ok (.tuple #[]) (w.setCells g o (wyC wyd)) := by
  have hst := run_storeCells_cells (P := Try.prog) g o (wyC wyd) 0 w (by simpa [wyC] using hc) (by simpa [wyC] using hf) (wy_one wyd)
  simp only [Nat.add_zero] at hst
  have hz : (Builtin.zeroCells (Value.agg #[.int .i64 0, .int .i64 0, .int .i64 0, .bool false]).cells 1).toList = wyC wyd := by kernel_rfl
  simp [Builtin.clear_, run_underlying Try.underlying93, hz, hst]

theorem step_append_in {P : Program} {w : World} {ops : Array Oper} {o : Oper} {a : Act} {K : Act → World → Prop} {Q : Exit → Act → World → Prop} {E : Prop} (hgd : o.guard = none) (s x : Operand) (t : TypeId)
    (ho : o.op = .call { callee := .builtin .append, args := #[s, x], argTypes := #[t, t] })
    (base : Nat) (e : TypeId) (i : TypeInfo) (size : Nat) (ht : P.underlying t = some (.slice e)) (hi : P.info? e = some i) (hsize : i.size = size)
    (g o1 n cap : Nat) (xs : List Value) (hs : a.eval s = .slice (some ⟨g, o1, none⟩) n cap) (hown : OwnAt w base e size (some ⟨g, o1, none⟩) n cap xs)
    (ad : Addr) (m c : Nat) (news : List Value) (hx : a.eval x = .slice (some ad) m c) (hl : news.length = m * size) (hnews : ∀ j u, news[j]? = some u → w.cell? (ad.add j) = some u) (h1 : ∀ u ∈ news, u.oneCell' = true) (hroom : n + m ≤ cap)
    (h : ∀ w', OwnAt w' base e size (some ⟨g, o1, none⟩) (n + m) cap (xs ++ news) → Only (· = g) w w' → K (a.put o.dst (.slice (some ⟨g, o1, none⟩) (n + m) cap)) w') :
    if Region.wanted o (yielded ops a.tmps) = true then Oper.wp P o a w K Q else E := by
  have hw : Region.wanted o (yielded ops a.tmps) = true := by simp [Region.wanted, hgd]
  rw [if_pos hw]
  obtain ⟨w', hr, h2, h3⟩ := run_append_in (P := P) w base t o.type e i size ht hi hsize g o1 n cap xs hown ad m c news hl hnews h1 hroom
  unfold Oper.wp execOp
  simp only [ho, resolve, invoke, builtin, Sem.run_bind, Sem.run_pure, Result.andThen_ok, List.map_toArray, List.map_cons, List.map_nil, hs, hx, hr]
  exact h w' h2 h3

set_option maxRecDepth 100000 in
set_option maxHeartbeats 1000000 in
theorem delete_wy (base g o cap i : Nat) (Y : List Wy) (w : World) (hown : OwnAt w base 95 4 (some ⟨g, o, none⟩) Y.length cap (flat wyC Y)) (hi : i < Y.length) :
    Calls Try.prog 143 #[.slice (some ⟨g, o, none⟩) Y.length cap, .int .i64 i, .int .i64 (i + 1 : Nat)] w fun e w' =>
      e = .returned (.slice (some ⟨g, o, none⟩) (Y.take i ++ Y.drop (i + 1)).length cap) ∧ OwnAt w' base 95 4 (some ⟨g, o, none⟩) (Y.take i ++ Y.drop (i + 1)).length cap (flat wyC (Y.take i ++ Y.drop (i + 1))) ∧ Only (· = g) w w' := by
  obtain ⟨i0, z0, hi0, hz0, hz1, hz2, hz3⟩ := wy_parts
  have hcap := hown.cap_le
  have hfr := hown.frozen
  obtain ⟨o', hrun, hrow⟩ := hown.tailsD (k := i + 1) (by omega)
  have hfd : (flat wyC Y).drop ((i + 1) * 4) = flat wyC (Y.drop (i + 1)) := (flat_drop wyC_len Y (i + 1)).symm
  have hft : (flat wyC Y).take (i * 4) = flat wyC (Y.take i) := (flat_take wyC_len Y i).symm
  rw [hfd] at hrow
  have hsh := hown.shrinkD (k := i) (by omega)
  rw [hft] at hsh
  obtain ⟨m, hm⟩ : ∃ m, Y.length = i + 1 + m := ⟨Y.length - (i + 1), by omega⟩
  have hla : (Y.take i).length = i := by rw [List.length_take]; omega
  have hlb : (Y.drop (i + 1)).length = m := by rw [List.length_drop]; omega
  rw [List.length_append, hla, hlb]
  generalize Y.take i = Ya at *
  generalize Y.drop (i + 1) = Yb at *
  rw [hm]
  rw [hm] at hcap
  have HSH := Lib.hid hsh
  have HRW := Lib.hid hrow.news
  have HLB : Hid ((flat wyC Yb).length = m * 4) := (flat_len wyC_len Yb).trans (by rw [hlb])
  have hcl : ∀ W, OwnAt W base 95 4 (some ⟨g, o, none⟩) (i + m) cap (flat wyC (Ya ++ Yb)) → ∀ ty, (Builtin.clear_ #[93] ty #[.slice (some ⟨g, o + (i + m) * 4, none⟩) 1 (cap - (i + m))]).run Try.prog W = .ok (.tuple #[]) (W.setCells g (o + (i + m) * 4) (wyC wyd)) := fun W hW ty =>
    run_clear_wy W ty g _ _ (fun j hj => by rw [Nat.add_assoc]; exact hW.room (by omega)) (fun j hj => by rw [Nat.add_assoc]; exact hW.frozen _)
  have HCL := Lib.hid hcl
  have HFA : Hid (flat wyC Ya ++ flat wyC Yb = flat wyC (Ya ++ Yb)) := (flat_append (enc := wyC) Ya Yb).symm
  unfold maxLen at hcap
  have q1 : (i : Int) ≤ ((i + 1 : Nat) : Int) := by omega
  have q2 : ((i + 1 : Nat) : Int) ≤ ((i + 1 + m : Nat) : Int) := by omega
  have b1 : ((i : Int) == ((i + 1 : Nat) : Int)) = false := by simp; omega
  have b2 : (i == i + 1) = false := by simp
  have q0 : (0 : Int) ≤ (i : Int) + 1 := by omega
  have q1' : (i : Int) ≤ (i : Int) + 1 := by omega
  have q2' : (i : Int) + 1 ≤ (i : Int) + 1 + (m : Int) := by omega
  have q3 : i + m ≤ i + 1 + m := by omega
  have q4 : i + 1 + m ≤ cap := by omega
  have q5 : i ≤ cap := by omega
  have q6 : i + 1 + m - (i + m) = 1 := by omega
  have hne : ¬ cap = i + m := by omega
  clear hown hsh hrow hcl hfd hft hm hla hlb hi
  go_enter Try.func143, Try.ntmps143
  go_wp2_with fail
  go_region_law (refine step_append_in rfl (.tmp 22) (.tmp 25) 93 rfl base 95 i0 4 Try.underlying93 hi0 hz1 g o i cap (flat wyC Ya) (by simp [Act.eval, Act.put]) HSH.out ⟨g, o', none⟩ m (cap - (i + 1)) (flat wyC Yb) (by simp [Act.eval, Act.put]) HLB.out HRW.out (wy_one_all _) (by omega) ?_; intro w1 hw1 ho1)
  rw [HFA.out] at hw1
  have hcc := HCL.out w1 hw1
  have HW := Lib.hid hw1
  have HO := Lib.hid (((Only.refl (· = g) w).drew).trans ho1)
  clear hw1 ho1
  go_wp2_with fail
  go_ret
  exact ⟨rfl, OwnAt.setsPastD _ _ _ (Nat.le_refl _) HW.out, Only.setsD (S := (· = g)) rfl _ _ _ HO.out⟩
end Go.Proofs.Ytcmkkfpcdebfkaa
