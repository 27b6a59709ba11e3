
/-
  cut: what All keeps: the cuts that it has seen, and those still to look at.
-/
import Derived.Test.YtgkckldflfalgaaCu4
namespace Go.Proofs.Ytgkckldflfalgaa
open Go.RowKit Go.Maps

theorem size_keysG {α : Type} {f : α → Lit} (hf : ∀ x y, f x = f y → x = y) {D : DataW Unit} {ks : List α} (hm : IsMap D) (hn : ks.Nodup) (h : ∀ y ∈ ks, D.atKey (f y) (.lit (.bool false)) = .lit (.bool true)) : ks.length ≤ Maps.size D := by
  classical
  obtain ⟨es, rfl⟩ := hm
  rw [size_eq]
  have h1 : (ks.map f).Nodup := by
    rw [List.Nodup, List.pairwise_map]
    exact hn.imp (fun hne e => hne (hf _ _ e))
  have h2 := nodup_lenC (ks.map f) (es.map (·.1)) h1 fun y hy => by
    obtain ⟨k, hk, rfl⟩ := List.mem_map.1 hy
    have h2 := h k hk
    unfold DataW.atKey at h2
    dsimp only at h2
    cases hf : es.find? fun p => p.1.sameKey (f k) with
    | none => rw [hf] at h2; cases h2
    | some p =>
      have h3 := List.find?_some (p := fun p : Lit × DataW Unit => p.1.sameKey (f k)) hf
      have h4 := WideAt.sameKey_eq h3
      exact List.mem_map.2 ⟨p, List.mem_of_find?_eq_some hf, h4⟩
  rw [List.length_map, List.length_map] at h2
  exact h2
def k8C (x : K8) : List Value := ints x.1
theorem k8C_len (x : K8) : (k8C x).length = 8 := by unfold k8C ints; rw [List.length_map]; exact x.2.1
theorem k8C_one (x : K8) : ∀ u ∈ k8C x, u.oneCell' = true := by
  intro u hu
  simp only [k8C, ints, List.mem_map] at hu
  obtain ⟨y, _, rfl⟩ := hu
  rfl
theorem arr_parts : ∃ i z, Try.prog.info? 36 = some i ∧ i.zero = some z ∧ i.size = 8 ∧ i.bytes = 64 ∧ z.cells.size = 8 := by
  have h : (Try.prog.info? 36).map (fun i => (i.size, i.bytes, i.zero.map fun z => z.cells.size)) = some (8, 64, some 8) := by kernel_rfl
  cases hi : Try.prog.info? 36 with
  | none => rw [hi] at h; cases h
  | some i =>
    rw [hi] at h
    simp only [Option.map_some, Option.some.injEq, Prod.mk.injEq] at h
    cases hz : i.zero with
    | none => rw [hz] at h; simp at h
    | some z =>
      rw [hz] at h
      simp only [Option.map_some, Option.some.injEq] at h
      exact ⟨i, z, rfl, hz, h.1, h.2.1, h.2.2⟩
theorem con_i64 {l : List Ev} {c : List Int} (hc : Con l c) (hl : l.length ≤ 200) : ∀ y ∈ c, I64 y := fun y hy => by
  obtain ⟨i, hi, rfl⟩ := List.getElem_of_mem hy
  have h8 := hc.len
  have h1 := hc.lo i (by omega)
  have h2 : (plF l (i : Int)).length ≤ l.length := List.length_filter_le _ _
  rw [List.getD_eq_getElem?_getD, List.getElem?_eq_getElem hi] at h1
  have h3 : 0 ≤ c[i] ∧ c[i] ≤ ((plF l (i : Int)).length : Int) := h1
  unfold I64
  omega
def kOf {l : List Ev} {c : List Int} (hc : Con l c) (hl : l.length ≤ 200) : K8 := ⟨c, hc.len, con_i64 hc hl⟩
def kut0 : K8 := ⟨cut0, by simp [cut0], fun y hy => by
  have : y = 0 := List.eq_of_mem_replicate hy
  subst this
  unfold I64
  decide⟩
def cutsF (ks : List K8) : List (List Int) := ks.map (·.1)
theorem cuts_has (ks : List K8) (x : K8) : ks.contains x = (cutsF ks).contains x.1 := by
  rw [Bool.eq_iff_iff]
  simp only [List.contains_iff_mem, cutsF, List.mem_map]
  exact ⟨fun h => ⟨x, h, rfl⟩, fun ⟨y, h, e⟩ => by rw [← Subtype.ext e]; exact h⟩
theorem cuts_nd {ks : List K8} (h : (cutsF ks).Nodup) : ks.Nodup := by
  unfold cutsF at h
  rw [List.Nodup, List.pairwise_map] at h
  exact h.imp fun hne e => hne (by rw [e])
structure AlSt (W w : World) (gm : Nat) (ks todo : List K8) (A : Option Addr) (cap : Nat) : Prop where
  bl : Below W.heap.size W w
  seen : SetB k8L Try.prog 36 4 w gm ks.length ks
  qu : OwnAt w W.heap.size 36 8 A todo.length cap (flat k8C todo)
  lo : W.heap.size ≤ gm
  qm : ∀ b, A.map (·.block) = some b → b ≠ gm
section
variable {W w w' : World} {gm cap cap' : Nat} {ks todo : List K8} {A A' : Option Addr}
theorem AlSt.below (h : AlSt W w gm ks todo A cap) (hb : Below w.heap.size w w') : AlSt W w' gm ks todo A cap :=
  ⟨h.bl.trans (hb.mono h.bl.size), h.seen.under hb, h.qu.below hb, h.lo, h.qm⟩
theorem AlSt.look (h : AlSt W w gm ks todo A cap) (x : K8) : (Instr.lookup 37 (.map (some gm)) (cutV x.1) false).run Try.prog w = .ok (.bool ((cutsF ks).contains x.1)) w := by
  have := h.seen.look eights_keyed Try.underlying37 Try.underlying4 (zero_boolS w) (eight_key x)
  rw [cuts_has] at this
  exact this
theorem AlSt.mark (h : AlSt W w gm ks todo A cap) (x : K8) (hl : ks.length ≤ 4000) : ∃ w', (Instr.mapUpdate 37 (.map (some gm)) (cutV x.1) (.bool true)).run Try.prog w = .ok () w' ∧ AlSt W w' gm (ks ++ [x]) todo A cap ∧ Only (fun b => b = gm) w w' := by
  obtain ⟨w', hrun, h1, h2⟩ := h.seen.put eights_keyed Try.underlying37 Try.underlying4 (show ks.length < maxLen by unfold maxLen; omega) k8L_inj k8L_key (eight_key x)
  have ho : Only (fun b => b = gm) w w' := (only_grownE h2).more (fun b e => by injection e with e; exact e.symm)
  refine ⟨w', hrun, ⟨ho.to_below h.bl h.bl.size (fun b hb => by rw [hb]; exact h.lo), ?_, h.qu.only ho (fun b hb e => h.qm b hb e), h.lo, h.qm⟩, ho⟩
  rw [List.length_append]
  exact h1
theorem AlSt.len (h : AlSt W w gm ks todo A cap) (hn : (cutsF ks).Nodup) (ty : TypeId) : (Builtin.len_ #[37] ty #[.map (some gm)]).run Try.prog w = .ok (.int .i64 (ks.length : Int)) w := by
  obtain ⟨D, h1, h2, h3⟩ := h.seen
  have e := h1.len Try.underlying37 ty
  have e1 := h1.size_le
  have e2 := size_keysG k8L_inj h2 (cuts_nd hn) fun y hy => by
    rw [h3 y]
    congr 2
    simpa using hy
  have e3 : Maps.size D = ks.length := by omega
  rw [e3] at e
  exact e
/-- The queue grown. -/
theorem AlSt.push (h : AlSt W w gm ks todo A cap) {todo' : List K8} (hg : w.grownBy w' (A.map (·.block))) (hq : OwnAt w' W.heap.size 36 8 A' todo'.length cap' (flat k8C todo')) (hA : ∀ b, A'.map (·.block) = some b → A.map (·.block) = some b ∨ w.heap.size ≤ b) : AlSt W w' gm ks todo' A' cap' := by
  have ho := only_grownE hg
  have hgm := h.seen.lt
  refine ⟨ho.to_below h.bl h.bl.size (fun b hb => (own_blkE h.qu hb).1), ?_, hq, h.lo, fun b hb => ?_⟩
  · exact h.seen.kept hg (fun e => h.qm gm e.symm rfl)
  · rcases hA b hb with e | e
    · exact h.qm b e
    · omega
/-- The queue cut at its head. -/
theorem AlSt.cut {u : K8} (h : AlSt W w gm ks (u :: todo) A cap) : ∃ A', (∀ w, (Instr.slice 33 (.slice A (todo.length + 1) cap) (some (.int .i64 1)) none none).run Try.prog w = .ok (.slice A' todo.length (cap - 1)) w) ∧ AlSt W w gm ks todo A' (cap - 1) := by
  obtain ⟨i0, z0, hi0, hz0, hz1, hz2, hz3⟩ := arr_parts
  obtain ⟨g, o, rfl, _⟩ := h.qu.some_of (by simp)
  have hq := h.qu
  obtain ⟨o', hrun, hcut⟩ := hq.tail (P := Try.prog) (t := 33) (i := i0) Try.underlying33 hi0 hz1 (by simp)
  have hfl : (flat k8C (u :: todo)).drop 8 = flat k8C todo := by
    show (k8C u ++ flat k8C todo).drop 8 = _
    rw [List.drop_append_of_le_length (by rw [k8C_len]; omega), List.drop_of_length_le (by rw [k8C_len]; omega)]
    rfl
  rw [hfl, List.length_cons, Nat.add_sub_cancel] at hcut
  refine ⟨some ⟨g, o', none⟩, fun w => by rw [← List.length_cons (a := u), hrun w, List.length_cons, Nat.add_sub_cancel], h.bl, h.seen, hcut, h.lo, fun b hb => h.qm b (by simpa using hb)⟩
/-- The cut at the queue's head. -/
theorem AlSt.head {u : K8} {g o : Nat} (h : AlSt W w gm ks (u :: todo) (some ⟨g, o, none⟩) cap) : w.rangeAt g o (ints u.1) := fun j v hv => by
  have h1 := h.qu.cells j v (by
    show (k8C u ++ flat k8C todo)[j]? = some v
    rw [List.getElem?_append_left (by rw [k8C_len]; have := (List.getElem?_eq_some_iff.1 hv).1; simp [ints] at this; have := u.2.1; omega)]
    exact hv)
  exact h1
end
theorem AlSt.made {W w9 : World} {gm : Nat} (hrun : (Instr.mapUpdate 37 (.map (some W.heap.size)) (cutV cut0) (.bool true)).run Try.prog (W.alloc (.map #[] 0)) = .ok () w9) (hgm : gm = W.heap.size) :
    AlSt W (w9.alloc (.cells (ints cut0).toArray 36)) gm [kut0] [kut0] (some ⟨w9.heap.size, 0, none⟩) 1 := by
  subst hgm
  have h0 : AlSt W (W.alloc (.map #[] 0)) W.heap.size [] [] none 0 := ⟨(Below.refl _ _).alloc (Nat.le_refl _) _, SetB.made W, OwnAt.nil, Nat.le_refl _, fun b hb => by cases hb⟩
  obtain ⟨w', hr, h1, _⟩ := h0.mark kut0 (by simp)
  have e : w' = w9 := by
    have hr2 : (Instr.mapUpdate 37 (.map (some W.heap.size)) (cutV cut0) (.bool true)).run Try.prog (W.alloc (.map #[] 0)) = .ok () w' := hr
    rw [hr2] at hrun
    injection hrun
  subst e
  have h2 := h1.below ((Below.refl w'.heap.size w').alloc (Nat.le_refl _) (.cells (ints cut0).toArray 36))
  have hlt := h1.seen.lt
  have hsz := h1.bl.size
  exact ⟨h2.bl, h2.seen, ⟨by simp [flat, k8C_len], .inr ⟨w'.heap.size, 0, (ints cut0).toArray, rfl, hsz, Box.new w' 36 (ints cut0).toArray, by simp, by unfold maxLen; simp, by simp [ints, cut0], by rfl⟩⟩, h2.lo, fun b hb => by simp at hb; subst hb; exact (by omega)⟩
end Go.Proofs.Ytgkckldflfalgaa
