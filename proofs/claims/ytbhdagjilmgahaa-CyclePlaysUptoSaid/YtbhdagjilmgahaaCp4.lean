
/-
  CyclePlays: rows appended to a row of the call's own, none or many; the law's first node.
-/
import Derived.Test.YtbhdagjilmgahaaCp3
namespace Go.Proofs.Ytbhdagjilmgahaa
open Go.RowKit

/-- Elements of one cell, or none, appended to a row of the call's own. -/
theorem wpList_append_v {P : Program} {ops : Array Oper} {rest : List Oper} {o : Oper} {a : Act} {w : World} {Q : Exit → Act → World → Prop} (hgd : o.guard = none) (s x : Operand) (t : TypeId)
    (ho : o.op = .call { callee := .builtin .append, args := #[s, x], argTypes := #[t, t] })
    (base : Nat) (e : TypeId) (i : TypeInfo) (z : Value) (bytes : Nat) (ht : P.underlying t = some (.slice e)) (hi : P.info? e = some i) (hz : i.zero = some z) (hsize : i.size = 1) (hby : i.bytes = bytes) (hzs : z.cells.size = 1)
    (A : Option Addr) (n c : Nat) (vs : List Value) (hn : vs.length = n) (hs : a.eval s = .slice A n c) (hown : OwnAt w base e 1 A n c vs)
    (A1 : Option Addr) (m c1 B : Nat) (ys : List Value) (hm : ys.length = m) (hx : a.eval x = .slice A1 m c1) (hr : Row w B A1 ys) (h1 : ∀ u ∈ ys, u.oneCell' = true)
    (h63 : n + m ≤ 4398046511104) (hbytes : bytes ≤ 32) (hbase : base ≤ w.heap.size)
    (h : ∀ A' c' w', OwnAt w' base e 1 A' (n + m) c' (vs ++ ys) → w.grownBy w' (A.map (·.block)) → (∀ b, A'.map (·.block) = some b → A.map (·.block) = some b ∨ w.heap.size ≤ b) → wpList P ops Q rest (a.put o.dst (.slice A' (n + m) c')) w') : wpList P ops Q (o :: rest) a w := by
  subst hn hm
  by_cases hp : 0 < ys.length
  · obtain ⟨b, off, rfl, _, hc⟩ := hr hp
    refine wpList_append_q hgd s x t ho base e i z 1 bytes ht hi hz hsize hby hzs (by decide) A vs.length c vs hs hown ⟨b, off, none⟩ ys.length c1 ys hx (by omega) (fun j u hu => ?_) h1 (by unfold maxLen; omega) (Nat.le_trans (Nat.mul_le_mul h63 hbytes) (by decide)) hbase hp ?_
    · rw [addr_add]
      exact hc j u hu
    · intro g' o' c' w' h2 h3 h4
      refine h (some ⟨g', o', none⟩) c' w' h2 h3 (fun g hg => ?_)
      simp at hg
      subst hg
      exact h4.imp id (fun e => Nat.le_of_eq e.symm)
  · have hy : ys = [] := List.eq_nil_of_length_eq_zero (by omega)
    subst hy
    refine wpList_plain hgd fun K hK => ?_
    have hrun := run_append_q0 (P := P) w t o.type e i ht hi A vs.length c hown.cap_le.1 A1 c1
    unfold Oper.wp execOp
    simp only [ho, resolve, invoke, builtin, Sem.run_bind, Sem.run_pure, Result.andThen_ok, List.map_toArray, List.map_cons, List.map_nil, hs, hx, List.length_nil, hrun]
    have h2 := h A c w (by rw [List.append_nil]; exact hown) ⟨rfl, rfl, rfl, Nat.le_refl _, fun _ _ _ => rfl⟩ (fun _ h => .inl h)
    rw [List.length_nil, Nat.add_zero] at h2
    exact hK _ _ h2
theorem slZ_one (l : List SlZ) : ∀ u ∈ flat slZ l, u.oneCell' = true := by
  intro u hu
  simp only [flat, List.mem_flatMap] at hu
  obtain ⟨x, _, hx⟩ := hu
  simp only [slZ, List.mem_singleton] at hx
  subst hx
  rfl
/-- A box of the call's own is a row of its own. -/
theorem own_box {w : World} {g base : Nat} {e : TypeId} {vs : List Value} (h : Box w g e vs.toArray) (hb : base ≤ g) (hm : vs.length ≤ maxLen) : OwnAt w base e 1 (some ⟨g, 0, none⟩) vs.length vs.length vs :=
  ⟨by omega, .inr ⟨g, 0, vs.toArray, rfl, hb, h, by simp, by simpa using hm, by simp, by simp⟩⟩

/-! ### the first node -/
def K1 (g : Nat) : List KnC := [⟨3, true, false, some ⟨g, 0, none⟩, 1, [9]⟩]
theorem k1_knows (g : Nat) : knowsF (K1 g) = 0 := by
  unfold knowsF
  rw [if_neg (by simp [K1]), if_pos (by simp [K1])]
theorem row_boxC {w : World} {g B : Nat} {xs : List Int} (h : Box w g 3 (ints xs).toArray) (hB : g < B) : Row w B (some ⟨g, 0, none⟩) (ints xs) := fun _ =>
  ⟨g, 0, rfl, hB, fun i v hv => by rw [Nat.zero_add, h.cell i, ← hv]; simp⟩
theorem k1_in {w : World} {g1 g3 : Nat} (h1 : Box w g1 3 #[.int .i64 9]) (h3 : Box w g3 28 #[.int .i64 3, .bool true, .bool false, .slice (some ⟨g1, 0, none⟩) 1 1]) :
    KnIn w w.heap.size (some ⟨g3, 0, none⟩) (K1 g1) where
  row := fun _ => ⟨g3, 0, rfl, h3.lt, fun i v hv => by rw [Nat.zero_add, h3.cell i, ← hv, show flat knC (K1 g1) = [.int .i64 3, .bool true, .bool false, .slice (some ⟨g1, 0, none⟩) 1 1] from rfl]; simp⟩
  refs := fun x hx => by
    simp only [K1, List.mem_cons, List.not_mem_nil, or_false] at hx
    subst hx
    exact ⟨row_boxC (xs := [9]) h1 h1.lt, Nat.le_refl 1, (by show 1 ≤ maxLen; unfold maxLen; decide), fun e => by cases e⟩
  k64 := fun x hx => by
    simp only [K1, List.mem_cons, List.not_mem_nil, or_false] at hx
    subst hx
    unfold I64
    simp
  all := by simp [allR, K1]
theorem k1_told {g : Nat} {M told : List Int} (hM : ∀ y, y ∈ M ↔ Rch (K1 g) y) (ht : TolK (K1 g) M told) (hn : told.Nodup) : srtI told = [9] := by
  have h9 : srtI [9] = [9] := sorted_unique (srtI_perm _) (srtI_sorted _) (by simp)
  have hr : refsF (K1 g) 3 = [9] := by rfl
  rw [← h9]
  refine srtI_set hn (by simp) fun y => ?_
  rw [ht y]
  constructor
  · rintro ⟨_, r, hr1, hr2⟩
    have h1 := rch_own ((hM r).1 hr1)
    have h3 : r = 3 := by
      unfold ownF K1 at h1
      simpa using h1
    subst h3
    rw [hr] at hr2
    exact hr2
  · intro h
    obtain rfl := List.mem_singleton.1 h
    refine ⟨by simp [ownF, K1], 3, (hM 3).2 (Rch.live 0 (by simp [K1]) rfl), ?_⟩
    rw [hr]
    exact h
end Go.Proofs.Ytbhdagjilmgahaa
