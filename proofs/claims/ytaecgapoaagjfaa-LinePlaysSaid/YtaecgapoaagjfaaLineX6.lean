/-
  One end: what goes out.
-/
import Derived.Test.YtaecgapoaagjfaaLineX5
namespace Go.Proofs.Ytaecgapoaagjfaa
open Go.RowKit

/-- One packet appended, with what has turned. -/
theorem wpList_mk2_lpk {ops : Array Oper} {rest : List Oper} {o : Oper} {a : Act} {w : World} {Q : Exit → Act → World → Prop} (hgd : o.guard = none) (s x : Operand)
    (ho : o.op = .call { callee := .builtin .append, args := #[s, x], argTypes := #[81, 81] })
    (base : Nat) (S : Nat → Prop) (n : Nat) (A : Option Addr) (c m : Nat) (l : List KC) (vs : List Pkt) (hm : l.length = m) (hs : a.eval s = .slice A m c) (hmk : lpkMk w base S n A c l vs) (g : Nat) (y : KC) (v : Pkt) (hx : a.eval x = .slice (some ⟨g, 0, none⟩) 1 1) (hy : ∀ j u, (lpkC y)[j]? = some u → w.cell? ⟨g, j, none⟩ = some u)
    (hv : KIn w (Off S A) n y v)
    (hb : (m + 1) * 48 ≤ 140737488355328) (hbase : base ≤ w.heap.size)
    (h : ∀ A' c' w', lpkMk w' base S n A' c' (l ++ [y]) (vs ++ [v]) → Below base w w' → Only (fun b => A.map (·.block) = some b) w w' → (∀ b, A'.map (·.block) = some b → A.map (·.block) = some b ∨ w.heap.size ≤ b) → wpList Try.prog ops Q rest (a.put o.dst (.slice A' (m + 1) c')) w') : wpList Try.prog ops Q (o :: rest) a w := by
  subst hm
  obtain ⟨i0, z0, hi0, hz0, hz1, hz2, hz3⟩ := lpk_parts
  refine wpList_append_q hgd s x _ ho base 85 i0 z0 5 48 Try.underlying81 hi0 hz0 hz1 hz2 hz3 (by decide) A l.length c (flat lpkC l) hs hmk.2.1 ⟨g, 0, none⟩ 1 1 (lpkC y) hx rfl ?_ (lpk_one y) (by unfold maxLen; omega) hb hbase (by decide) ?_
  · intro j u hu
    rw [addr_add, Nat.zero_add]
    exact hy j u hu
  · intro g' o' c' w' h1 h2 h3
    have := hmk.push hbase hv h1 h2 h3
    exact h _ c' w' this.1 this.2 ⟨h2.os, h2.tape, h2.output, h2.size, fun i hi hne => h2.block i hi (fun e => hne e.symm)⟩ (fun b hb => by
      simp at hb
      subst hb
      rcases h3 with h3 | h3
      · exact .inl h3
      · exact .inr (by omega))

/-- The first k are sent. -/
def sentTo (Q : List (Body × Bool)) (k : Nat) : List (Body × Bool) := (Q.take k).map (fun x => (x.1, true)) ++ Q.drop k
theorem sentTo_zero (Q : List (Body × Bool)) : sentTo Q 0 = Q := by simp [sentTo]
theorem sentTo_len (Q : List (Body × Bool)) (k : Nat) : (sentTo Q k).length = Q.length := by simp [sentTo]; omega
theorem sentTo_getD (Q : List (Body × Bool)) (k : Nat) (hk : k < Q.length) : (sentTo Q k).getD k ([], false) = Q.getD k ([], false) := by
  unfold sentTo
  have h1 : ((Q.take k).map (fun x => (x.1, true))).length = k := by simp; omega
  simp only [List.getD_eq_getElem?_getD]
  rw [List.getElem?_append_right (by omega), h1, Nat.sub_self]
  simp
theorem sentTo_succ (Q : List (Body × Bool)) (k : Nat) (hk : k < Q.length) : (sentTo Q k).set k (((sentTo Q k).getD k ([], false)).1, true) = sentTo Q (k + 1) := by
  rw [sentTo_getD Q k hk]
  unfold sentTo
  have h1 : ((Q.take k).map (fun x => (x.1, true))).length = k := by simp; omega
  rw [List.set_append_right _ _ (by omega), h1, Nat.sub_self, drop_getD Q ([], false) hk, take_getD Q ([], false) hk, List.map_append, List.append_assoc]
  rfl
theorem sentTo_same (Q : List (Body × Bool)) (k : Nat) (hk : k < Q.length) (h : (Q.getD k ([], false)).2 = true) : sentTo Q (k + 1) = sentTo Q k := by
  unfold sentTo
  rw [drop_getD Q ([], false) hk, take_getD Q ([], false) hk, List.map_append, List.append_assoc]
  congr 1
  show [((Q.getD k ([], false)).1, true)] ++ _ = _
  rw [← h]
  rfl
/-- The packets of the first k. -/
def outP (s : LS) : Nat → List Pkt
  | 0 => []
  | k + 1 => outP s k ++ (if (s.Q.getD k ([], false)).2 = true then [] else [⟨u32 (s.base + k), s.want, true, s.win - s.I.length, (s.Q.getD k ([], false)).1⟩])
theorem outP_len (s : LS) : ∀ k, (outP s k).length ≤ k
  | 0 => Nat.le_refl _
  | k + 1 => by
    have := outP_len s k
    rw [outP, List.length_append]
    split <;> simp <;> omega
/-- The packet that only acknowledges. -/
def ackP (s : LS) : Pkt := ⟨u32 (s.base + s.Q.length), s.want, false, s.win - s.I.length, []⟩
def outX (s : LS) : List Pkt :=
  let l := outP s (min s.lim.toNat s.Q.length)
  if l = [] ∧ s.due = true then [ackP s] else l

/-- What a row's blocks are labelled behind a push of packets. -/
def lab8 (f : Nat → Nat) (n : Nat) (A : Option Addr) (b : Nat) : Nat := if A.map (·.block) = some b then 7 else if b < n then f b else 8
theorem lab8_old {f : Nat → Nat} {n : Nat} {A : Option Addr} {b : Nat} (hA : ∀ b, blk A b → f b = 7 ∨ n ≤ b) (h : b < n) : lab8 f n A b = f b := by
  unfold lab8
  by_cases e : A.map (·.block) = some b
  · rw [if_pos e]
    rcases hA b e with h1 | h1
    · exact h1.symm
    · omega
  · rw [if_neg e, if_pos h]
/-- Both ends, and the packets so far. -/
structure OutAt (w : World) (B0 B1 g m : Nat) (s : LS) (A : Option Addr) (c : Nat) (l : List KC) (vs : List Pkt) : Prop where
  size : B1 ≤ w.heap.size
  le : B0 ≤ B1
  ex : ∃ r f, LineAt w B0 g m s r f ∧ lpkMk w B1 (fun b => B1 ≤ b ∧ f b = 8) 0 A c l vs ∧ ∀ b, blk A b → f b = 7
section
variable {w w' : World} {B0 B1 g m : Nat} {s : LS} {A : Option Addr} {c : Nat} {l : List KC} {vs : List Pkt}
theorem OutAt.row (h : OutAt w B0 B1 g m s A c l vs) (hl : l.length ≤ 16) : lpkRow w (B1 ≤ ·) 0 A c l vs := by
  obtain ⟨r, f, h1, h2, h3⟩ := h.ex
  exact (h2.row (by unfold reachBytes; omega)).keep (fun _ _ => rfl) (fun b hb => by
    rcases hb with hb | hb
    · exact hb.1
    · exact hb)
/-- New blocks bear 8. -/
def lab1 (f : Nat → Nat) (n : Nat) (b : Nat) : Nat := if b < n then f b else 8
theorem lab1_old {f : Nat → Nat} {n b : Nat} (h : b < n) : lab1 f n b = f b := by unfold lab1; rw [if_pos h]
theorem lab1_new {f : Nat → Nat} {n b : Nat} (h : n ≤ b) : lab1 f n b = 8 := by unfold lab1; rw [if_neg (by omega)]
variable {r : LR} {f : Nat → Nat}
theorem LineAt.pre (h : LineAt w B0 g m s r f) (hb : Below w.heap.size w w') : LineAt w' B0 g m s r (lab1 f w.heap.size) := h.keep (Only.of_below hb) fun _ hl => lab1_old hl
theorem LineAt.preMk (_h : LineAt w B0 g m s r f) (hmk : lpkMk w B1 (fun b => B1 ≤ b ∧ f b = 8) 0 A c l vs) (hb : Below w.heap.size w w') : lpkMk w' B1 (fun b => B1 ≤ b ∧ lab1 f w.heap.size b = 8) 0 A c l vs :=
  hmk.only (Only.of_below (S := fun _ => False) hb) (fun _ _ h => h) (fun b hb hl => ⟨fun h => h, hb.1, by rw [lab1_old hl]; exact hb.2⟩)
theorem LineAt.preK (_h : LineAt w B0 g m s r f) (hmk : lpkMk w B1 (fun b => B1 ≤ b ∧ f b = 8) 0 A c l vs) (hB : B1 ≤ w.heap.size) {y : KC} {v : Pkt} (hv : KIn w' (w.heap.size ≤ ·) 0 y v) : KIn w' (Off (fun b => B1 ≤ b ∧ lab1 f w.heap.size b = 8) A) 0 y v :=
  hv.keep (fun _ _ => rfl) fun b hp => by
    have h1 : w.heap.size ≤ b := hp
    exact ⟨⟨by omega, lab1_new h1⟩, fun e => by
      have := blk_lt hmk.2.1 (show blk A b from e)
      omega⟩
theorem LineAt.post (h : LineAt w B0 g m s r f) (hA : ∀ b, blk A b → f b = 7) (hB0 : B0 ≤ B1) (hB : B1 ≤ w.heap.size) {A' : Option Addr} {c' : Nat} {l' : List KC} {vs' : List Pkt} (hmk : lpkMk w' B1 (fun b => B1 ≤ b ∧ f b = 8) 0 A' c' l' vs') (ho : Only (fun b => A.map (·.block) = some b) w w') (hA' : ∀ b, A'.map (·.block) = some b → A.map (·.block) = some b ∨ w.heap.size ≤ b) : OutAt w' B0 B1 g m s A' c' l' vs' := by
  refine ⟨Nat.le_trans hB ho.size, hB0, r, fun b => if A'.map (·.block) = some b then 7 else f b, h.keep (ho.more fun b hb => by rw [hA b hb]; omega) (fun b hl => ?_), ⟨hmk.1, hmk.2.1, fun i hi => (hmk.2.2 i hi).keep (fun _ _ => rfl) (fun b hp => ⟨⟨hp.1.1, ?_⟩, hp.2⟩)⟩, fun b hb => ?_⟩
  · by_cases e : A'.map (·.block) = some b
    · simp only [if_pos e]
      rcases hA' b e with h1 | h1
      · exact (hA b h1).symm
      · omega
    · simp only [if_neg e]
  · show (if A'.map (·.block) = some b then 7 else f b) = 7
    rw [if_pos (show A'.map (·.block) = some b from hb)]
  · show (if A'.map (·.block) = some b then 7 else f b) = 8
    rw [if_neg hp.2]
    exact hp.1.2
theorem OutAt.due0 (h : OutAt w B0 B1 g m s A c l vs) : OutAt (w.setCell ⟨g, 6, none⟩ (.bool false)) B0 B1 g m { s with due := false } A c l vs := by
  obtain ⟨r, f, h1, h2, h3⟩ := h.ex
  have ho : Only (fun b => f b = 1) w (w.setCell ⟨g, 6, none⟩ (.bool false)) := (Only.refl (fun b => f b = 1) w).set (p := ⟨g, 6, none⟩) h1.fg _
  exact ⟨Nat.le_trans h.size ho.size, h.le, r, f, h1.xcell 6 (.bool false) rfl rfl rfl rfl rfl rfl, h2.only ho (fun b hb => by rw [h3 b hb]; omega) (fun b hb _ => ⟨by rw [hb.2]; omega, hb⟩), h3⟩
end
end Go.Proofs.Ytaecgapoaagjfaa
