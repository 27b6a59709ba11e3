/-
  Lines: the two ends as they begin; a body appended to all that were put.
-/
import Derived.Test.YtaecgapoaagjfaaLineX12
namespace Go.Proofs.Ytaecgapoaagjfaa
open Go.RowKit

def ls0 (n : Int) (q : Bool) : LS := ⟨n, n, 0, 0, [], [], false, n, 0, 0, 0, 0, [], [], false, q⟩
def lr0 : LR := ⟨none, 0, [], none, 0, [], none, 0, [], none, 0, []⟩
theorem line_alone (w : World) (n : Int) (m : Nat) (hm : w.heap.size ≤ m) : LineAt (w.alloc (.cells #[.int .i64 n, .int .i64 n, .int .u32 0, .int .u32 0, .slice none 0 0, .slice none 0 0, .bool false] 276)) w.heap.size w.heap.size m (ls0 n false) lr0 (fun b => if b = w.heap.size then 1 else 0) :=
  ⟨Box.new w 276 _, (fun h => by cases h), pendMk.nil, bodyMk.nil, bodyMk.nil, bodyMk.nil, if_pos rfl, (fun h => by cases h), (fun b hb => by cases hb), (fun b hb => by cases hb), (fun b hb => by cases hb), (fun b hb => by cases hb), Nat.le_refl _, hm⟩
theorem line_both (w : World) (n : Int) (B0 : Nat) (hB : B0 ≤ w.heap.size) : LineAt ((w.alloc (.cells #[.int .i64 n, .int .i64 n, .int .u32 0, .int .u32 0, .slice none 0 0, .slice none 0 0, .bool false] 276)).alloc (.cells #[.int .i64 n, .int .i64 n, .int .i64 0, .int .i64 0, .slice none 0 0, .int .i64 0, .int .i64 0, .slice none 0 0, .bool false] 88)) B0 w.heap.size (w.heap.size + 1) (ls0 n true) lr0 (fun b => if b = w.heap.size then 1 else if b = w.heap.size + 1 then 2 else 0) := by
  refine ⟨(Box.new w 276 _).alloc _, (fun _ => ?_), pendMk.nil, bodyMk.nil, bodyMk.nil, bodyMk.nil, if_pos rfl, (fun _ => ?_), (fun b hb => by cases hb), (fun b hb => by cases hb), (fun b hb => by cases hb), (fun b hb => by cases hb), hB, by omega⟩
  · have h1 := Box.new (w.alloc (.cells #[.int .i64 n, .int .i64 n, .int .u32 0, .int .u32 0, .slice none 0 0, .slice none 0 0, .bool false] 276)) 88 #[.int .i64 n, .int .i64 n, .int .i64 0, .int .i64 0, .slice none 0 0, .int .i64 0, .int .i64 0, .slice none 0 0, .bool false]
    rw [show (w.alloc (.cells #[.int .i64 n, .int .i64 n, .int .u32 0, .int .u32 0, .slice none 0 0, .slice none 0 0, .bool false] 276)).heap.size = w.heap.size + 1 by simp] at h1
    exact h1
  · show (if w.heap.size + 1 = w.heap.size then 1 else if w.heap.size + 1 = w.heap.size + 1 then 2 else 0) = 2
    rw [if_neg (by omega), if_pos rfl]
theorem rel_start (n : Int) (h1 : 1 ≤ n) (h2 : n ≤ 16) : LRel (ls0 n true) 0 :=
  ⟨h1, h2, rfl, by show (0 : Int) ≤ n; omega, h2, Int.le_refl _, Int.le_refl _, rfl, by show (0 : Int) ≤ n; omega, (fun i hi => absurd hi (by simp [ls0])), Int.le_refl _, Int.le_refl _, rfl, rfl, Int.le_refl _, Int.le_refl _, rfl, rfl, by show (0 : Int) ≤ n; omega, rfl, (fun x hx => by cases hx), Nat.le_refl _⟩

/-- One body appended, with what has turned. -/
theorem wpList_mk2_body {ops : Array Oper} {rest : List Oper} {o : Oper} {a : Act} {w : World} {Q : Exit → Act → World → Prop} (hgd : o.guard = none) (s x : Operand)
    (ho : o.op = .call { callee := .builtin .append, args := #[s, x], argTypes := #[74, 74] })
    (base : Nat) (S : Nat → Prop) (n : Nat) (A : Option Addr) (c m : Nat) (l : List BC) (vs : List Body) (hm : l.length = m) (hs : a.eval s = .slice A m c) (hmk : bodyMk w base S n A c l vs) (g : Nat) (y : BC) (v : Body) (hx : a.eval x = .slice (some ⟨g, 0, none⟩) 1 1) (hy : ∀ j u, (bodyC y)[j]? = some u → w.cell? ⟨g, j, none⟩ = some u)
    (hv : BIn w (Off S A) n y v)
    (hb : (m + 1) * 24 ≤ 140737488355328) (hbase : base ≤ w.heap.size)
    (h : ∀ A' c' w', bodyMk w' base S n A' c' (l ++ [y]) (vs ++ [v]) → Below base w w' → Only (fun b => A.map (·.block) = some b) w w' → (∀ b, A'.map (·.block) = some b → A.map (·.block) = some b ∨ w.heap.size ≤ b) → wpList Try.prog ops Q rest (a.put o.dst (.slice A' (m + 1) c')) w') : wpList Try.prog ops Q (o :: rest) a w := by
  subst hm
  obtain ⟨i0, z0, hi0, hz0, hz1, hz2, hz3⟩ := body_parts
  refine wpList_append_q hgd s x _ ho base 80 i0 z0 1 24 Try.underlying74 hi0 hz0 hz1 hz2 hz3 (by decide) A l.length c (flat bodyC l) hs hmk.2.1 ⟨g, 0, none⟩ 1 1 (bodyC y) hx rfl ?_ (body_one y) (by unfold maxLen; omega) hb hbase (by decide) ?_
  · intro j u hu
    rw [addr_add, Nat.zero_add]
    exact hy j u hu
  · intro g' o' c' w' h1 h2 h3
    have := hmk.push hbase hv h1 h2 h3
    exact h _ c' w' this.1 this.2 ⟨h2.os, h2.tape, h2.output, h2.size, fun i hi hne => h2.block i hi (fun e => hne e.symm)⟩ (fun b hb => by
      simp at hb
      subst hb
      rcases h3 with h3 | h3
      · exact .inl h3
      · exact .inr (by omega))
theorem one_byte (w : World) (b : UInt8) : BIn (w.alloc (.cells #[.int .u8 (b.toNat : Int)] 5)) (fun _ => True) 0 ⟨some ⟨w.heap.size, 0, none⟩, 1, 1⟩ [b] := by
  refine ⟨rfl, fun _ => ⟨w.heap.size, 0, rfl, trivial, fun i v hv => ?_⟩, Nat.le_refl _, (by decide : (1 : Nat) ≤ maxLen), fun e => by cases e⟩
  rw [Nat.zero_add, (Box.new w 5 #[.int .u8 (b.toNat : Int)]).cell i, ← hv]
  simp [u8s]
theorem OutAt.first {w : World} {B0 B1 g m : Nat} {s : LS} {A : Option Addr} {c : Nat} {l : List KC} {p : Pkt} (h : OutAt w B0 B1 g m s A c l [p]) (hl : l.length ≤ 16) :
    ∃ b o, A = some ⟨b, o, none⟩ ∧ w.cell? ⟨b, o, none⟩ = some (.int .u32 p.seq) ∧ w.cell? ⟨b, o + 2, none⟩ = some (.bool p.has) ∧ l.length = 1 := by
  have hr := h.row hl
  have h1 : l.length = 1 := hr.1
  obtain ⟨b, o, e, _, x0, _, x2, _, _⟩ := hr.2.1.all.lpk (i := 0) (by omega) kc0
  have hk := hr.2.2.1 0 (by omega)
  rw [hk.1.1] at x0
  rw [hk.1.2.2.1] at x2
  exact ⟨b, o, e, x0, x2, h1⟩
end Go.Proofs.Ytaecgapoaagjfaa
