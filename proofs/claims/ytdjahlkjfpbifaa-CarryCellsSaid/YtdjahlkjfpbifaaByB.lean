
/-
  Bytes of the call's own: what they read as; one byte appended.
-/
import Derived.Test.YtdjahlkjfpbifaaOwnOnly
import Derived.Laws.BitsAllLaws
import Derived.Laws.IdiomStrings
import Derived.IntWalk
import Derived.Outline
import Derived.Deep.LoopGhost
namespace Go.Proofs.Ytdjahlkjfpbifaa
open Go.RowKit

def by8 (xs : List UInt8) : List Value := xs.map fun b => Value.int .u8 (b.toNat : Int)
theorem by8_len (xs : List UInt8) : (by8 xs).length = xs.length := by simp [by8]
theorem by8_append (xs ys : List UInt8) : by8 (xs ++ ys) = by8 xs ++ by8 ys := by simp [by8]
theorem Row.by8 {w : World} {B : Nat} {A : Option Addr} {xs : List UInt8} (h : Row w B A (by8 xs)) {i : Nat} (hi : i < xs.length) :
    ∃ b o, A = some ⟨b, o, none⟩ ∧ b < B ∧ w.cell? ⟨b, o + i, none⟩ = some (.int .u8 ((xs.getD i 0).toNat : Int)) := by
  obtain ⟨b, o, e, hb, hc⟩ := h.at (i := i) (by rw [by8_len]; exact hi)
  exact ⟨b, o, e, hb, by rw [hc]; simp [Go.Proofs.Ytdjahlkjfpbifaa.by8, hi]⟩
theorem by8_info : (Try.prog.info? 5).map (fun i => (i.zero, i.size, i.bytes)) = some (some (.int .u8 0), 1, 1) := by kernel_rfl

/-- What lies at A grew, and lies at A' now; nothing else turned. -/
structure Grew (A A' : Option Addr) (w w' : World) : Prop where
  only : Only (fun b => A.map (·.block) = some b) w w'
  at' : ∀ b, A'.map (·.block) = some b → A.map (·.block) = some b ∨ w.heap.size ≤ b
theorem Grew.refl (A : Option Addr) (w : World) : Grew A A w w := ⟨Only.refl _ _, fun _ h => .inl h⟩
theorem Grew.trans {A A1 A2 : Option Addr} {w w1 w2 : World} (h : Grew A A1 w w1) (k : Grew A1 A2 w1 w2) : Grew A A2 w w2 := by
  refine ⟨⟨k.only.os.trans h.only.os, k.only.tape.trans h.only.tape, k.only.output.trans h.only.output, Nat.le_trans h.only.size k.only.size, fun i hi hne => ?_⟩, fun b hb => ?_⟩
  · refine (k.only.block i (Nat.lt_of_lt_of_le hi h.only.size) fun hb => ?_).trans (h.only.block i hi hne)
    rcases h.at' i hb with h1 | h1
    · exact hne h1
    · omega
  · rcases k.at' b hb with h1 | h1
    · exact h.at' b h1
    · exact .inr (Nat.le_trans h.only.size h1)
theorem Grew.alloc {A A' : Option Addr} {w w' : World} (h : Grew A A' w w') (o : Obj) : Grew A A' w (w'.alloc o) := ⟨h.only.alloc o, h.at'⟩
theorem Grew.push {A : Option Addr} {w w' : World} {g o : Nat} (hg : w.grownBy w' (A.map (·.block))) (hb : A.map (·.block) = some g ∨ g = w.heap.size) : Grew A (some ⟨g, o, none⟩) w w' :=
  ⟨⟨hg.os, hg.tape, hg.output, hg.size, fun i hi hne => hg.block i hi (fun e => hne e.symm)⟩, fun b e => by
    simp at e
    subst e
    rcases hb with hb | hb
    · exact .inl hb
    · exact .inr (by omega)⟩
theorem Grew.from_alloc {A A' : Option Addr} {w w' : World} {ob : Obj} (h : Grew A A' (w.alloc ob) w') : Grew A A' w w' :=
  ⟨((Only.refl _ w).alloc ob).trans h.only, fun b hb => by
    rcases h.at' b hb with h1 | h1
    · exact .inl h1
    · exact .inr (by simp at h1; omega)⟩
theorem Grew.below {A A' : Option Addr} {w w' W : World} {base : Nat} (h : Grew A A' w w') (hb : Below base W w) (hB : base ≤ w.heap.size) (hA : ∀ b, A.map (·.block) = some b → base ≤ b) : Below base W w' := h.only.to_below hb hB hA

/-- Bytes of the call's own. -/
abbrev ByOwn (w : World) (base : Nat) (A : Option Addr) (c : Nat) (xs : List UInt8) : Prop := OwnAt w base 5 1 A xs.length c (by8 xs)
theorem ByOwn.blk {w : World} {base : Nat} {A : Option Addr} {c : Nat} {xs : List UInt8} (h : ByOwn w base A c xs) : ∀ b, A.map (·.block) = some b → base ≤ b ∧ b < w.heap.size := by
  intro b hb
  rcases h.form with ⟨rfl, _⟩ | ⟨g, o, rfl⟩
  · cases hb
  · simp at hb
    subst hb
    exact h.lt

/-- One byte appended. -/
theorem wpList_push_by {ops : Array Oper} {rest : List Oper} {o : Oper} {a : Act} {w : World} {Q : Exit → Act → World → Prop} (hgd : o.guard = none) (s x : Operand)
    (ho : o.op = .call { callee := .builtin .append, args := #[s, x], argTypes := #[200, 200] })
    (base : Nat) (A : Option Addr) (c : Nat) (xs : List UInt8) (hs : a.eval s = .slice A xs.length c) (hown : ByOwn w base A c xs) (g : Nat) (y : UInt8) (hx : a.eval x = .slice (some ⟨g, 0, none⟩) 1 1) (hy : w.cell? ⟨g, 0, none⟩ = some (.int .u8 (y.toNat : Int)))
    (hb : xs.length + 1 ≤ 140737488355328) (hbase : base ≤ w.heap.size)
    (h : ∀ g' o' c' w', ByOwn w' base (some ⟨g', o', none⟩) c' (xs ++ [y]) → Grew A (some ⟨g', o', none⟩) w w' → wpList Try.prog ops Q rest (a.put o.dst (.slice (some ⟨g', o', none⟩) (xs ++ [y]).length c')) w') : wpList Try.prog ops Q (o :: rest) a w := by
  obtain ⟨i0, hi0, hz0, hz1, hz2⟩ := info_parts by8_info
  refine wpList_append_q hgd s x _ ho base 5 i0 (.int .u8 0) 1 1 Try.underlying200 hi0 hz0 hz1 hz2 rfl (by decide) A xs.length c (by8 xs) hs hown ⟨g, 0, none⟩ 1 1 [.int .u8 (y.toNat : Int)] hx rfl ?_ ?_ (by unfold maxLen; omega) (by omega) hbase (by decide) ?_
  · intro j u hu
    match j, hu with
    | 0, hu =>
      simp at hu
      subst hu
      simpa [Addr.add] using hy
    | j + 1, hu => simp at hu
  · intro u hu
    simp at hu
    subst hu
    rfl
  · intro g' o' c' w' h1 h2 h3
    have e1 : (xs ++ [y]).length = xs.length + 1 := by simp
    have e2 : by8 xs ++ [.int .u8 (y.toNat : Int)] = by8 (xs ++ [y]) := by rw [by8_append]; rfl
    rw [e2] at h1
    rw [← e1] at h1
    have := h g' o' c' w' h1 (Grew.push h2 h3)
    rwa [e1] at this

set_option maxRecDepth 100000 in
theorem by8_string (A : Option Addr) (c B : Nat) (bs : List UInt8) (w : World) (h : Row w B A (by8 bs)) : (convert 200 9 (.slice A bs.length c)).run Try.prog w = .ok (.string ⟨bs.toArray⟩) w := by
  rcases A with _ | ⟨b, o, sp⟩
  · have hb0 : bs = [] := by
      rcases bs with _ | ⟨x, r⟩
      · rfl
      · obtain ⟨b, o, e, _⟩ := h (by simp [by8])
        cases e
    subst hb0
    show (convert 200 9 (.slice none 0 c)).run Try.prog w = _
    rw [run_convert_bytes_string w _ _ 5 none 0 c Try.underlying200 Try.underlying5 Try.underlying9]
    rfl
  · by_cases hp : 0 < bs.length
    · obtain ⟨b', o', e, _, hc⟩ := h (by rw [by8_len]; exact hp)
      injection e with e
      injection e with e1 e2 e3
      subst e1 e2 e3
      exact run_convert_bytes_back w _ _ 5 ⟨b, o, none⟩ c bs Try.underlying200 Try.underlying5 Try.underlying9 (fun j hj => by
        rw [addr_add]
        exact hc j _ (by simp [by8, hj]))
    · have hb0 : bs = [] := List.eq_nil_of_length_eq_zero (by omega)
      subst hb0
      exact run_convert_bytes_back w _ _ 5 ⟨b, o, sp⟩ c [] Try.underlying200 Try.underlying5 Try.underlying9 (fun j hj => by simp at hj)

end Go.Proofs.Ytdjahlkjfpbifaa
