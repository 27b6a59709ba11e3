
/-
  A map cleared; rows joined in memory of their own; the law's state.
-/
import Derived.Test.YtdjahlkjfpbifaaCa5
import Derived.Test.YtdjahlkjfpbifaaCa4
import Derived.Maps.OwnSet
namespace Go.Proofs.Ytdjahlkjfpbifaa
open Go.RowKit Go.Maps Go.WideMaps Go.MapKept
open Go.ChangeMaps (setBlock heap_setBlock_same)

theorem MapV.clear {α : Type} {f : α → Lit} {P : Program} {k : TypeId} {w : World} {b n : Nat} {F : α → Option Value} {t e : TypeId} (h : MapV f P k w b n F) (ht : P.underlying t = some (.map k e)) :
    ∃ w', (∀ ty : TypeId, (Builtin.clear_ #[t] ty #[.map (some b)]).run P w = .ok (.tuple #[]) w') ∧ MapV f P k w' b 0 (fun _ => none) ∧ w.grownBy w' (some b) := by
  obtain ⟨D, ⟨es, clock, hb, F0, hs, rfl⟩, _⟩ := h
  have hT : w.mapTurned (setBlock w b (.map #[] clock)) b := ⟨es, clock, #[], clock, hb, rfl⟩
  refine ⟨setBlock w b (.map #[] clock), fun ty => ?_, ⟨.map [], ⟨#[], clock, heap_setBlock_same hb _, ⟨by simp, stamped_empty clock, by simp⟩, Nat.le_refl _, rfl⟩, isMap_empty, fun _ _ => rfl⟩, hT.grown⟩
  have e1 : (getObj b).run P w = .ok (.map es clock) w := by simp [getObj, Sem.run, hb]
  have e2 : (setObj b (.map #[] clock)).run P w = .ok () { w with heap := w.heap.setIfInBounds b (.map #[] clock) } := by simp [setObj, Sem.run, hb]
  simp [Builtin.clear_, run_underlying ht, e1, e2, Result.andThen]
  rfl
theorem Rows1.clear {w : World} {base gm n : Nat} {k t e : TypeId} {R : K2 → Option (Option Addr × Nat)} {T : K2 → List Wa} (h : Rows1 w base k gm n R T) (ht : Try.prog.underlying t = some (.map k e)) :
    ∃ w', (∀ ty : TypeId, (Builtin.clear_ #[t] ty #[.map (some gm)]).run Try.prog w = .ok (.tuple #[]) w') ∧ Rows1 w' base k gm 0 (fun _ => none) (fun _ => []) ∧ Only (· = gm) w w' := by
  obtain ⟨w', hrun, hm, hg⟩ := h.map.clear ht
  exact ⟨w', hrun, ⟨hm, (fun x p hp => by cases hp), fun _ _ => rfl, (fun x y p q b _ hp => by cases hp), h.ge, fun _ => by simp⟩, only_grown hg⟩
end Go.Proofs.Ytdjahlkjfpbifaa
