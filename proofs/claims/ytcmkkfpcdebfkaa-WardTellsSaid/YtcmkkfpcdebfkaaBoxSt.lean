/-
  A whole struct loaded and stored, as a step of a region that draws its order.
-/
import Derived.Test.YtcmkkfpcdebfkaaBoxLS
import Derived.Deep.RegionLaw
namespace Go.Proofs.Ytcmkkfpcdebfkaa
open Go.RowKit

section
variable {P : Program}
theorem step_load_box {w : World} {ops : Array Oper} {o : Oper} {a : Act} {K : Act → World → Prop} {Q : Exit → Act → World → Prop} {E : Prop} (hgd : o.guard = none) (ty : TypeId) (x : Operand) (ho : o.op = .load ty x)
    (g : Nat) (hx : a.eval x = .pointer (some ⟨g, 0, none⟩)) (cs : Array Value) (d : TypeDesc) (hb : Box w g ty cs) (hu : P.underlying ty = some d) (hd : d.isRow = true) (hi : (P.info? ty).map (·.size) = some cs.size)
    (h : K (a.put o.dst (.agg cs)) w) : if Region.wanted o (yielded ops a.tmps) = true then Oper.wp P o a w K Q else E := by
  have hw : Region.wanted o (yielded ops a.tmps) = true := by simp [Region.wanted, hgd]
  rw [if_pos hw]
  refine wp_load_mid ty x ho g 0 hx cs.toList d (boxRange hb) hu hd (by simpa using hi) ?_
  simpa using h
theorem step_store_box {w : World} {ops : Array Oper} {o : Oper} {a : Act} {K : Act → World → Prop} {Q : Exit → Act → World → Prop} {E : Prop} (hgd : o.guard = none) (ty : TypeId) (x y : Operand) (ho : o.op = .store ty x y)
    (g : Nat) (hx : a.eval x = .pointer (some ⟨g, 0, none⟩)) (old cs : Array Value) (hy : a.eval y = .agg cs) (hb : Box w g ty old) (hl : old.size = cs.size) (hi : (P.info? ty).map (·.size) = some cs.size) (h1 : cs.all (·.oneCell') = true)
    (h : ∀ w', Stored w w' g ty cs → K (a.put o.dst undef) w') : if Region.wanted o (yielded ops a.tmps) = true then Oper.wp P o a w K Q else E := by
  have hw : Region.wanted o (yielded ops a.tmps) = true := by simp [Region.wanted, hgd]
  rw [if_pos hw]
  refine wp_store_mid ty x y ho g 0 cs hx hy (by have := boxThere hb; rw [hl] at this; exact this) hi h1 ?_
  refine h _ ⟨?_, onlySets (S := fun b => b = g) rfl _ _ _ (Only.refl _ _), sizeSets _ _ _⟩
  have := boxSetAll hb cs.toList (by simpa using hl.symm)
  simpa using this
end
end Go.Proofs.Ytcmkkfpcdebfkaa
