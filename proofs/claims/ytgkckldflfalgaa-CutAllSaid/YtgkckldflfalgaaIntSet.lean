
/-
  Keys that are ints: sets and maps of the call's own.
-/
import Derived.Test.YtgkckldflfalgaaMapV
namespace Go.Proofs.Ytgkckldflfalgaa
open Go.RowKit Go.Maps

def intL (x : Int) : Lit := .int .i64 x
theorem intL_inj (x y : Int) (h : intL x = intL y) : x = y := by unfold intL at h; injection h
theorem intL_key (x : Int) : WideAt.IsKeyLit (intL x) := by unfold intL; simp [WideAt.IsKeyLit]
theorem int_key {x : Int} (h : I64 x) : keyOf Try.prog 3 (.int .i64 x) = some (intL x) := keyOf_int_mk Try.underlying3 (by simpa [I64, Lit.wf, IntKind.min, IntKind.max, IntKind.signed, IntKind.bits] using h)
theorem ints_keyed : Keyed Try.prog 3 := int_keyed Try.underlying3
theorem zero_boolS (w : World) : (zeroValue 4).run Try.prog w = .ok (.bool false) w := by kernel_rfl
theorem zero_intS (w : World) : (zeroValue 3).run Try.prog w = .ok (.int .i64 0) w := by kernel_rfl
abbrev IntSet (w : World) (b n : Nat) (keys : List Int) : Prop := SetB intL Try.prog 3 4 w b n keys
/-- A map with ints for keys. -/
abbrev IntMap (w : World) (b n : Nat) (F : Int → Option Value) : Prop := MapV intL Try.prog 3 w b n F
end Go.Proofs.Ytgkckldflfalgaa
