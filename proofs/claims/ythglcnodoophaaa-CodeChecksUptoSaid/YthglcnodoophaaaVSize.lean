
/-
  How many parts a value (or a pattern) has.
-/
import Derived.Test.YthglcnodoophaaaValDef
namespace Go.Proofs.Ythglcnodoophaaa

mutual
/-- How many parts there are. -/
def Val.size : Val → Nat
  | .mk _ _ _ l => 1 + Val.sizes l
def Val.sizes : List Val → Nat
  | [] => 0
  | x :: r => x.size + Val.sizes r
end
end Go.Proofs.Ythglcnodoophaaa
