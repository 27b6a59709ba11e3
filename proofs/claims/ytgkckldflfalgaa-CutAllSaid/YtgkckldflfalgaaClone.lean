
/-
  slices.Clone at []int.
-/
import Derived.Test.YtgkckldflfalgaaEqual
import Derived.WalkSpells
import Derived.Laws.AppendOwnNone
namespace Go.Proofs.Ytgkckldflfalgaa
open Go.RowKit

end Go.Proofs.Ytgkckldflfalgaa
