
/-
  sameArms: two rows of arms that read alike are the same.
-/
import Derived.Test.YthglcnodoophaaaAr2
import Derived.Test.YthglcnodoophaaaEqual
namespace Go.Proofs.Ythglcnodoophaaa
open Go.RowKit

theorem RowS.rowW {w : World} {A : Option Addr} {xs : List Value} (h : RowS w (· < w.heap.size) A xs) : Row w w.heap.size A xs := h

end Go.Proofs.Ythglcnodoophaaa
