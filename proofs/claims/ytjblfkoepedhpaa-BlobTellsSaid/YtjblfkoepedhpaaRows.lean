/-
  NARROWER THAN 'FOR EVERY INPUT', by the rows' own cells (each row's printed sentence says how): TermTells: loops · BoxTells: loops.
  DERIVED. THE GIVEN ROWS OF THIS SEAT. 12 by the template 'for every input the law returns true; each argument reads behind the call as it read before'; 0 by the template 'total and deterministic' (their statements: YtjblfkoepedhpaaTotals.lean).
  GIVEN WITH THE SEED: the statements are not yours to turn. If you find one false, say at which input.
  Laid BY PROGRAM, IN A SANDBOX (cutbox-rows.mjs): the forced cells as the released guide's own fill.sh prints them over the translation d434a4eebbbbed3f… (all of the seat's roots in one cut). By AI agents, Wed Nov 11 2026. No macro, syntax, notation, axiom, sorry.
-/
import Derived.Test.YtjblfkoepedhpaaChecked
import GoSem.Claim
import GoSem.ClaimJoined
import GoSem.ClaimMapViews
import Derived.JoinedTies
import Derived.KernelRfl
namespace Go.Proofs.Ytjblfkoepedhpaa
/- THE CELL 'sum', in the pinned program and in every row, IS THE sha256 OF THE DUMP (.gsa) THAT YtjblfkoepedhpaaProg.lean LOADS. Nothing in Lean hashes anything: it is a label: what it is worth is what the hold of that sum in a sandbox is worth. -/
noncomputable def Try.pinned : Pinned := { name := "ytjblfkoepedhpaa", sum := "d434a4eebbbbed3fef974a58eb44949764e8b8f8ab66a13dd14b44e0549efb43", checked := Try.checked }
namespace Rows
def none {H : Type} : Left H := { results := [], args := [] }

/-- 'roadlaw4.FenceStores': WHATEVER THE INPUT: true; the input reads as it did. -/
def fenceStoresSpec : ChangeSpec := { name := "fenceStores", fn := fun _ => fun
  | [d] => { results := [.lit (.bool true)], args := [d] }
  | _ => none }
def fenceStoresRow : OpenClaim := { program := "ytjblfkoepedhpaa", sum := "d434a4eebbbbed3fef974a58eb44949764e8b8f8ab66a13dd14b44e0549efb43", func := "roadstead/roadlaw4.FenceStores", spec := "fenceStores", apart := false }
def FenceStoresSaid : Prop := fenceStoresRow.holds Try.pinned (OpenSpec.ofChange fenceStoresSpec)

/-- ITS FALSE NEIGHBOUR: 'it returns false'. Refute it at one input. -/
def fenceStoresWrong : ChangeSpec := { name := "fenceStores", fn := fun _ => fun
  | [d] => { results := [.lit (.bool false)], args := [d] }
  | _ => none }
def FenceStoresWrongFalsely : Prop := fenceStoresRow.holds Try.pinned (OpenSpec.ofChange fenceStoresWrong)

/-- 'roadlaw4.ShrinkNumber': WHATEVER THE INPUT: true; the input reads as it did. -/
def shrinkNumberSpec : ChangeSpec := { name := "shrinkNumber", fn := fun _ => fun
  | [d1, d2, d3] => { results := [.lit (.bool true)], args := [d1, d2, d3] }
  | _ => none }
def shrinkNumberRow : OpenClaim := { program := "ytjblfkoepedhpaa", sum := "d434a4eebbbbed3fef974a58eb44949764e8b8f8ab66a13dd14b44e0549efb43", func := "roadstead/roadlaw4.ShrinkNumber", spec := "shrinkNumber", unfollowed := true, recurses := true, apart := false }
def ShrinkNumberSaid : Prop := shrinkNumberRow.holds Try.pinned (OpenSpec.ofChange shrinkNumberSpec)

/-- ITS FALSE NEIGHBOUR: 'it returns false'. Refute it at one input. -/
def shrinkNumberWrong : ChangeSpec := { name := "shrinkNumber", fn := fun _ => fun
  | [d1, d2, d3] => { results := [.lit (.bool false)], args := [d1, d2, d3] }
  | _ => none }
def ShrinkNumberWrongFalsely : Prop := shrinkNumberRow.holds Try.pinned (OpenSpec.ofChange shrinkNumberWrong)

/-- 'roadlaw4.ClockJoins': WHATEVER THE INPUT: true; the input reads as it did. -/
def clockJoinsSpec : ChangeSpec := { name := "clockJoins", fn := fun _ => fun
  | [d1, d2] => { results := [.lit (.bool true)], args := [d1, d2] }
  | _ => none }
def clockJoinsRow : OpenClaim := { program := "ytjblfkoepedhpaa", sum := "d434a4eebbbbed3fef974a58eb44949764e8b8f8ab66a13dd14b44e0549efb43", func := "roadstead/roadlaw4.ClockJoins", spec := "clockJoins", unfollowed := true, recurses := true, apart := false }
def ClockJoinsSaid : Prop := clockJoinsRow.holds Try.pinned (OpenSpec.ofChange clockJoinsSpec)

/-- ITS FALSE NEIGHBOUR: 'it returns false'. Refute it at one input. -/
def clockJoinsWrong : ChangeSpec := { name := "clockJoins", fn := fun _ => fun
  | [d1, d2] => { results := [.lit (.bool false)], args := [d1, d2] }
  | _ => none }
def ClockJoinsWrongFalsely : Prop := clockJoinsRow.holds Try.pinned (OpenSpec.ofChange clockJoinsWrong)

/-- 'roadlaw4.FencePlays': WHATEVER THE INPUT: true; the input reads as it did. -/
def fencePlaysSpec : ChangeSpec := { name := "fencePlays", fn := fun _ => fun
  | [d] => { results := [.lit (.bool true)], args := [d] }
  | _ => none }
def fencePlaysRow : OpenClaim := { program := "ytjblfkoepedhpaa", sum := "d434a4eebbbbed3fef974a58eb44949764e8b8f8ab66a13dd14b44e0549efb43", func := "roadstead/roadlaw4.FencePlays", spec := "fencePlays", apart := false }
def FencePlaysSaid : Prop := fencePlaysRow.holds Try.pinned (OpenSpec.ofChange fencePlaysSpec)

/-- ITS FALSE NEIGHBOUR: 'it returns false'. Refute it at one input. -/
def fencePlaysWrong : ChangeSpec := { name := "fencePlays", fn := fun _ => fun
  | [d] => { results := [.lit (.bool false)], args := [d] }
  | _ => none }
def FencePlaysWrongFalsely : Prop := fencePlaysRow.holds Try.pinned (OpenSpec.ofChange fencePlaysWrong)

/-- 'roadlaw3.TurnTells': WHATEVER THE INPUT: true; the input reads as it did. -/
def turnTellsSpec : ChangeSpec := { name := "turnTells", fn := fun _ => fun
  | [d1, d2, d3] => { results := [.lit (.bool true)], args := [d1, d2, d3] }
  | _ => none }
def turnTellsRow : OpenClaim := { program := "ytjblfkoepedhpaa", sum := "d434a4eebbbbed3fef974a58eb44949764e8b8f8ab66a13dd14b44e0549efb43", func := "roadstead/roadlaw3.TurnTells", spec := "turnTells", apart := false }
def TurnTellsSaid : Prop := turnTellsRow.holds Try.pinned (OpenSpec.ofChange turnTellsSpec)

/-- ITS FALSE NEIGHBOUR: 'it returns false'. Refute it at one input. -/
def turnTellsWrong : ChangeSpec := { name := "turnTells", fn := fun _ => fun
  | [d1, d2, d3] => { results := [.lit (.bool false)], args := [d1, d2, d3] }
  | _ => none }
def TurnTellsWrongFalsely : Prop := turnTellsRow.holds Try.pinned (OpenSpec.ofChange turnTellsWrong)

/-- 'roadlaw4.ShrinkEach': WHATEVER THE INPUT: true; the input reads as it did. -/
def shrinkEachSpec : ChangeSpec := { name := "shrinkEach", fn := fun _ => fun
  | [d1, d2, d3] => { results := [.lit (.bool true)], args := [d1, d2, d3] }
  | _ => none }
def shrinkEachRow : OpenClaim := { program := "ytjblfkoepedhpaa", sum := "d434a4eebbbbed3fef974a58eb44949764e8b8f8ab66a13dd14b44e0549efb43", func := "roadstead/roadlaw4.ShrinkEach", spec := "shrinkEach", unfollowed := true, recurses := true, apart := false }
def ShrinkEachSaid : Prop := shrinkEachRow.holds Try.pinned (OpenSpec.ofChange shrinkEachSpec)

/-- ITS FALSE NEIGHBOUR: 'it returns false'. Refute it at one input. -/
def shrinkEachWrong : ChangeSpec := { name := "shrinkEach", fn := fun _ => fun
  | [d1, d2, d3] => { results := [.lit (.bool false)], args := [d1, d2, d3] }
  | _ => none }
def ShrinkEachWrongFalsely : Prop := shrinkEachRow.holds Try.pinned (OpenSpec.ofChange shrinkEachWrong)

/-- 'roadlaw3.TermTells': WHATEVER THE INPUT: true; the input reads as it did. -/
def termTellsSpec : ChangeSpec := { name := "termTells", fn := fun _ => fun
  | [d1, d2, d3, d4] => { results := [.lit (.bool true)], args := [d1, d2, d3, d4] }
  | _ => none }
def termTellsRow : OpenClaim := { program := "ytjblfkoepedhpaa", sum := "d434a4eebbbbed3fef974a58eb44949764e8b8f8ab66a13dd14b44e0549efb43", func := "roadstead/roadlaw3.TermTells", spec := "termTells", recurses := true, loops := true, apart := false }
def TermTellsSaid : Prop := termTellsRow.holds Try.pinned (OpenSpec.ofChange termTellsSpec)

/-- ITS FALSE NEIGHBOUR: 'it returns false'. Refute it at one input. -/
def termTellsWrong : ChangeSpec := { name := "termTells", fn := fun _ => fun
  | [d1, d2, d3, d4] => { results := [.lit (.bool false)], args := [d1, d2, d3, d4] }
  | _ => none }
def TermTellsWrongFalsely : Prop := termTellsRow.holds Try.pinned (OpenSpec.ofChange termTellsWrong)

/-- 'roadlaw3.TurnPlans': WHATEVER THE INPUT: true; the input reads as it did. -/
def turnPlansSpec : ChangeSpec := { name := "turnPlans", fn := fun _ => fun
  | [d1, d2] => { results := [.lit (.bool true)], args := [d1, d2] }
  | _ => none }
def turnPlansRow : OpenClaim := { program := "ytjblfkoepedhpaa", sum := "d434a4eebbbbed3fef974a58eb44949764e8b8f8ab66a13dd14b44e0549efb43", func := "roadstead/roadlaw3.TurnPlans", spec := "turnPlans", unfollowed := true, recurses := true, apart := false }
def TurnPlansSaid : Prop := turnPlansRow.holds Try.pinned (OpenSpec.ofChange turnPlansSpec)

/-- ITS FALSE NEIGHBOUR: 'it returns false'. Refute it at one input. -/
def turnPlansWrong : ChangeSpec := { name := "turnPlans", fn := fun _ => fun
  | [d1, d2] => { results := [.lit (.bool false)], args := [d1, d2] }
  | _ => none }
def TurnPlansWrongFalsely : Prop := turnPlansRow.holds Try.pinned (OpenSpec.ofChange turnPlansWrong)

/-- 'roadlaw4.CreditPlays': WHATEVER THE INPUT: true; the input reads as it did. -/
def creditPlaysSpec : ChangeSpec := { name := "creditPlays", fn := fun _ => fun
  | [d1, d2, d3] => { results := [.lit (.bool true)], args := [d1, d2, d3] }
  | _ => none }
def creditPlaysRow : OpenClaim := { program := "ytjblfkoepedhpaa", sum := "d434a4eebbbbed3fef974a58eb44949764e8b8f8ab66a13dd14b44e0549efb43", func := "roadstead/roadlaw4.CreditPlays", spec := "creditPlays", apart := false }
def CreditPlaysSaid : Prop := creditPlaysRow.holds Try.pinned (OpenSpec.ofChange creditPlaysSpec)

/-- ITS FALSE NEIGHBOUR: 'it returns false'. Refute it at one input. -/
def creditPlaysWrong : ChangeSpec := { name := "creditPlays", fn := fun _ => fun
  | [d1, d2, d3] => { results := [.lit (.bool false)], args := [d1, d2, d3] }
  | _ => none }
def CreditPlaysWrongFalsely : Prop := creditPlaysRow.holds Try.pinned (OpenSpec.ofChange creditPlaysWrong)

/-- 'roadlaw3.BoxTells': WHATEVER THE INPUT: true; the input reads as it did. -/
def boxTellsSpec : ChangeSpec := { name := "boxTells", fn := fun _ => fun
  | [d1, d2, d3] => { results := [.lit (.bool true)], args := [d1, d2, d3] }
  | _ => none }
def boxTellsRow : OpenClaim := { program := "ytjblfkoepedhpaa", sum := "d434a4eebbbbed3fef974a58eb44949764e8b8f8ab66a13dd14b44e0549efb43", func := "roadstead/roadlaw3.BoxTells", spec := "boxTells", unfollowed := true, recurses := true, loops := true, apart := false }
def BoxTellsSaid : Prop := boxTellsRow.holds Try.pinned (OpenSpec.ofChange boxTellsSpec)

/-- ITS FALSE NEIGHBOUR: 'it returns false'. Refute it at one input. -/
def boxTellsWrong : ChangeSpec := { name := "boxTells", fn := fun _ => fun
  | [d1, d2, d3] => { results := [.lit (.bool false)], args := [d1, d2, d3] }
  | _ => none }
def BoxTellsWrongFalsely : Prop := boxTellsRow.holds Try.pinned (OpenSpec.ofChange boxTellsWrong)

/-- 'roadlaw4.ShrinkSays': WHATEVER THE INPUT: true; the input reads as it did. -/
def shrinkSaysSpec : ChangeSpec := { name := "shrinkSays", fn := fun _ => fun
  | [d1, d2, d3] => { results := [.lit (.bool true)], args := [d1, d2, d3] }
  | _ => none }
def shrinkSaysRow : OpenClaim := { program := "ytjblfkoepedhpaa", sum := "d434a4eebbbbed3fef974a58eb44949764e8b8f8ab66a13dd14b44e0549efb43", func := "roadstead/roadlaw4.ShrinkSays", spec := "shrinkSays", unfollowed := true, recurses := true, apart := false }
def ShrinkSaysSaid : Prop := shrinkSaysRow.holds Try.pinned (OpenSpec.ofChange shrinkSaysSpec)

/-- ITS FALSE NEIGHBOUR: 'it returns false'. Refute it at one input. -/
def shrinkSaysWrong : ChangeSpec := { name := "shrinkSays", fn := fun _ => fun
  | [d1, d2, d3] => { results := [.lit (.bool false)], args := [d1, d2, d3] }
  | _ => none }
def ShrinkSaysWrongFalsely : Prop := shrinkSaysRow.holds Try.pinned (OpenSpec.ofChange shrinkSaysWrong)

/-- 'roadlaw3.BlobTells': WHATEVER THE INPUT: true; the input reads as it did. -/
def blobTellsSpec : ChangeSpec := { name := "blobTells", fn := fun _ => fun
  | [d1, d2, d3] => { results := [.lit (.bool true)], args := [d1, d2, d3] }
  | _ => none }
def blobTellsRow : OpenClaim := { program := "ytjblfkoepedhpaa", sum := "d434a4eebbbbed3fef974a58eb44949764e8b8f8ab66a13dd14b44e0549efb43", func := "roadstead/roadlaw3.BlobTells", spec := "blobTells", unfollowed := true, recurses := true, apart := false }
def BlobTellsSaid : Prop := blobTellsRow.holds Try.pinned (OpenSpec.ofChange blobTellsSpec)

/-- ITS FALSE NEIGHBOUR: 'it returns false'. Refute it at one input. -/
def blobTellsWrong : ChangeSpec := { name := "blobTells", fn := fun _ => fun
  | [d1, d2, d3] => { results := [.lit (.bool false)], args := [d1, d2, d3] }
  | _ => none }
def BlobTellsWrongFalsely : Prop := blobTellsRow.holds Try.pinned (OpenSpec.ofChange blobTellsWrong)

/- THE SECOND FORM. 'bulk': how many values and letters a reading holds, each counted each time it is reached (what is shared counts as often as it is met; a slice's spare places count too). A statement '..UptoSaid' is the law's where the arguments, and the package variables that the reading takes, are together of bulk at most 1048576: NARROWER than '..Said'. Prove '..Said' where nothing that the law and all that it calls make is longer than what came in: it says more and counts as full. Else prove '..UptoSaid'. A law counts once. -/
mutual
def uptoBulk {H : Type} : DataW H → Nat
  | .lit (.string bytes) => bytes.length + 1
  | .lit _ => 1
  | .nil => 1
  | .ptr d => uptoBulk d + 1
  | .slice elems spare => uptoBulkAll elems + uptoBulkAll spare + 1
  | .agg parts => uptoBulkAll parts + 1
  | .iface _ d => uptoBulk d + 1
  | .map entries => uptoBulkEntries entries + 1
  | .held _ => 1
def uptoBulkAll {H : Type} : List (DataW H) → Nat
  | [] => 0
  | d :: r => uptoBulk d + uptoBulkAll r
def uptoBulkEntries {H : Type} : List (Lit × DataW H) → Nat
  | [] => 0
  | x :: r => uptoBulkEntry x + uptoBulkEntries r
def uptoBulkEntry {H : Type} : Lit × DataW H → Nat
  | (.string bytes, d) => bytes.length + uptoBulk d + 1
  | (_, d) => uptoBulk d + 1
 end
def uptoSmall : (H : Type) → List (DataW H) → Bool := fun _ ds => decide (uptoBulkAll ds ≤ 1048576)
def OpenSpec.upto (s : _root_.Go.ChangeSpec) : _root_.Go.OpenSpec := { _root_.Go.OpenSpec.ofChange s with cond := some uptoSmall }

/-- 'roadlaw4.FenceStores', WHERE WHAT IT READS IS OF BULK AT MOST 1048576: true; the input reads as it did. -/
def fenceStoresUptoRow : OpenClaim := { program := "ytjblfkoepedhpaa", sum := "d434a4eebbbbed3fef974a58eb44949764e8b8f8ab66a13dd14b44e0549efb43", func := "roadstead/roadlaw4.FenceStores", spec := "fenceStores", apart := false, narrowed := true }
def FenceStoresUptoSaid : Prop := fenceStoresUptoRow.holds Try.pinned (OpenSpec.upto fenceStoresSpec)

/-- 'roadlaw4.ShrinkNumber', WHERE WHAT IT READS IS OF BULK AT MOST 1048576: true; the input reads as it did. -/
def shrinkNumberUptoRow : OpenClaim := { program := "ytjblfkoepedhpaa", sum := "d434a4eebbbbed3fef974a58eb44949764e8b8f8ab66a13dd14b44e0549efb43", func := "roadstead/roadlaw4.ShrinkNumber", spec := "shrinkNumber", unfollowed := true, recurses := true, apart := false, narrowed := true }
def ShrinkNumberUptoSaid : Prop := shrinkNumberUptoRow.holds Try.pinned (OpenSpec.upto shrinkNumberSpec)

/-- 'roadlaw4.ClockJoins', WHERE WHAT IT READS IS OF BULK AT MOST 1048576: true; the input reads as it did. -/
def clockJoinsUptoRow : OpenClaim := { program := "ytjblfkoepedhpaa", sum := "d434a4eebbbbed3fef974a58eb44949764e8b8f8ab66a13dd14b44e0549efb43", func := "roadstead/roadlaw4.ClockJoins", spec := "clockJoins", unfollowed := true, recurses := true, apart := false, narrowed := true }
def ClockJoinsUptoSaid : Prop := clockJoinsUptoRow.holds Try.pinned (OpenSpec.upto clockJoinsSpec)

/-- 'roadlaw4.FencePlays', WHERE WHAT IT READS IS OF BULK AT MOST 1048576: true; the input reads as it did. -/
def fencePlaysUptoRow : OpenClaim := { program := "ytjblfkoepedhpaa", sum := "d434a4eebbbbed3fef974a58eb44949764e8b8f8ab66a13dd14b44e0549efb43", func := "roadstead/roadlaw4.FencePlays", spec := "fencePlays", apart := false, narrowed := true }
def FencePlaysUptoSaid : Prop := fencePlaysUptoRow.holds Try.pinned (OpenSpec.upto fencePlaysSpec)

/-- 'roadlaw3.TurnTells', WHERE WHAT IT READS IS OF BULK AT MOST 1048576: true; the input reads as it did. -/
def turnTellsUptoRow : OpenClaim := { program := "ytjblfkoepedhpaa", sum := "d434a4eebbbbed3fef974a58eb44949764e8b8f8ab66a13dd14b44e0549efb43", func := "roadstead/roadlaw3.TurnTells", spec := "turnTells", apart := false, narrowed := true }
def TurnTellsUptoSaid : Prop := turnTellsUptoRow.holds Try.pinned (OpenSpec.upto turnTellsSpec)

/-- 'roadlaw4.ShrinkEach', WHERE WHAT IT READS IS OF BULK AT MOST 1048576: true; the input reads as it did. -/
def shrinkEachUptoRow : OpenClaim := { program := "ytjblfkoepedhpaa", sum := "d434a4eebbbbed3fef974a58eb44949764e8b8f8ab66a13dd14b44e0549efb43", func := "roadstead/roadlaw4.ShrinkEach", spec := "shrinkEach", unfollowed := true, recurses := true, apart := false, narrowed := true }
def ShrinkEachUptoSaid : Prop := shrinkEachUptoRow.holds Try.pinned (OpenSpec.upto shrinkEachSpec)

/-- 'roadlaw3.TermTells', WHERE WHAT IT READS IS OF BULK AT MOST 1048576: true; the input reads as it did. -/
def termTellsUptoRow : OpenClaim := { program := "ytjblfkoepedhpaa", sum := "d434a4eebbbbed3fef974a58eb44949764e8b8f8ab66a13dd14b44e0549efb43", func := "roadstead/roadlaw3.TermTells", spec := "termTells", recurses := true, loops := true, apart := false, narrowed := true }
def TermTellsUptoSaid : Prop := termTellsUptoRow.holds Try.pinned (OpenSpec.upto termTellsSpec)

/-- 'roadlaw3.TurnPlans', WHERE WHAT IT READS IS OF BULK AT MOST 1048576: true; the input reads as it did. -/
def turnPlansUptoRow : OpenClaim := { program := "ytjblfkoepedhpaa", sum := "d434a4eebbbbed3fef974a58eb44949764e8b8f8ab66a13dd14b44e0549efb43", func := "roadstead/roadlaw3.TurnPlans", spec := "turnPlans", unfollowed := true, recurses := true, apart := false, narrowed := true }
def TurnPlansUptoSaid : Prop := turnPlansUptoRow.holds Try.pinned (OpenSpec.upto turnPlansSpec)

/-- 'roadlaw4.CreditPlays', WHERE WHAT IT READS IS OF BULK AT MOST 1048576: true; the input reads as it did. -/
def creditPlaysUptoRow : OpenClaim := { program := "ytjblfkoepedhpaa", sum := "d434a4eebbbbed3fef974a58eb44949764e8b8f8ab66a13dd14b44e0549efb43", func := "roadstead/roadlaw4.CreditPlays", spec := "creditPlays", apart := false, narrowed := true }
def CreditPlaysUptoSaid : Prop := creditPlaysUptoRow.holds Try.pinned (OpenSpec.upto creditPlaysSpec)

/-- 'roadlaw3.BoxTells', WHERE WHAT IT READS IS OF BULK AT MOST 1048576: true; the input reads as it did. -/
def boxTellsUptoRow : OpenClaim := { program := "ytjblfkoepedhpaa", sum := "d434a4eebbbbed3fef974a58eb44949764e8b8f8ab66a13dd14b44e0549efb43", func := "roadstead/roadlaw3.BoxTells", spec := "boxTells", unfollowed := true, recurses := true, loops := true, apart := false, narrowed := true }
def BoxTellsUptoSaid : Prop := boxTellsUptoRow.holds Try.pinned (OpenSpec.upto boxTellsSpec)

/-- 'roadlaw4.ShrinkSays', WHERE WHAT IT READS IS OF BULK AT MOST 1048576: true; the input reads as it did. -/
def shrinkSaysUptoRow : OpenClaim := { program := "ytjblfkoepedhpaa", sum := "d434a4eebbbbed3fef974a58eb44949764e8b8f8ab66a13dd14b44e0549efb43", func := "roadstead/roadlaw4.ShrinkSays", spec := "shrinkSays", unfollowed := true, recurses := true, apart := false, narrowed := true }
def ShrinkSaysUptoSaid : Prop := shrinkSaysUptoRow.holds Try.pinned (OpenSpec.upto shrinkSaysSpec)

/-- 'roadlaw3.BlobTells', WHERE WHAT IT READS IS OF BULK AT MOST 1048576: true; the input reads as it did. -/
def blobTellsUptoRow : OpenClaim := { program := "ytjblfkoepedhpaa", sum := "d434a4eebbbbed3fef974a58eb44949764e8b8f8ab66a13dd14b44e0549efb43", func := "roadstead/roadlaw3.BlobTells", spec := "blobTells", unfollowed := true, recurses := true, apart := false, narrowed := true }
def BlobTellsUptoSaid : Prop := blobTellsUptoRow.holds Try.pinned (OpenSpec.upto blobTellsSpec)

end Rows
end Go.Proofs.Ytjblfkoepedhpaa
