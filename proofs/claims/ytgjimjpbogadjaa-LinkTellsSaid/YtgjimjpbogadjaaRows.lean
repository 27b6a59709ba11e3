/-
  NARROWER THAN 'FOR EVERY INPUT', by the rows' own cells (each row's printed sentence says how): HeapBuilds: loops · ArmsTells: loops · CodeChecks: loops · LimitTells: loops · LinkTells: loops · FoldTells: loops.
  DERIVED. THE GIVEN ROWS OF THIS SEAT. 6 by the template 'for every input the law returns true; each argument reads behind the call as it read before'; 0 by the template 'total and deterministic' (their statements: YtgjimjpbogadjaaTotals.lean).
  GIVEN WITH THE SEED: the statements are not yours to turn. If you find one false, say at which input.
  Laid BY PROGRAM, IN A SANDBOX (cutbox-rows.mjs): the forced cells as the released guide's own fill.sh prints them over the translation 55e257fc015ee4f1… (all of the seat's roots in one cut). By AI agents, Wed Nov 11 2026. No macro, syntax, notation, axiom, sorry.
-/
import Derived.Test.YtgjimjpbogadjaaChecked
import GoSem.Claim
import GoSem.ClaimJoined
import GoSem.ClaimMapViews
import Derived.JoinedTies
import Derived.KernelRfl
namespace Go.Proofs.Ytgjimjpbogadjaa
/- THE CELL 'sum', in the pinned program and in every row, IS THE sha256 OF THE DUMP (.gsa) THAT YtgjimjpbogadjaaProg.lean LOADS. Nothing in Lean hashes anything: it is a label: what it is worth is what the hold of that sum in a sandbox is worth. -/
noncomputable def Try.pinned : Pinned := { name := "ytgjimjpbogadjaa", sum := "55e257fc015ee4f18a1508d5f968e503f079c2cc7768e5ba8fd9c3ebee41a5e1", checked := Try.checked }
namespace Rows
def none {H : Type} : Left H := { results := [], args := [] }

/-- 'roadlaw3.HeapBuilds': WHATEVER THE INPUT: true; the input reads as it did. -/
def heapBuildsSpec : ChangeSpec := { name := "heapBuilds", fn := fun _ => fun
  | [d1, d2, d3] => { results := [.lit (.bool true)], args := [d1, d2, d3] }
  | _ => none }
def heapBuildsRow : OpenClaim := { program := "ytgjimjpbogadjaa", sum := "55e257fc015ee4f18a1508d5f968e503f079c2cc7768e5ba8fd9c3ebee41a5e1", func := "roadstead/roadlaw3.HeapBuilds", spec := "heapBuilds", recurses := true, loops := true, apart := false }
def HeapBuildsSaid : Prop := heapBuildsRow.holds Try.pinned (OpenSpec.ofChange heapBuildsSpec)

/-- ITS FALSE NEIGHBOUR: 'it returns false'. Refute it at one input. -/
def heapBuildsWrong : ChangeSpec := { name := "heapBuilds", fn := fun _ => fun
  | [d1, d2, d3] => { results := [.lit (.bool false)], args := [d1, d2, d3] }
  | _ => none }
def HeapBuildsWrongFalsely : Prop := heapBuildsRow.holds Try.pinned (OpenSpec.ofChange heapBuildsWrong)

/-- 'roadlaw1.ArmsTells': WHATEVER THE INPUT: true; the input reads as it did. -/
def armsTellsSpec : ChangeSpec := { name := "armsTells", fn := fun _ => fun
  | [d1, d2] => { results := [.lit (.bool true)], args := [d1, d2] }
  | _ => none }
def armsTellsRow : OpenClaim := { program := "ytgjimjpbogadjaa", sum := "55e257fc015ee4f18a1508d5f968e503f079c2cc7768e5ba8fd9c3ebee41a5e1", func := "roadstead/roadlaw1.ArmsTells", spec := "armsTells", unfollowed := true, recurses := true, loops := true, apart := false }
def ArmsTellsSaid : Prop := armsTellsRow.holds Try.pinned (OpenSpec.ofChange armsTellsSpec)

/-- ITS FALSE NEIGHBOUR: 'it returns false'. Refute it at one input. -/
def armsTellsWrong : ChangeSpec := { name := "armsTells", fn := fun _ => fun
  | [d1, d2] => { results := [.lit (.bool false)], args := [d1, d2] }
  | _ => none }
def ArmsTellsWrongFalsely : Prop := armsTellsRow.holds Try.pinned (OpenSpec.ofChange armsTellsWrong)

/-- 'roadlaw1.CodeChecks': WHATEVER THE INPUT: true; the input reads as it did. -/
def codeChecksSpec : ChangeSpec := { name := "codeChecks", fn := fun _ => fun
  | [d] => { results := [.lit (.bool true)], args := [d] }
  | _ => none }
def codeChecksRow : OpenClaim := { program := "ytgjimjpbogadjaa", sum := "55e257fc015ee4f18a1508d5f968e503f079c2cc7768e5ba8fd9c3ebee41a5e1", func := "roadstead/roadlaw1.CodeChecks", spec := "codeChecks", unfollowed := true, recurses := true, loops := true, apart := false }
def CodeChecksSaid : Prop := codeChecksRow.holds Try.pinned (OpenSpec.ofChange codeChecksSpec)

/-- ITS FALSE NEIGHBOUR: 'it returns false'. Refute it at one input. -/
def codeChecksWrong : ChangeSpec := { name := "codeChecks", fn := fun _ => fun
  | [d] => { results := [.lit (.bool false)], args := [d] }
  | _ => none }
def CodeChecksWrongFalsely : Prop := codeChecksRow.holds Try.pinned (OpenSpec.ofChange codeChecksWrong)

/-- 'roadlaw3.LimitTells': WHATEVER THE INPUT: true; the input reads as it did. -/
def limitTellsSpec : ChangeSpec := { name := "limitTells", fn := fun _ => fun
  | [d1, d2, d3, d4, d5, d6] => { results := [.lit (.bool true)], args := [d1, d2, d3, d4, d5, d6] }
  | _ => none }
def limitTellsRow : OpenClaim := { program := "ytgjimjpbogadjaa", sum := "55e257fc015ee4f18a1508d5f968e503f079c2cc7768e5ba8fd9c3ebee41a5e1", func := "roadstead/roadlaw3.LimitTells", spec := "limitTells", inPlace := ["slices.overlaps[roadstead/limit.Row]"], unfollowed := true, recurses := true, loops := true, apart := false }
def LimitTellsSaid : Prop := limitTellsRow.holds Try.pinned (OpenSpec.ofChange limitTellsSpec)

/-- ITS FALSE NEIGHBOUR: 'it returns false'. Refute it at one input. -/
def limitTellsWrong : ChangeSpec := { name := "limitTells", fn := fun _ => fun
  | [d1, d2, d3, d4, d5, d6] => { results := [.lit (.bool false)], args := [d1, d2, d3, d4, d5, d6] }
  | _ => none }
def LimitTellsWrongFalsely : Prop := limitTellsRow.holds Try.pinned (OpenSpec.ofChange limitTellsWrong)

/-- 'roadlaw3.LinkTells': WHATEVER THE INPUT: true; the input reads as it did. -/
def linkTellsSpec : ChangeSpec := { name := "linkTells", fn := fun _ => fun
  | [d1, d2, d3, d4, d5, d6] => { results := [.lit (.bool true)], args := [d1, d2, d3, d4, d5, d6] }
  | _ => none }
def linkTellsRow : OpenClaim := { program := "ytgjimjpbogadjaa", sum := "55e257fc015ee4f18a1508d5f968e503f079c2cc7768e5ba8fd9c3ebee41a5e1", func := "roadstead/roadlaw3.LinkTells", spec := "linkTells", inPlace := ["slices.overlaps[roadstead/link.Row]"], unfollowed := true, recurses := true, loops := true, apart := false }
def LinkTellsSaid : Prop := linkTellsRow.holds Try.pinned (OpenSpec.ofChange linkTellsSpec)

/-- ITS FALSE NEIGHBOUR: 'it returns false'. Refute it at one input. -/
def linkTellsWrong : ChangeSpec := { name := "linkTells", fn := fun _ => fun
  | [d1, d2, d3, d4, d5, d6] => { results := [.lit (.bool false)], args := [d1, d2, d3, d4, d5, d6] }
  | _ => none }
def LinkTellsWrongFalsely : Prop := linkTellsRow.holds Try.pinned (OpenSpec.ofChange linkTellsWrong)

/-- 'roadlaw1.FoldTells': WHATEVER THE INPUT: true; the input reads as it did. -/
def foldTellsSpec : ChangeSpec := { name := "foldTells", fn := fun _ => fun
  | [d] => { results := [.lit (.bool true)], args := [d] }
  | _ => none }
def foldTellsRow : OpenClaim := { program := "ytgjimjpbogadjaa", sum := "55e257fc015ee4f18a1508d5f968e503f079c2cc7768e5ba8fd9c3ebee41a5e1", func := "roadstead/roadlaw1.FoldTells", spec := "foldTells", unfollowed := true, recurses := true, loops := true, apart := false }
def FoldTellsSaid : Prop := foldTellsRow.holds Try.pinned (OpenSpec.ofChange foldTellsSpec)

/-- ITS FALSE NEIGHBOUR: 'it returns false'. Refute it at one input. -/
def foldTellsWrong : ChangeSpec := { name := "foldTells", fn := fun _ => fun
  | [d] => { results := [.lit (.bool false)], args := [d] }
  | _ => none }
def FoldTellsWrongFalsely : Prop := foldTellsRow.holds Try.pinned (OpenSpec.ofChange foldTellsWrong)

/- THE SECOND FORM. 'bulk': how many values and letters a reading holds, each counted each time it is reached (what is shared counts as often as it is met; a slice's spare places count too). A statement '..UptoSaid' is the law's where the arguments, and the package variables that the reading takes, are together of bulk at most 1048576: NARROWER than '..Said'. Prove '..Said' where nothing that the law and all that it calls make is longer than what came in: it says more and counts as full. Else prove '..UptoSaid'. A law counts once. -/
mutual
def uptoBulk {H : Type} : DataW H → Nat
  | .lit (.string bytes) => bytes.length + 1
  | .lit _ => 1
  | .nil => 1
  | .ptr d => uptoBulk d + 1
  | .slice elems spare => uptoBulkAll elems + uptoBulkAll spare + 1
  | .agg parts => uptoBulkAll parts + 1
  | .iface _ d => uptoBulk d + 1
  | .map entries => uptoBulkEntries entries + 1
  | .held _ => 1
def uptoBulkAll {H : Type} : List (DataW H) → Nat
  | [] => 0
  | d :: r => uptoBulk d + uptoBulkAll r
def uptoBulkEntries {H : Type} : List (Lit × DataW H) → Nat
  | [] => 0
  | x :: r => uptoBulkEntry x + uptoBulkEntries r
def uptoBulkEntry {H : Type} : Lit × DataW H → Nat
  | (.string bytes, d) => bytes.length + uptoBulk d + 1
  | (_, d) => uptoBulk d + 1
 end
def uptoSmall : (H : Type) → List (DataW H) → Bool := fun _ ds => decide (uptoBulkAll ds ≤ 1048576)
def OpenSpec.upto (s : _root_.Go.ChangeSpec) : _root_.Go.OpenSpec := { _root_.Go.OpenSpec.ofChange s with cond := some uptoSmall }

/-- 'roadlaw3.HeapBuilds', WHERE WHAT IT READS IS OF BULK AT MOST 1048576: true; the input reads as it did. -/
def heapBuildsUptoRow : OpenClaim := { program := "ytgjimjpbogadjaa", sum := "55e257fc015ee4f18a1508d5f968e503f079c2cc7768e5ba8fd9c3ebee41a5e1", func := "roadstead/roadlaw3.HeapBuilds", spec := "heapBuilds", recurses := true, loops := true, apart := false, narrowed := true }
def HeapBuildsUptoSaid : Prop := heapBuildsUptoRow.holds Try.pinned (OpenSpec.upto heapBuildsSpec)

/-- 'roadlaw1.ArmsTells', WHERE WHAT IT READS IS OF BULK AT MOST 1048576: true; the input reads as it did. -/
def armsTellsUptoRow : OpenClaim := { program := "ytgjimjpbogadjaa", sum := "55e257fc015ee4f18a1508d5f968e503f079c2cc7768e5ba8fd9c3ebee41a5e1", func := "roadstead/roadlaw1.ArmsTells", spec := "armsTells", unfollowed := true, recurses := true, loops := true, apart := false, narrowed := true }
def ArmsTellsUptoSaid : Prop := armsTellsUptoRow.holds Try.pinned (OpenSpec.upto armsTellsSpec)

/-- 'roadlaw1.CodeChecks', WHERE WHAT IT READS IS OF BULK AT MOST 1048576: true; the input reads as it did. -/
def codeChecksUptoRow : OpenClaim := { program := "ytgjimjpbogadjaa", sum := "55e257fc015ee4f18a1508d5f968e503f079c2cc7768e5ba8fd9c3ebee41a5e1", func := "roadstead/roadlaw1.CodeChecks", spec := "codeChecks", unfollowed := true, recurses := true, loops := true, apart := false, narrowed := true }
def CodeChecksUptoSaid : Prop := codeChecksUptoRow.holds Try.pinned (OpenSpec.upto codeChecksSpec)

/-- 'roadlaw3.LimitTells', WHERE WHAT IT READS IS OF BULK AT MOST 1048576: true; the input reads as it did. -/
def limitTellsUptoRow : OpenClaim := { program := "ytgjimjpbogadjaa", sum := "55e257fc015ee4f18a1508d5f968e503f079c2cc7768e5ba8fd9c3ebee41a5e1", func := "roadstead/roadlaw3.LimitTells", spec := "limitTells", inPlace := ["slices.overlaps[roadstead/limit.Row]"], unfollowed := true, recurses := true, loops := true, apart := false, narrowed := true }
def LimitTellsUptoSaid : Prop := limitTellsUptoRow.holds Try.pinned (OpenSpec.upto limitTellsSpec)

/-- 'roadlaw3.LinkTells', WHERE WHAT IT READS IS OF BULK AT MOST 1048576: true; the input reads as it did. -/
def linkTellsUptoRow : OpenClaim := { program := "ytgjimjpbogadjaa", sum := "55e257fc015ee4f18a1508d5f968e503f079c2cc7768e5ba8fd9c3ebee41a5e1", func := "roadstead/roadlaw3.LinkTells", spec := "linkTells", inPlace := ["slices.overlaps[roadstead/link.Row]"], unfollowed := true, recurses := true, loops := true, apart := false, narrowed := true }
def LinkTellsUptoSaid : Prop := linkTellsUptoRow.holds Try.pinned (OpenSpec.upto linkTellsSpec)

/-- 'roadlaw1.FoldTells', WHERE WHAT IT READS IS OF BULK AT MOST 1048576: true; the input reads as it did. -/
def foldTellsUptoRow : OpenClaim := { program := "ytgjimjpbogadjaa", sum := "55e257fc015ee4f18a1508d5f968e503f079c2cc7768e5ba8fd9c3ebee41a5e1", func := "roadstead/roadlaw1.FoldTells", spec := "foldTells", unfollowed := true, recurses := true, loops := true, apart := false, narrowed := true }
def FoldTellsUptoSaid : Prop := foldTellsUptoRow.holds Try.pinned (OpenSpec.upto foldTellsSpec)

end Rows
end Go.Proofs.Ytgjimjpbogadjaa
