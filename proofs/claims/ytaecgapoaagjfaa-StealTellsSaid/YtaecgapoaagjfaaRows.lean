/-
  NARROWER THAN 'FOR EVERY INPUT', by the rows' own cells (each row's printed sentence says how): BoxTells: loops · CodeTells: loops · PickTells: loops.
  DERIVED. THE GIVEN ROWS OF THIS SEAT. 12 by the template 'for every input the law returns true; each argument reads behind the call as it read before'; 0 by the template 'total and deterministic' (their statements: YtaecgapoaagjfaaTotals.lean).
  GIVEN WITH THE SEED: the statements are not yours to turn. If you find one false, say at which input.
  Laid BY PROGRAM, IN A SANDBOX (cutbox-rows.mjs): the forced cells as the released guide's own fill.sh prints them over the translation bf63f3477f22e79a… (all of the seat's roots in one cut). By AI agents, Wed Nov 11 2026. No macro, syntax, notation, axiom, sorry.
-/
import Derived.Test.YtaecgapoaagjfaaChecked
import GoSem.Claim
import GoSem.ClaimJoined
import GoSem.ClaimMapViews
import Derived.JoinedTies
import Derived.KernelRfl
namespace Go.Proofs.Ytaecgapoaagjfaa
/- THE CELL 'sum', in the pinned program and in every row, IS THE sha256 OF THE DUMP (.gsa) THAT YtaecgapoaagjfaaProg.lean LOADS. Nothing in Lean hashes anything: it is a label: what it is worth is what the hold of that sum in a sandbox is worth. -/
noncomputable def Try.pinned : Pinned := { name := "ytaecgapoaagjfaa", sum := "bf63f3477f22e79a1f0505041b006170459268fbd94111989f34a2d2ffaf35a2", checked := Try.checked }
namespace Rows
def none {H : Type} : Left H := { results := [], args := [] }

/-- 'roadlaw3.BoxTells': WHATEVER THE INPUT: true; the input reads as it did. -/
def boxTellsSpec : ChangeSpec := { name := "boxTells", fn := fun _ => fun
  | [d1, d2, d3] => { results := [.lit (.bool true)], args := [d1, d2, d3] }
  | _ => none }
def boxTellsRow : OpenClaim := { program := "ytaecgapoaagjfaa", sum := "bf63f3477f22e79a1f0505041b006170459268fbd94111989f34a2d2ffaf35a2", func := "roadstead/roadlaw3.BoxTells", spec := "boxTells", unfollowed := true, recurses := true, loops := true, apart := false }
def BoxTellsSaid : Prop := boxTellsRow.holds Try.pinned (OpenSpec.ofChange boxTellsSpec)

/-- ITS FALSE NEIGHBOUR: 'it returns false'. Refute it at one input. -/
def boxTellsWrong : ChangeSpec := { name := "boxTells", fn := fun _ => fun
  | [d1, d2, d3] => { results := [.lit (.bool false)], args := [d1, d2, d3] }
  | _ => none }
def BoxTellsWrongFalsely : Prop := boxTellsRow.holds Try.pinned (OpenSpec.ofChange boxTellsWrong)

/-- 'roadlaw4.GossipPlays': WHATEVER THE INPUT: true; the input reads as it did. -/
def gossipPlaysSpec : ChangeSpec := { name := "gossipPlays", fn := fun _ => fun
  | [d1, d2, d3, d4] => { results := [.lit (.bool true)], args := [d1, d2, d3, d4] }
  | _ => none }
def gossipPlaysRow : OpenClaim := { program := "ytaecgapoaagjfaa", sum := "bf63f3477f22e79a1f0505041b006170459268fbd94111989f34a2d2ffaf35a2", func := "roadstead/roadlaw4.GossipPlays", spec := "gossipPlays", apart := false }
def GossipPlaysSaid : Prop := gossipPlaysRow.holds Try.pinned (OpenSpec.ofChange gossipPlaysSpec)

/-- ITS FALSE NEIGHBOUR: 'it returns false'. Refute it at one input. -/
def gossipPlaysWrong : ChangeSpec := { name := "gossipPlays", fn := fun _ => fun
  | [d1, d2, d3, d4] => { results := [.lit (.bool false)], args := [d1, d2, d3, d4] }
  | _ => none }
def GossipPlaysWrongFalsely : Prop := gossipPlaysRow.holds Try.pinned (OpenSpec.ofChange gossipPlaysWrong)

/-- 'roadlaw4.LinePlays': WHATEVER THE INPUT: true; the input reads as it did. -/
def linePlaysSpec : ChangeSpec := { name := "linePlays", fn := fun _ => fun
  | [d1, d2, d3, d4] => { results := [.lit (.bool true)], args := [d1, d2, d3, d4] }
  | _ => none }
def linePlaysRow : OpenClaim := { program := "ytaecgapoaagjfaa", sum := "bf63f3477f22e79a1f0505041b006170459268fbd94111989f34a2d2ffaf35a2", func := "roadstead/roadlaw4.LinePlays", spec := "linePlays", unfollowed := true, recurses := true, apart := false }
def LinePlaysSaid : Prop := linePlaysRow.holds Try.pinned (OpenSpec.ofChange linePlaysSpec)

/-- ITS FALSE NEIGHBOUR: 'it returns false'. Refute it at one input. -/
def linePlaysWrong : ChangeSpec := { name := "linePlays", fn := fun _ => fun
  | [d1, d2, d3, d4] => { results := [.lit (.bool false)], args := [d1, d2, d3, d4] }
  | _ => none }
def LinePlaysWrongFalsely : Prop := linePlaysRow.holds Try.pinned (OpenSpec.ofChange linePlaysWrong)

/-- 'roadlaw4.ExploreRuns': WHATEVER THE INPUT: true; the input reads as it did. -/
def exploreRunsSpec : ChangeSpec := { name := "exploreRuns", fn := fun _ => fun
  | [d1, d2] => { results := [.lit (.bool true)], args := [d1, d2] }
  | _ => none }
def exploreRunsRow : OpenClaim := { program := "ytaecgapoaagjfaa", sum := "bf63f3477f22e79a1f0505041b006170459268fbd94111989f34a2d2ffaf35a2", func := "roadstead/roadlaw4.ExploreRuns", spec := "exploreRuns", apart := false }
def ExploreRunsSaid : Prop := exploreRunsRow.holds Try.pinned (OpenSpec.ofChange exploreRunsSpec)

/-- ITS FALSE NEIGHBOUR: 'it returns false'. Refute it at one input. -/
def exploreRunsWrong : ChangeSpec := { name := "exploreRuns", fn := fun _ => fun
  | [d1, d2] => { results := [.lit (.bool false)], args := [d1, d2] }
  | _ => none }
def ExploreRunsWrongFalsely : Prop := exploreRunsRow.holds Try.pinned (OpenSpec.ofChange exploreRunsWrong)

/-- 'roadlaw1.CodeTells': WHATEVER THE INPUT: true; the input reads as it did. -/
def codeTellsSpec : ChangeSpec := { name := "codeTells", fn := fun _ => fun
  | [d1, d2, d3, d4] => { results := [.lit (.bool true)], args := [d1, d2, d3, d4] }
  | _ => none }
def codeTellsRow : OpenClaim := { program := "ytaecgapoaagjfaa", sum := "bf63f3477f22e79a1f0505041b006170459268fbd94111989f34a2d2ffaf35a2", func := "roadstead/roadlaw1.CodeTells", spec := "codeTells", unfollowed := true, recurses := true, loops := true, apart := false }
def CodeTellsSaid : Prop := codeTellsRow.holds Try.pinned (OpenSpec.ofChange codeTellsSpec)

/-- ITS FALSE NEIGHBOUR: 'it returns false'. Refute it at one input. -/
def codeTellsWrong : ChangeSpec := { name := "codeTells", fn := fun _ => fun
  | [d1, d2, d3, d4] => { results := [.lit (.bool false)], args := [d1, d2, d3, d4] }
  | _ => none }
def CodeTellsWrongFalsely : Prop := codeTellsRow.holds Try.pinned (OpenSpec.ofChange codeTellsWrong)

/-- 'roadlaw4.WeightPlays': WHATEVER THE INPUT: true; the input reads as it did. -/
def weightPlaysSpec : ChangeSpec := { name := "weightPlays", fn := fun _ => fun
  | [d1, d2] => { results := [.lit (.bool true)], args := [d1, d2] }
  | _ => none }
def weightPlaysRow : OpenClaim := { program := "ytaecgapoaagjfaa", sum := "bf63f3477f22e79a1f0505041b006170459268fbd94111989f34a2d2ffaf35a2", func := "roadstead/roadlaw4.WeightPlays", spec := "weightPlays", apart := false }
def WeightPlaysSaid : Prop := weightPlaysRow.holds Try.pinned (OpenSpec.ofChange weightPlaysSpec)

/-- ITS FALSE NEIGHBOUR: 'it returns false'. Refute it at one input. -/
def weightPlaysWrong : ChangeSpec := { name := "weightPlays", fn := fun _ => fun
  | [d1, d2] => { results := [.lit (.bool false)], args := [d1, d2] }
  | _ => none }
def WeightPlaysWrongFalsely : Prop := weightPlaysRow.holds Try.pinned (OpenSpec.ofChange weightPlaysWrong)

/-- 'roadlaw3.HeapPuts': WHATEVER THE INPUT: true; the input reads as it did. -/
def heapPutsSpec : ChangeSpec := { name := "heapPuts", fn := fun _ => fun
  | [d1, d2, d3] => { results := [.lit (.bool true)], args := [d1, d2, d3] }
  | _ => none }
def heapPutsRow : OpenClaim := { program := "ytaecgapoaagjfaa", sum := "bf63f3477f22e79a1f0505041b006170459268fbd94111989f34a2d2ffaf35a2", func := "roadstead/roadlaw3.HeapPuts", spec := "heapPuts", apart := false }
def HeapPutsSaid : Prop := heapPutsRow.holds Try.pinned (OpenSpec.ofChange heapPutsSpec)

/-- ITS FALSE NEIGHBOUR: 'it returns false'. Refute it at one input. -/
def heapPutsWrong : ChangeSpec := { name := "heapPuts", fn := fun _ => fun
  | [d1, d2, d3] => { results := [.lit (.bool false)], args := [d1, d2, d3] }
  | _ => none }
def HeapPutsWrongFalsely : Prop := heapPutsRow.holds Try.pinned (OpenSpec.ofChange heapPutsWrong)

/-- 'roadlaw4.ClockSays': WHATEVER THE INPUT: true; the input reads as it did. -/
def clockSaysSpec : ChangeSpec := { name := "clockSays", fn := fun _ => fun
  | [d1, d2, d3] => { results := [.lit (.bool true)], args := [d1, d2, d3] }
  | _ => none }
def clockSaysRow : OpenClaim := { program := "ytaecgapoaagjfaa", sum := "bf63f3477f22e79a1f0505041b006170459268fbd94111989f34a2d2ffaf35a2", func := "roadstead/roadlaw4.ClockSays", spec := "clockSays", unfollowed := true, recurses := true, apart := false }
def ClockSaysSaid : Prop := clockSaysRow.holds Try.pinned (OpenSpec.ofChange clockSaysSpec)

/-- ITS FALSE NEIGHBOUR: 'it returns false'. Refute it at one input. -/
def clockSaysWrong : ChangeSpec := { name := "clockSays", fn := fun _ => fun
  | [d1, d2, d3] => { results := [.lit (.bool false)], args := [d1, d2, d3] }
  | _ => none }
def ClockSaysWrongFalsely : Prop := clockSaysRow.holds Try.pinned (OpenSpec.ofChange clockSaysWrong)

/-- 'roadlaw4.TraceSays': WHATEVER THE INPUT: true; the input reads as it did. -/
def traceSaysSpec : ChangeSpec := { name := "traceSays", fn := fun _ => fun
  | [d1, d2] => { results := [.lit (.bool true)], args := [d1, d2] }
  | _ => none }
def traceSaysRow : OpenClaim := { program := "ytaecgapoaagjfaa", sum := "bf63f3477f22e79a1f0505041b006170459268fbd94111989f34a2d2ffaf35a2", func := "roadstead/roadlaw4.TraceSays", spec := "traceSays", unfollowed := true, recurses := true, apart := false }
def TraceSaysSaid : Prop := traceSaysRow.holds Try.pinned (OpenSpec.ofChange traceSaysSpec)

/-- ITS FALSE NEIGHBOUR: 'it returns false'. Refute it at one input. -/
def traceSaysWrong : ChangeSpec := { name := "traceSays", fn := fun _ => fun
  | [d1, d2] => { results := [.lit (.bool false)], args := [d1, d2] }
  | _ => none }
def TraceSaysWrongFalsely : Prop := traceSaysRow.holds Try.pinned (OpenSpec.ofChange traceSaysWrong)

/-- 'roadlaw3.PickTells': WHATEVER THE INPUT: true; the input reads as it did. -/
def pickTellsSpec : ChangeSpec := { name := "pickTells", fn := fun _ => fun
  | [d1, d2, d3] => { results := [.lit (.bool true)], args := [d1, d2, d3] }
  | _ => none }
def pickTellsRow : OpenClaim := { program := "ytaecgapoaagjfaa", sum := "bf63f3477f22e79a1f0505041b006170459268fbd94111989f34a2d2ffaf35a2", func := "roadstead/roadlaw3.PickTells", spec := "pickTells", unfollowed := true, recurses := true, loops := true, apart := false }
def PickTellsSaid : Prop := pickTellsRow.holds Try.pinned (OpenSpec.ofChange pickTellsSpec)

/-- ITS FALSE NEIGHBOUR: 'it returns false'. Refute it at one input. -/
def pickTellsWrong : ChangeSpec := { name := "pickTells", fn := fun _ => fun
  | [d1, d2, d3] => { results := [.lit (.bool false)], args := [d1, d2, d3] }
  | _ => none }
def PickTellsWrongFalsely : Prop := pickTellsRow.holds Try.pinned (OpenSpec.ofChange pickTellsWrong)

/-- 'roadlaw3.StealTells': WHATEVER THE INPUT: true; the input reads as it did. -/
def stealTellsSpec : ChangeSpec := { name := "stealTells", fn := fun _ => fun
  | [d1, d2, d3, d4] => { results := [.lit (.bool true)], args := [d1, d2, d3, d4] }
  | _ => none }
def stealTellsRow : OpenClaim := { program := "ytaecgapoaagjfaa", sum := "bf63f3477f22e79a1f0505041b006170459268fbd94111989f34a2d2ffaf35a2", func := "roadstead/roadlaw3.StealTells", spec := "stealTells", apart := false }
def StealTellsSaid : Prop := stealTellsRow.holds Try.pinned (OpenSpec.ofChange stealTellsSpec)

/-- ITS FALSE NEIGHBOUR: 'it returns false'. Refute it at one input. -/
def stealTellsWrong : ChangeSpec := { name := "stealTells", fn := fun _ => fun
  | [d1, d2, d3, d4] => { results := [.lit (.bool false)], args := [d1, d2, d3, d4] }
  | _ => none }
def StealTellsWrongFalsely : Prop := stealTellsRow.holds Try.pinned (OpenSpec.ofChange stealTellsWrong)

/-- 'roadlaw4.TraceTells': WHATEVER THE INPUT: true; the input reads as it did. -/
def traceTellsSpec : ChangeSpec := { name := "traceTells", fn := fun _ => fun
  | [d1, d2, d3, d4] => { results := [.lit (.bool true)], args := [d1, d2, d3, d4] }
  | _ => none }
def traceTellsRow : OpenClaim := { program := "ytaecgapoaagjfaa", sum := "bf63f3477f22e79a1f0505041b006170459268fbd94111989f34a2d2ffaf35a2", func := "roadstead/roadlaw4.TraceTells", spec := "traceTells", unfollowed := true, recurses := true, apart := false }
def TraceTellsSaid : Prop := traceTellsRow.holds Try.pinned (OpenSpec.ofChange traceTellsSpec)

/-- ITS FALSE NEIGHBOUR: 'it returns false'. Refute it at one input. -/
def traceTellsWrong : ChangeSpec := { name := "traceTells", fn := fun _ => fun
  | [d1, d2, d3, d4] => { results := [.lit (.bool false)], args := [d1, d2, d3, d4] }
  | _ => none }
def TraceTellsWrongFalsely : Prop := traceTellsRow.holds Try.pinned (OpenSpec.ofChange traceTellsWrong)

/- THE SECOND FORM. 'bulk': how many values and letters a reading holds, each counted each time it is reached (what is shared counts as often as it is met; a slice's spare places count too). A statement '..UptoSaid' is the law's where the arguments, and the package variables that the reading takes, are together of bulk at most 1048576: NARROWER than '..Said'. Prove '..Said' where nothing that the law and all that it calls make is longer than what came in: it says more and counts as full. Else prove '..UptoSaid'. A law counts once. -/
mutual
def uptoBulk {H : Type} : DataW H → Nat
  | .lit (.string bytes) => bytes.length + 1
  | .lit _ => 1
  | .nil => 1
  | .ptr d => uptoBulk d + 1
  | .slice elems spare => uptoBulkAll elems + uptoBulkAll spare + 1
  | .agg parts => uptoBulkAll parts + 1
  | .iface _ d => uptoBulk d + 1
  | .map entries => uptoBulkEntries entries + 1
  | .held _ => 1
def uptoBulkAll {H : Type} : List (DataW H) → Nat
  | [] => 0
  | d :: r => uptoBulk d + uptoBulkAll r
def uptoBulkEntries {H : Type} : List (Lit × DataW H) → Nat
  | [] => 0
  | x :: r => uptoBulkEntry x + uptoBulkEntries r
def uptoBulkEntry {H : Type} : Lit × DataW H → Nat
  | (.string bytes, d) => bytes.length + uptoBulk d + 1
  | (_, d) => uptoBulk d + 1
 end
def uptoSmall : (H : Type) → List (DataW H) → Bool := fun _ ds => decide (uptoBulkAll ds ≤ 1048576)
def OpenSpec.upto (s : _root_.Go.ChangeSpec) : _root_.Go.OpenSpec := { _root_.Go.OpenSpec.ofChange s with cond := some uptoSmall }

/-- 'roadlaw3.BoxTells', WHERE WHAT IT READS IS OF BULK AT MOST 1048576: true; the input reads as it did. -/
def boxTellsUptoRow : OpenClaim := { program := "ytaecgapoaagjfaa", sum := "bf63f3477f22e79a1f0505041b006170459268fbd94111989f34a2d2ffaf35a2", func := "roadstead/roadlaw3.BoxTells", spec := "boxTells", unfollowed := true, recurses := true, loops := true, apart := false, narrowed := true }
def BoxTellsUptoSaid : Prop := boxTellsUptoRow.holds Try.pinned (OpenSpec.upto boxTellsSpec)

/-- 'roadlaw4.GossipPlays', WHERE WHAT IT READS IS OF BULK AT MOST 1048576: true; the input reads as it did. -/
def gossipPlaysUptoRow : OpenClaim := { program := "ytaecgapoaagjfaa", sum := "bf63f3477f22e79a1f0505041b006170459268fbd94111989f34a2d2ffaf35a2", func := "roadstead/roadlaw4.GossipPlays", spec := "gossipPlays", apart := false, narrowed := true }
def GossipPlaysUptoSaid : Prop := gossipPlaysUptoRow.holds Try.pinned (OpenSpec.upto gossipPlaysSpec)

/-- 'roadlaw4.LinePlays', WHERE WHAT IT READS IS OF BULK AT MOST 1048576: true; the input reads as it did. -/
def linePlaysUptoRow : OpenClaim := { program := "ytaecgapoaagjfaa", sum := "bf63f3477f22e79a1f0505041b006170459268fbd94111989f34a2d2ffaf35a2", func := "roadstead/roadlaw4.LinePlays", spec := "linePlays", unfollowed := true, recurses := true, apart := false, narrowed := true }
def LinePlaysUptoSaid : Prop := linePlaysUptoRow.holds Try.pinned (OpenSpec.upto linePlaysSpec)

/-- 'roadlaw4.ExploreRuns', WHERE WHAT IT READS IS OF BULK AT MOST 1048576: true; the input reads as it did. -/
def exploreRunsUptoRow : OpenClaim := { program := "ytaecgapoaagjfaa", sum := "bf63f3477f22e79a1f0505041b006170459268fbd94111989f34a2d2ffaf35a2", func := "roadstead/roadlaw4.ExploreRuns", spec := "exploreRuns", apart := false, narrowed := true }
def ExploreRunsUptoSaid : Prop := exploreRunsUptoRow.holds Try.pinned (OpenSpec.upto exploreRunsSpec)

/-- 'roadlaw1.CodeTells', WHERE WHAT IT READS IS OF BULK AT MOST 1048576: true; the input reads as it did. -/
def codeTellsUptoRow : OpenClaim := { program := "ytaecgapoaagjfaa", sum := "bf63f3477f22e79a1f0505041b006170459268fbd94111989f34a2d2ffaf35a2", func := "roadstead/roadlaw1.CodeTells", spec := "codeTells", unfollowed := true, recurses := true, loops := true, apart := false, narrowed := true }
def CodeTellsUptoSaid : Prop := codeTellsUptoRow.holds Try.pinned (OpenSpec.upto codeTellsSpec)

/-- 'roadlaw4.WeightPlays', WHERE WHAT IT READS IS OF BULK AT MOST 1048576: true; the input reads as it did. -/
def weightPlaysUptoRow : OpenClaim := { program := "ytaecgapoaagjfaa", sum := "bf63f3477f22e79a1f0505041b006170459268fbd94111989f34a2d2ffaf35a2", func := "roadstead/roadlaw4.WeightPlays", spec := "weightPlays", apart := false, narrowed := true }
def WeightPlaysUptoSaid : Prop := weightPlaysUptoRow.holds Try.pinned (OpenSpec.upto weightPlaysSpec)

/-- 'roadlaw3.HeapPuts', WHERE WHAT IT READS IS OF BULK AT MOST 1048576: true; the input reads as it did. -/
def heapPutsUptoRow : OpenClaim := { program := "ytaecgapoaagjfaa", sum := "bf63f3477f22e79a1f0505041b006170459268fbd94111989f34a2d2ffaf35a2", func := "roadstead/roadlaw3.HeapPuts", spec := "heapPuts", apart := false, narrowed := true }
def HeapPutsUptoSaid : Prop := heapPutsUptoRow.holds Try.pinned (OpenSpec.upto heapPutsSpec)

/-- 'roadlaw4.ClockSays', WHERE WHAT IT READS IS OF BULK AT MOST 1048576: true; the input reads as it did. -/
def clockSaysUptoRow : OpenClaim := { program := "ytaecgapoaagjfaa", sum := "bf63f3477f22e79a1f0505041b006170459268fbd94111989f34a2d2ffaf35a2", func := "roadstead/roadlaw4.ClockSays", spec := "clockSays", unfollowed := true, recurses := true, apart := false, narrowed := true }
def ClockSaysUptoSaid : Prop := clockSaysUptoRow.holds Try.pinned (OpenSpec.upto clockSaysSpec)

/-- 'roadlaw4.TraceSays', WHERE WHAT IT READS IS OF BULK AT MOST 1048576: true; the input reads as it did. -/
def traceSaysUptoRow : OpenClaim := { program := "ytaecgapoaagjfaa", sum := "bf63f3477f22e79a1f0505041b006170459268fbd94111989f34a2d2ffaf35a2", func := "roadstead/roadlaw4.TraceSays", spec := "traceSays", unfollowed := true, recurses := true, apart := false, narrowed := true }
def TraceSaysUptoSaid : Prop := traceSaysUptoRow.holds Try.pinned (OpenSpec.upto traceSaysSpec)

/-- 'roadlaw3.PickTells', WHERE WHAT IT READS IS OF BULK AT MOST 1048576: true; the input reads as it did. -/
def pickTellsUptoRow : OpenClaim := { program := "ytaecgapoaagjfaa", sum := "bf63f3477f22e79a1f0505041b006170459268fbd94111989f34a2d2ffaf35a2", func := "roadstead/roadlaw3.PickTells", spec := "pickTells", unfollowed := true, recurses := true, loops := true, apart := false, narrowed := true }
def PickTellsUptoSaid : Prop := pickTellsUptoRow.holds Try.pinned (OpenSpec.upto pickTellsSpec)

/-- 'roadlaw3.StealTells', WHERE WHAT IT READS IS OF BULK AT MOST 1048576: true; the input reads as it did. -/
def stealTellsUptoRow : OpenClaim := { program := "ytaecgapoaagjfaa", sum := "bf63f3477f22e79a1f0505041b006170459268fbd94111989f34a2d2ffaf35a2", func := "roadstead/roadlaw3.StealTells", spec := "stealTells", apart := false, narrowed := true }
def StealTellsUptoSaid : Prop := stealTellsUptoRow.holds Try.pinned (OpenSpec.upto stealTellsSpec)

/-- 'roadlaw4.TraceTells', WHERE WHAT IT READS IS OF BULK AT MOST 1048576: true; the input reads as it did. -/
def traceTellsUptoRow : OpenClaim := { program := "ytaecgapoaagjfaa", sum := "bf63f3477f22e79a1f0505041b006170459268fbd94111989f34a2d2ffaf35a2", func := "roadstead/roadlaw4.TraceTells", spec := "traceTells", unfollowed := true, recurses := true, apart := false, narrowed := true }
def TraceTellsUptoSaid : Prop := traceTellsUptoRow.holds Try.pinned (OpenSpec.upto traceTellsSpec)

end Rows
end Go.Proofs.Ytaecgapoaagjfaa
