/-
  NARROWER THAN 'FOR EVERY INPUT', by the rows' own cells (each row's printed sentence says how): CodeTells: loops · PickTells: loops · CacheTells: loops.
  DERIVED. THE GIVEN ROWS OF THIS SEAT. 12 by the template 'for every input the law returns true; each argument reads behind the call as it read before'; 0 by the template 'total and deterministic' (their statements: YtcmkkfpcdebfkaaTotals.lean).
  GIVEN WITH THE SEED: the statements are not yours to turn. If you find one false, say at which input.
  Laid BY PROGRAM, IN A SANDBOX (cutbox-rows.mjs): the forced cells as the released guide's own fill.sh prints them over the translation 648d2b0fac10a997… (all of the seat's roots in one cut). By AI agents, Wed Nov 11 2026. No macro, syntax, notation, axiom, sorry.
-/
import Derived.Test.YtcmkkfpcdebfkaaChecked
import GoSem.Claim
import GoSem.ClaimJoined
import GoSem.ClaimMapViews
import Derived.JoinedTies
import Derived.KernelRfl
namespace Go.Proofs.Ytcmkkfpcdebfkaa
/- THE CELL 'sum', in the pinned program and in every row, IS THE sha256 OF THE DUMP (.gsa) THAT YtcmkkfpcdebfkaaProg.lean LOADS. Nothing in Lean hashes anything: it is a label: what it is worth is what the hold of that sum in a sandbox is worth. -/
noncomputable def Try.pinned : Pinned := { name := "ytcmkkfpcdebfkaa", sum := "648d2b0fac10a997f5cc6a2e3fc407ff28db77c4f372488559353120f0a3c87c", checked := Try.checked }
namespace Rows
def none {H : Type} : Left H := { results := [], args := [] }

/-- 'roadlaw4.CutAll': WHATEVER THE INPUT: true; the input reads as it did. -/
def cutAllSpec : ChangeSpec := { name := "cutAll", fn := fun _ => fun
  | [d] => { results := [.lit (.bool true)], args := [d] }
  | _ => none }
def cutAllRow : OpenClaim := { program := "ytcmkkfpcdebfkaa", sum := "648d2b0fac10a997f5cc6a2e3fc407ff28db77c4f372488559353120f0a3c87c", func := "roadstead/roadlaw4.CutAll", spec := "cutAll", unfollowed := true, recurses := true, plainKeys := false, apart := false }
def CutAllSaid : Prop := cutAllRow.holds Try.pinned (OpenSpec.ofChange cutAllSpec)

/-- ITS FALSE NEIGHBOUR: 'it returns false'. Refute it at one input. -/
def cutAllWrong : ChangeSpec := { name := "cutAll", fn := fun _ => fun
  | [d] => { results := [.lit (.bool false)], args := [d] }
  | _ => none }
def CutAllWrongFalsely : Prop := cutAllRow.holds Try.pinned (OpenSpec.ofChange cutAllWrong)

/-- 'roadlaw4.ExploreRuns': WHATEVER THE INPUT: true; the input reads as it did. -/
def exploreRunsSpec : ChangeSpec := { name := "exploreRuns", fn := fun _ => fun
  | [d1, d2] => { results := [.lit (.bool true)], args := [d1, d2] }
  | _ => none }
def exploreRunsRow : OpenClaim := { program := "ytcmkkfpcdebfkaa", sum := "648d2b0fac10a997f5cc6a2e3fc407ff28db77c4f372488559353120f0a3c87c", func := "roadstead/roadlaw4.ExploreRuns", spec := "exploreRuns", plainKeys := false, apart := false }
def ExploreRunsSaid : Prop := exploreRunsRow.holds Try.pinned (OpenSpec.ofChange exploreRunsSpec)

/-- ITS FALSE NEIGHBOUR: 'it returns false'. Refute it at one input. -/
def exploreRunsWrong : ChangeSpec := { name := "exploreRuns", fn := fun _ => fun
  | [d1, d2] => { results := [.lit (.bool false)], args := [d1, d2] }
  | _ => none }
def ExploreRunsWrongFalsely : Prop := exploreRunsRow.holds Try.pinned (OpenSpec.ofChange exploreRunsWrong)

/-- 'roadlaw1.CodeTells': WHATEVER THE INPUT: true; the input reads as it did. -/
def codeTellsSpec : ChangeSpec := { name := "codeTells", fn := fun _ => fun
  | [d1, d2, d3, d4] => { results := [.lit (.bool true)], args := [d1, d2, d3, d4] }
  | _ => none }
def codeTellsRow : OpenClaim := { program := "ytcmkkfpcdebfkaa", sum := "648d2b0fac10a997f5cc6a2e3fc407ff28db77c4f372488559353120f0a3c87c", func := "roadstead/roadlaw1.CodeTells", spec := "codeTells", unfollowed := true, recurses := true, loops := true, plainKeys := false, apart := false }
def CodeTellsSaid : Prop := codeTellsRow.holds Try.pinned (OpenSpec.ofChange codeTellsSpec)

/-- ITS FALSE NEIGHBOUR: 'it returns false'. Refute it at one input. -/
def codeTellsWrong : ChangeSpec := { name := "codeTells", fn := fun _ => fun
  | [d1, d2, d3, d4] => { results := [.lit (.bool false)], args := [d1, d2, d3, d4] }
  | _ => none }
def CodeTellsWrongFalsely : Prop := codeTellsRow.holds Try.pinned (OpenSpec.ofChange codeTellsWrong)

/-- 'roadlaw4.WeightPlays': WHATEVER THE INPUT: true; the input reads as it did. -/
def weightPlaysSpec : ChangeSpec := { name := "weightPlays", fn := fun _ => fun
  | [d1, d2] => { results := [.lit (.bool true)], args := [d1, d2] }
  | _ => none }
def weightPlaysRow : OpenClaim := { program := "ytcmkkfpcdebfkaa", sum := "648d2b0fac10a997f5cc6a2e3fc407ff28db77c4f372488559353120f0a3c87c", func := "roadstead/roadlaw4.WeightPlays", spec := "weightPlays", plainKeys := false, apart := false }
def WeightPlaysSaid : Prop := weightPlaysRow.holds Try.pinned (OpenSpec.ofChange weightPlaysSpec)

/-- ITS FALSE NEIGHBOUR: 'it returns false'. Refute it at one input. -/
def weightPlaysWrong : ChangeSpec := { name := "weightPlays", fn := fun _ => fun
  | [d1, d2] => { results := [.lit (.bool false)], args := [d1, d2] }
  | _ => none }
def WeightPlaysWrongFalsely : Prop := weightPlaysRow.holds Try.pinned (OpenSpec.ofChange weightPlaysWrong)

/-- 'roadlaw3.HeapPuts': WHATEVER THE INPUT: true; the input reads as it did. -/
def heapPutsSpec : ChangeSpec := { name := "heapPuts", fn := fun _ => fun
  | [d1, d2, d3] => { results := [.lit (.bool true)], args := [d1, d2, d3] }
  | _ => none }
def heapPutsRow : OpenClaim := { program := "ytcmkkfpcdebfkaa", sum := "648d2b0fac10a997f5cc6a2e3fc407ff28db77c4f372488559353120f0a3c87c", func := "roadstead/roadlaw3.HeapPuts", spec := "heapPuts", plainKeys := false, apart := false }
def HeapPutsSaid : Prop := heapPutsRow.holds Try.pinned (OpenSpec.ofChange heapPutsSpec)

/-- ITS FALSE NEIGHBOUR: 'it returns false'. Refute it at one input. -/
def heapPutsWrong : ChangeSpec := { name := "heapPuts", fn := fun _ => fun
  | [d1, d2, d3] => { results := [.lit (.bool false)], args := [d1, d2, d3] }
  | _ => none }
def HeapPutsWrongFalsely : Prop := heapPutsRow.holds Try.pinned (OpenSpec.ofChange heapPutsWrong)

/-- 'roadlaw4.ClockSays': WHATEVER THE INPUT: true; the input reads as it did. -/
def clockSaysSpec : ChangeSpec := { name := "clockSays", fn := fun _ => fun
  | [d1, d2, d3] => { results := [.lit (.bool true)], args := [d1, d2, d3] }
  | _ => none }
def clockSaysRow : OpenClaim := { program := "ytcmkkfpcdebfkaa", sum := "648d2b0fac10a997f5cc6a2e3fc407ff28db77c4f372488559353120f0a3c87c", func := "roadstead/roadlaw4.ClockSays", spec := "clockSays", unfollowed := true, recurses := true, plainKeys := false, apart := false }
def ClockSaysSaid : Prop := clockSaysRow.holds Try.pinned (OpenSpec.ofChange clockSaysSpec)

/-- ITS FALSE NEIGHBOUR: 'it returns false'. Refute it at one input. -/
def clockSaysWrong : ChangeSpec := { name := "clockSays", fn := fun _ => fun
  | [d1, d2, d3] => { results := [.lit (.bool false)], args := [d1, d2, d3] }
  | _ => none }
def ClockSaysWrongFalsely : Prop := clockSaysRow.holds Try.pinned (OpenSpec.ofChange clockSaysWrong)

/-- 'roadlaw4.TraceSays': WHATEVER THE INPUT: true; the input reads as it did. -/
def traceSaysSpec : ChangeSpec := { name := "traceSays", fn := fun _ => fun
  | [d1, d2] => { results := [.lit (.bool true)], args := [d1, d2] }
  | _ => none }
def traceSaysRow : OpenClaim := { program := "ytcmkkfpcdebfkaa", sum := "648d2b0fac10a997f5cc6a2e3fc407ff28db77c4f372488559353120f0a3c87c", func := "roadstead/roadlaw4.TraceSays", spec := "traceSays", unfollowed := true, recurses := true, plainKeys := false, apart := false }
def TraceSaysSaid : Prop := traceSaysRow.holds Try.pinned (OpenSpec.ofChange traceSaysSpec)

/-- ITS FALSE NEIGHBOUR: 'it returns false'. Refute it at one input. -/
def traceSaysWrong : ChangeSpec := { name := "traceSays", fn := fun _ => fun
  | [d1, d2] => { results := [.lit (.bool false)], args := [d1, d2] }
  | _ => none }
def TraceSaysWrongFalsely : Prop := traceSaysRow.holds Try.pinned (OpenSpec.ofChange traceSaysWrong)

/-- 'roadlaw3.PickTells': WHATEVER THE INPUT: true; the input reads as it did. -/
def pickTellsSpec : ChangeSpec := { name := "pickTells", fn := fun _ => fun
  | [d1, d2, d3] => { results := [.lit (.bool true)], args := [d1, d2, d3] }
  | _ => none }
def pickTellsRow : OpenClaim := { program := "ytcmkkfpcdebfkaa", sum := "648d2b0fac10a997f5cc6a2e3fc407ff28db77c4f372488559353120f0a3c87c", func := "roadstead/roadlaw3.PickTells", spec := "pickTells", unfollowed := true, recurses := true, loops := true, plainKeys := false, apart := false }
def PickTellsSaid : Prop := pickTellsRow.holds Try.pinned (OpenSpec.ofChange pickTellsSpec)

/-- ITS FALSE NEIGHBOUR: 'it returns false'. Refute it at one input. -/
def pickTellsWrong : ChangeSpec := { name := "pickTells", fn := fun _ => fun
  | [d1, d2, d3] => { results := [.lit (.bool false)], args := [d1, d2, d3] }
  | _ => none }
def PickTellsWrongFalsely : Prop := pickTellsRow.holds Try.pinned (OpenSpec.ofChange pickTellsWrong)

/-- 'roadlaw4.TraceTells': WHATEVER THE INPUT: true; the input reads as it did. -/
def traceTellsSpec : ChangeSpec := { name := "traceTells", fn := fun _ => fun
  | [d1, d2, d3, d4] => { results := [.lit (.bool true)], args := [d1, d2, d3, d4] }
  | _ => none }
def traceTellsRow : OpenClaim := { program := "ytcmkkfpcdebfkaa", sum := "648d2b0fac10a997f5cc6a2e3fc407ff28db77c4f372488559353120f0a3c87c", func := "roadstead/roadlaw4.TraceTells", spec := "traceTells", unfollowed := true, recurses := true, plainKeys := false, apart := false }
def TraceTellsSaid : Prop := traceTellsRow.holds Try.pinned (OpenSpec.ofChange traceTellsSpec)

/-- ITS FALSE NEIGHBOUR: 'it returns false'. Refute it at one input. -/
def traceTellsWrong : ChangeSpec := { name := "traceTells", fn := fun _ => fun
  | [d1, d2, d3, d4] => { results := [.lit (.bool false)], args := [d1, d2, d3, d4] }
  | _ => none }
def TraceTellsWrongFalsely : Prop := traceTellsRow.holds Try.pinned (OpenSpec.ofChange traceTellsWrong)

/-- 'roadlaw1.CacheTells': WHATEVER THE INPUT: true; the input reads as it did. -/
def cacheTellsSpec : ChangeSpec := { name := "cacheTells", fn := fun _ => fun
  | [d1, d2] => { results := [.lit (.bool true)], args := [d1, d2] }
  | _ => none }
def cacheTellsRow : OpenClaim := { program := "ytcmkkfpcdebfkaa", sum := "648d2b0fac10a997f5cc6a2e3fc407ff28db77c4f372488559353120f0a3c87c", func := "roadstead/roadlaw1.CacheTells", spec := "cacheTells", inPlace := ["slices.overlaps[roadstead/cache.Way]"], unfollowed := true, recurses := true, loops := true, plainKeys := false, apart := false }
def CacheTellsSaid : Prop := cacheTellsRow.holds Try.pinned (OpenSpec.ofChange cacheTellsSpec)

/-- ITS FALSE NEIGHBOUR: 'it returns false'. Refute it at one input. -/
def cacheTellsWrong : ChangeSpec := { name := "cacheTells", fn := fun _ => fun
  | [d1, d2] => { results := [.lit (.bool false)], args := [d1, d2] }
  | _ => none }
def CacheTellsWrongFalsely : Prop := cacheTellsRow.holds Try.pinned (OpenSpec.ofChange cacheTellsWrong)

/-- 'roadlaw3.WardTells': WHATEVER THE INPUT: true; the input reads as it did. -/
def wardTellsSpec : ChangeSpec := { name := "wardTells", fn := fun _ => fun
  | [d1, d2, d3, d4, d5] => { results := [.lit (.bool true)], args := [d1, d2, d3, d4, d5] }
  | _ => none }
def wardTellsRow : OpenClaim := { program := "ytcmkkfpcdebfkaa", sum := "648d2b0fac10a997f5cc6a2e3fc407ff28db77c4f372488559353120f0a3c87c", func := "roadstead/roadlaw3.WardTells", spec := "wardTells", unfollowed := true, recurses := true, plainKeys := false, apart := false }
def WardTellsSaid : Prop := wardTellsRow.holds Try.pinned (OpenSpec.ofChange wardTellsSpec)

/-- ITS FALSE NEIGHBOUR: 'it returns false'. Refute it at one input. -/
def wardTellsWrong : ChangeSpec := { name := "wardTells", fn := fun _ => fun
  | [d1, d2, d3, d4, d5] => { results := [.lit (.bool false)], args := [d1, d2, d3, d4, d5] }
  | _ => none }
def WardTellsWrongFalsely : Prop := wardTellsRow.holds Try.pinned (OpenSpec.ofChange wardTellsWrong)

/-- 'roadlaw3.CarryTells': WHATEVER THE INPUT: true; the input reads as it did. -/
def carryTellsSpec : ChangeSpec := { name := "carryTells", fn := fun _ => fun
  | [d1, d2, d3] => { results := [.lit (.bool true)], args := [d1, d2, d3] }
  | _ => none }
def carryTellsRow : OpenClaim := { program := "ytcmkkfpcdebfkaa", sum := "648d2b0fac10a997f5cc6a2e3fc407ff28db77c4f372488559353120f0a3c87c", func := "roadstead/roadlaw3.CarryTells", spec := "carryTells", recurses := true, plainKeys := false, apart := false }
def CarryTellsSaid : Prop := carryTellsRow.holds Try.pinned (OpenSpec.ofChange carryTellsSpec)

/-- ITS FALSE NEIGHBOUR: 'it returns false'. Refute it at one input. -/
def carryTellsWrong : ChangeSpec := { name := "carryTells", fn := fun _ => fun
  | [d1, d2, d3] => { results := [.lit (.bool false)], args := [d1, d2, d3] }
  | _ => none }
def CarryTellsWrongFalsely : Prop := carryTellsRow.holds Try.pinned (OpenSpec.ofChange carryTellsWrong)

/- THE SECOND FORM. 'bulk': how many values and letters a reading holds, each counted each time it is reached (what is shared counts as often as it is met; a slice's spare places count too). A statement '..UptoSaid' is the law's where the arguments, and the package variables that the reading takes, are together of bulk at most 1048576: NARROWER than '..Said'. Prove '..Said' where nothing that the law and all that it calls make is longer than what came in: it says more and counts as full. Else prove '..UptoSaid'. A law counts once. -/
mutual
def uptoBulk {H : Type} : DataW H → Nat
  | .lit (.string bytes) => bytes.length + 1
  | .lit _ => 1
  | .nil => 1
  | .ptr d => uptoBulk d + 1
  | .slice elems spare => uptoBulkAll elems + uptoBulkAll spare + 1
  | .agg parts => uptoBulkAll parts + 1
  | .iface _ d => uptoBulk d + 1
  | .map entries => uptoBulkEntries entries + 1
  | .held _ => 1
def uptoBulkAll {H : Type} : List (DataW H) → Nat
  | [] => 0
  | d :: r => uptoBulk d + uptoBulkAll r
def uptoBulkEntries {H : Type} : List (Lit × DataW H) → Nat
  | [] => 0
  | x :: r => uptoBulkEntry x + uptoBulkEntries r
def uptoBulkEntry {H : Type} : Lit × DataW H → Nat
  | (.string bytes, d) => bytes.length + uptoBulk d + 1
  | (_, d) => uptoBulk d + 1
 end
def uptoSmall : (H : Type) → List (DataW H) → Bool := fun _ ds => decide (uptoBulkAll ds ≤ 1048576)
def OpenSpec.upto (s : _root_.Go.ChangeSpec) : _root_.Go.OpenSpec := { _root_.Go.OpenSpec.ofChange s with cond := some uptoSmall }

/-- 'roadlaw4.CutAll', WHERE WHAT IT READS IS OF BULK AT MOST 1048576: true; the input reads as it did. -/
def cutAllUptoRow : OpenClaim := { program := "ytcmkkfpcdebfkaa", sum := "648d2b0fac10a997f5cc6a2e3fc407ff28db77c4f372488559353120f0a3c87c", func := "roadstead/roadlaw4.CutAll", spec := "cutAll", unfollowed := true, recurses := true, plainKeys := false, apart := false, narrowed := true }
def CutAllUptoSaid : Prop := cutAllUptoRow.holds Try.pinned (OpenSpec.upto cutAllSpec)

/-- 'roadlaw4.ExploreRuns', WHERE WHAT IT READS IS OF BULK AT MOST 1048576: true; the input reads as it did. -/
def exploreRunsUptoRow : OpenClaim := { program := "ytcmkkfpcdebfkaa", sum := "648d2b0fac10a997f5cc6a2e3fc407ff28db77c4f372488559353120f0a3c87c", func := "roadstead/roadlaw4.ExploreRuns", spec := "exploreRuns", plainKeys := false, apart := false, narrowed := true }
def ExploreRunsUptoSaid : Prop := exploreRunsUptoRow.holds Try.pinned (OpenSpec.upto exploreRunsSpec)

/-- 'roadlaw1.CodeTells', WHERE WHAT IT READS IS OF BULK AT MOST 1048576: true; the input reads as it did. -/
def codeTellsUptoRow : OpenClaim := { program := "ytcmkkfpcdebfkaa", sum := "648d2b0fac10a997f5cc6a2e3fc407ff28db77c4f372488559353120f0a3c87c", func := "roadstead/roadlaw1.CodeTells", spec := "codeTells", unfollowed := true, recurses := true, loops := true, plainKeys := false, apart := false, narrowed := true }
def CodeTellsUptoSaid : Prop := codeTellsUptoRow.holds Try.pinned (OpenSpec.upto codeTellsSpec)

/-- 'roadlaw4.WeightPlays', WHERE WHAT IT READS IS OF BULK AT MOST 1048576: true; the input reads as it did. -/
def weightPlaysUptoRow : OpenClaim := { program := "ytcmkkfpcdebfkaa", sum := "648d2b0fac10a997f5cc6a2e3fc407ff28db77c4f372488559353120f0a3c87c", func := "roadstead/roadlaw4.WeightPlays", spec := "weightPlays", plainKeys := false, apart := false, narrowed := true }
def WeightPlaysUptoSaid : Prop := weightPlaysUptoRow.holds Try.pinned (OpenSpec.upto weightPlaysSpec)

/-- 'roadlaw3.HeapPuts', WHERE WHAT IT READS IS OF BULK AT MOST 1048576: true; the input reads as it did. -/
def heapPutsUptoRow : OpenClaim := { program := "ytcmkkfpcdebfkaa", sum := "648d2b0fac10a997f5cc6a2e3fc407ff28db77c4f372488559353120f0a3c87c", func := "roadstead/roadlaw3.HeapPuts", spec := "heapPuts", plainKeys := false, apart := false, narrowed := true }
def HeapPutsUptoSaid : Prop := heapPutsUptoRow.holds Try.pinned (OpenSpec.upto heapPutsSpec)

/-- 'roadlaw4.ClockSays', WHERE WHAT IT READS IS OF BULK AT MOST 1048576: true; the input reads as it did. -/
def clockSaysUptoRow : OpenClaim := { program := "ytcmkkfpcdebfkaa", sum := "648d2b0fac10a997f5cc6a2e3fc407ff28db77c4f372488559353120f0a3c87c", func := "roadstead/roadlaw4.ClockSays", spec := "clockSays", unfollowed := true, recurses := true, plainKeys := false, apart := false, narrowed := true }
def ClockSaysUptoSaid : Prop := clockSaysUptoRow.holds Try.pinned (OpenSpec.upto clockSaysSpec)

/-- 'roadlaw4.TraceSays', WHERE WHAT IT READS IS OF BULK AT MOST 1048576: true; the input reads as it did. -/
def traceSaysUptoRow : OpenClaim := { program := "ytcmkkfpcdebfkaa", sum := "648d2b0fac10a997f5cc6a2e3fc407ff28db77c4f372488559353120f0a3c87c", func := "roadstead/roadlaw4.TraceSays", spec := "traceSays", unfollowed := true, recurses := true, plainKeys := false, apart := false, narrowed := true }
def TraceSaysUptoSaid : Prop := traceSaysUptoRow.holds Try.pinned (OpenSpec.upto traceSaysSpec)

/-- 'roadlaw3.PickTells', WHERE WHAT IT READS IS OF BULK AT MOST 1048576: true; the input reads as it did. -/
def pickTellsUptoRow : OpenClaim := { program := "ytcmkkfpcdebfkaa", sum := "648d2b0fac10a997f5cc6a2e3fc407ff28db77c4f372488559353120f0a3c87c", func := "roadstead/roadlaw3.PickTells", spec := "pickTells", unfollowed := true, recurses := true, loops := true, plainKeys := false, apart := false, narrowed := true }
def PickTellsUptoSaid : Prop := pickTellsUptoRow.holds Try.pinned (OpenSpec.upto pickTellsSpec)

/-- 'roadlaw4.TraceTells', WHERE WHAT IT READS IS OF BULK AT MOST 1048576: true; the input reads as it did. -/
def traceTellsUptoRow : OpenClaim := { program := "ytcmkkfpcdebfkaa", sum := "648d2b0fac10a997f5cc6a2e3fc407ff28db77c4f372488559353120f0a3c87c", func := "roadstead/roadlaw4.TraceTells", spec := "traceTells", unfollowed := true, recurses := true, plainKeys := false, apart := false, narrowed := true }
def TraceTellsUptoSaid : Prop := traceTellsUptoRow.holds Try.pinned (OpenSpec.upto traceTellsSpec)

/-- 'roadlaw1.CacheTells', WHERE WHAT IT READS IS OF BULK AT MOST 1048576: true; the input reads as it did. -/
def cacheTellsUptoRow : OpenClaim := { program := "ytcmkkfpcdebfkaa", sum := "648d2b0fac10a997f5cc6a2e3fc407ff28db77c4f372488559353120f0a3c87c", func := "roadstead/roadlaw1.CacheTells", spec := "cacheTells", inPlace := ["slices.overlaps[roadstead/cache.Way]"], unfollowed := true, recurses := true, loops := true, plainKeys := false, apart := false, narrowed := true }
def CacheTellsUptoSaid : Prop := cacheTellsUptoRow.holds Try.pinned (OpenSpec.upto cacheTellsSpec)

/-- 'roadlaw3.WardTells', WHERE WHAT IT READS IS OF BULK AT MOST 1048576: true; the input reads as it did. -/
def wardTellsUptoRow : OpenClaim := { program := "ytcmkkfpcdebfkaa", sum := "648d2b0fac10a997f5cc6a2e3fc407ff28db77c4f372488559353120f0a3c87c", func := "roadstead/roadlaw3.WardTells", spec := "wardTells", unfollowed := true, recurses := true, plainKeys := false, apart := false, narrowed := true }
def WardTellsUptoSaid : Prop := wardTellsUptoRow.holds Try.pinned (OpenSpec.upto wardTellsSpec)

/-- 'roadlaw3.CarryTells', WHERE WHAT IT READS IS OF BULK AT MOST 1048576: true; the input reads as it did. -/
def carryTellsUptoRow : OpenClaim := { program := "ytcmkkfpcdebfkaa", sum := "648d2b0fac10a997f5cc6a2e3fc407ff28db77c4f372488559353120f0a3c87c", func := "roadstead/roadlaw3.CarryTells", spec := "carryTells", recurses := true, plainKeys := false, apart := false, narrowed := true }
def CarryTellsUptoSaid : Prop := carryTellsUptoRow.holds Try.pinned (OpenSpec.upto carryTellsSpec)

end Rows
end Go.Proofs.Ytcmkkfpcdebfkaa
