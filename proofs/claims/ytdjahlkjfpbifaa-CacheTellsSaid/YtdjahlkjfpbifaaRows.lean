/-
  NARROWER THAN 'FOR EVERY INPUT', by the rows' own cells (each row's printed sentence says how): PickTells: loops · CacheTells: loops · YoungTells: loops.
  DERIVED. THE GIVEN ROWS OF THIS SEAT. 7 by the template 'for every input the law returns true; each argument reads behind the call as it read before'; 0 by the template 'total and deterministic' (their statements: YtdjahlkjfpbifaaTotals.lean).
  GIVEN WITH THE SEED: the statements are not yours to turn. If you find one false, say at which input.
  Laid BY PROGRAM, IN A SANDBOX (cutbox-rows.mjs): the forced cells as the released guide's own fill.sh prints them over the translation ed73c772d3faaa5d… (all of the seat's roots in one cut). By AI agents, Wed Nov 11 2026. No macro, syntax, notation, axiom, sorry.
-/
import Derived.Test.YtdjahlkjfpbifaaChecked
import GoSem.Claim
import GoSem.ClaimJoined
import GoSem.ClaimMapViews
import Derived.JoinedTies
import Derived.KernelRfl
namespace Go.Proofs.Ytdjahlkjfpbifaa
/- THE CELL 'sum', in the pinned program and in every row, IS THE sha256 OF THE DUMP (.gsa) THAT YtdjahlkjfpbifaaProg.lean LOADS. Nothing in Lean hashes anything: it is a label: what it is worth is what the hold of that sum in a sandbox is worth. -/
noncomputable def Try.pinned : Pinned := { name := "ytdjahlkjfpbifaa", sum := "ed73c772d3faaa5d1a38a78ffcfd48ed3361a69a752c1af33cb2862e564ba65e", checked := Try.checked }
namespace Rows
def none {H : Type} : Left H := { results := [], args := [] }

/-- 'roadlaw3.PickTells': WHATEVER THE INPUT: true; the input reads as it did. -/
def pickTellsSpec : ChangeSpec := { name := "pickTells", fn := fun _ => fun
  | [d1, d2, d3] => { results := [.lit (.bool true)], args := [d1, d2, d3] }
  | _ => none }
def pickTellsRow : OpenClaim := { program := "ytdjahlkjfpbifaa", sum := "ed73c772d3faaa5d1a38a78ffcfd48ed3361a69a752c1af33cb2862e564ba65e", func := "roadstead/roadlaw3.PickTells", spec := "pickTells", unfollowed := true, recurses := true, loops := true, plainKeys := false, apart := false }
def PickTellsSaid : Prop := pickTellsRow.holds Try.pinned (OpenSpec.ofChange pickTellsSpec)

/-- ITS FALSE NEIGHBOUR: 'it returns false'. Refute it at one input. -/
def pickTellsWrong : ChangeSpec := { name := "pickTells", fn := fun _ => fun
  | [d1, d2, d3] => { results := [.lit (.bool false)], args := [d1, d2, d3] }
  | _ => none }
def PickTellsWrongFalsely : Prop := pickTellsRow.holds Try.pinned (OpenSpec.ofChange pickTellsWrong)

/-- 'roadlaw1.CacheTells': WHATEVER THE INPUT: true; the input reads as it did. -/
def cacheTellsSpec : ChangeSpec := { name := "cacheTells", fn := fun _ => fun
  | [d1, d2] => { results := [.lit (.bool true)], args := [d1, d2] }
  | _ => none }
def cacheTellsRow : OpenClaim := { program := "ytdjahlkjfpbifaa", sum := "ed73c772d3faaa5d1a38a78ffcfd48ed3361a69a752c1af33cb2862e564ba65e", func := "roadstead/roadlaw1.CacheTells", spec := "cacheTells", inPlace := ["slices.overlaps[roadstead/cache.Way]"], unfollowed := true, recurses := true, loops := true, plainKeys := false, apart := false }
def CacheTellsSaid : Prop := cacheTellsRow.holds Try.pinned (OpenSpec.ofChange cacheTellsSpec)

/-- ITS FALSE NEIGHBOUR: 'it returns false'. Refute it at one input. -/
def cacheTellsWrong : ChangeSpec := { name := "cacheTells", fn := fun _ => fun
  | [d1, d2] => { results := [.lit (.bool false)], args := [d1, d2] }
  | _ => none }
def CacheTellsWrongFalsely : Prop := cacheTellsRow.holds Try.pinned (OpenSpec.ofChange cacheTellsWrong)

/-- 'roadlaw3.CarryTells': WHATEVER THE INPUT: true; the input reads as it did. -/
def carryTellsSpec : ChangeSpec := { name := "carryTells", fn := fun _ => fun
  | [d1, d2, d3] => { results := [.lit (.bool true)], args := [d1, d2, d3] }
  | _ => none }
def carryTellsRow : OpenClaim := { program := "ytdjahlkjfpbifaa", sum := "ed73c772d3faaa5d1a38a78ffcfd48ed3361a69a752c1af33cb2862e564ba65e", func := "roadstead/roadlaw3.CarryTells", spec := "carryTells", recurses := true, plainKeys := false, apart := false }
def CarryTellsSaid : Prop := carryTellsRow.holds Try.pinned (OpenSpec.ofChange carryTellsSpec)

/-- ITS FALSE NEIGHBOUR: 'it returns false'. Refute it at one input. -/
def carryTellsWrong : ChangeSpec := { name := "carryTells", fn := fun _ => fun
  | [d1, d2, d3] => { results := [.lit (.bool false)], args := [d1, d2, d3] }
  | _ => none }
def CarryTellsWrongFalsely : Prop := carryTellsRow.holds Try.pinned (OpenSpec.ofChange carryTellsWrong)

/-- 'roadlaw3.YoungCopies': WHATEVER THE INPUT: true; the input reads as it did. -/
def youngCopiesSpec : ChangeSpec := { name := "youngCopies", fn := fun _ => fun
  | [d1, d2] => { results := [.lit (.bool true)], args := [d1, d2] }
  | _ => none }
def youngCopiesRow : OpenClaim := { program := "ytdjahlkjfpbifaa", sum := "ed73c772d3faaa5d1a38a78ffcfd48ed3361a69a752c1af33cb2862e564ba65e", func := "roadstead/roadlaw3.YoungCopies", spec := "youngCopies", plainKeys := false, apart := false }
def YoungCopiesSaid : Prop := youngCopiesRow.holds Try.pinned (OpenSpec.ofChange youngCopiesSpec)

/-- ITS FALSE NEIGHBOUR: 'it returns false'. Refute it at one input. -/
def youngCopiesWrong : ChangeSpec := { name := "youngCopies", fn := fun _ => fun
  | [d1, d2] => { results := [.lit (.bool false)], args := [d1, d2] }
  | _ => none }
def YoungCopiesWrongFalsely : Prop := youngCopiesRow.holds Try.pinned (OpenSpec.ofChange youngCopiesWrong)

/-- 'roadlaw3.CarryCells': WHATEVER THE INPUT: true; the input reads as it did. -/
def carryCellsSpec : ChangeSpec := { name := "carryCells", fn := fun _ => fun
  | [d1, d2] => { results := [.lit (.bool true)], args := [d1, d2] }
  | _ => none }
def carryCellsRow : OpenClaim := { program := "ytdjahlkjfpbifaa", sum := "ed73c772d3faaa5d1a38a78ffcfd48ed3361a69a752c1af33cb2862e564ba65e", func := "roadstead/roadlaw3.CarryCells", spec := "carryCells", recurses := true, plainKeys := false, apart := false }
def CarryCellsSaid : Prop := carryCellsRow.holds Try.pinned (OpenSpec.ofChange carryCellsSpec)

/-- ITS FALSE NEIGHBOUR: 'it returns false'. Refute it at one input. -/
def carryCellsWrong : ChangeSpec := { name := "carryCells", fn := fun _ => fun
  | [d1, d2] => { results := [.lit (.bool false)], args := [d1, d2] }
  | _ => none }
def CarryCellsWrongFalsely : Prop := carryCellsRow.holds Try.pinned (OpenSpec.ofChange carryCellsWrong)

/-- 'roadlaw3.TimerTells': WHATEVER THE INPUT: true; the input reads as it did. -/
def timerTellsSpec : ChangeSpec := { name := "timerTells", fn := fun _ => fun
  | [d1, d2, d3] => { results := [.lit (.bool true)], args := [d1, d2, d3] }
  | _ => none }
def timerTellsRow : OpenClaim := { program := "ytdjahlkjfpbifaa", sum := "ed73c772d3faaa5d1a38a78ffcfd48ed3361a69a752c1af33cb2862e564ba65e", func := "roadstead/roadlaw3.TimerTells", spec := "timerTells", inPlace := ["slices.overlaps[roadstead/timer.Due]"], unfollowed := true, recurses := true, plainKeys := false, apart := false }
def TimerTellsSaid : Prop := timerTellsRow.holds Try.pinned (OpenSpec.ofChange timerTellsSpec)

/-- ITS FALSE NEIGHBOUR: 'it returns false'. Refute it at one input. -/
def timerTellsWrong : ChangeSpec := { name := "timerTells", fn := fun _ => fun
  | [d1, d2, d3] => { results := [.lit (.bool false)], args := [d1, d2, d3] }
  | _ => none }
def TimerTellsWrongFalsely : Prop := timerTellsRow.holds Try.pinned (OpenSpec.ofChange timerTellsWrong)

/-- 'roadlaw3.YoungTells': WHATEVER THE INPUT: true; the input reads as it did. -/
def youngTellsSpec : ChangeSpec := { name := "youngTells", fn := fun _ => fun
  | [d1, d2, d3, d4] => { results := [.lit (.bool true)], args := [d1, d2, d3, d4] }
  | _ => none }
def youngTellsRow : OpenClaim := { program := "ytdjahlkjfpbifaa", sum := "ed73c772d3faaa5d1a38a78ffcfd48ed3361a69a752c1af33cb2862e564ba65e", func := "roadstead/roadlaw3.YoungTells", spec := "youngTells", unfollowed := true, recurses := true, loops := true, plainKeys := false, apart := false }
def YoungTellsSaid : Prop := youngTellsRow.holds Try.pinned (OpenSpec.ofChange youngTellsSpec)

/-- ITS FALSE NEIGHBOUR: 'it returns false'. Refute it at one input. -/
def youngTellsWrong : ChangeSpec := { name := "youngTells", fn := fun _ => fun
  | [d1, d2, d3, d4] => { results := [.lit (.bool false)], args := [d1, d2, d3, d4] }
  | _ => none }
def YoungTellsWrongFalsely : Prop := youngTellsRow.holds Try.pinned (OpenSpec.ofChange youngTellsWrong)

/- THE SECOND FORM. 'bulk': how many values and letters a reading holds, each counted each time it is reached (what is shared counts as often as it is met; a slice's spare places count too). A statement '..UptoSaid' is the law's where the arguments, and the package variables that the reading takes, are together of bulk at most 1048576: NARROWER than '..Said'. Prove '..Said' where nothing that the law and all that it calls make is longer than what came in: it says more and counts as full. Else prove '..UptoSaid'. A law counts once. -/
mutual
def uptoBulk {H : Type} : DataW H → Nat
  | .lit (.string bytes) => bytes.length + 1
  | .lit _ => 1
  | .nil => 1
  | .ptr d => uptoBulk d + 1
  | .slice elems spare => uptoBulkAll elems + uptoBulkAll spare + 1
  | .agg parts => uptoBulkAll parts + 1
  | .iface _ d => uptoBulk d + 1
  | .map entries => uptoBulkEntries entries + 1
  | .held _ => 1
def uptoBulkAll {H : Type} : List (DataW H) → Nat
  | [] => 0
  | d :: r => uptoBulk d + uptoBulkAll r
def uptoBulkEntries {H : Type} : List (Lit × DataW H) → Nat
  | [] => 0
  | x :: r => uptoBulkEntry x + uptoBulkEntries r
def uptoBulkEntry {H : Type} : Lit × DataW H → Nat
  | (.string bytes, d) => bytes.length + uptoBulk d + 1
  | (_, d) => uptoBulk d + 1
 end
def uptoSmall : (H : Type) → List (DataW H) → Bool := fun _ ds => decide (uptoBulkAll ds ≤ 1048576)
def OpenSpec.upto (s : _root_.Go.ChangeSpec) : _root_.Go.OpenSpec := { _root_.Go.OpenSpec.ofChange s with cond := some uptoSmall }

/-- 'roadlaw3.PickTells', WHERE WHAT IT READS IS OF BULK AT MOST 1048576: true; the input reads as it did. -/
def pickTellsUptoRow : OpenClaim := { program := "ytdjahlkjfpbifaa", sum := "ed73c772d3faaa5d1a38a78ffcfd48ed3361a69a752c1af33cb2862e564ba65e", func := "roadstead/roadlaw3.PickTells", spec := "pickTells", unfollowed := true, recurses := true, loops := true, plainKeys := false, apart := false, narrowed := true }
def PickTellsUptoSaid : Prop := pickTellsUptoRow.holds Try.pinned (OpenSpec.upto pickTellsSpec)

/-- 'roadlaw1.CacheTells', WHERE WHAT IT READS IS OF BULK AT MOST 1048576: true; the input reads as it did. -/
def cacheTellsUptoRow : OpenClaim := { program := "ytdjahlkjfpbifaa", sum := "ed73c772d3faaa5d1a38a78ffcfd48ed3361a69a752c1af33cb2862e564ba65e", func := "roadstead/roadlaw1.CacheTells", spec := "cacheTells", inPlace := ["slices.overlaps[roadstead/cache.Way]"], unfollowed := true, recurses := true, loops := true, plainKeys := false, apart := false, narrowed := true }
def CacheTellsUptoSaid : Prop := cacheTellsUptoRow.holds Try.pinned (OpenSpec.upto cacheTellsSpec)

/-- 'roadlaw3.CarryTells', WHERE WHAT IT READS IS OF BULK AT MOST 1048576: true; the input reads as it did. -/
def carryTellsUptoRow : OpenClaim := { program := "ytdjahlkjfpbifaa", sum := "ed73c772d3faaa5d1a38a78ffcfd48ed3361a69a752c1af33cb2862e564ba65e", func := "roadstead/roadlaw3.CarryTells", spec := "carryTells", recurses := true, plainKeys := false, apart := false, narrowed := true }
def CarryTellsUptoSaid : Prop := carryTellsUptoRow.holds Try.pinned (OpenSpec.upto carryTellsSpec)

/-- 'roadlaw3.YoungCopies', WHERE WHAT IT READS IS OF BULK AT MOST 1048576: true; the input reads as it did. -/
def youngCopiesUptoRow : OpenClaim := { program := "ytdjahlkjfpbifaa", sum := "ed73c772d3faaa5d1a38a78ffcfd48ed3361a69a752c1af33cb2862e564ba65e", func := "roadstead/roadlaw3.YoungCopies", spec := "youngCopies", plainKeys := false, apart := false, narrowed := true }
def YoungCopiesUptoSaid : Prop := youngCopiesUptoRow.holds Try.pinned (OpenSpec.upto youngCopiesSpec)

/-- 'roadlaw3.CarryCells', WHERE WHAT IT READS IS OF BULK AT MOST 1048576: true; the input reads as it did. -/
def carryCellsUptoRow : OpenClaim := { program := "ytdjahlkjfpbifaa", sum := "ed73c772d3faaa5d1a38a78ffcfd48ed3361a69a752c1af33cb2862e564ba65e", func := "roadstead/roadlaw3.CarryCells", spec := "carryCells", recurses := true, plainKeys := false, apart := false, narrowed := true }
def CarryCellsUptoSaid : Prop := carryCellsUptoRow.holds Try.pinned (OpenSpec.upto carryCellsSpec)

/-- 'roadlaw3.TimerTells', WHERE WHAT IT READS IS OF BULK AT MOST 1048576: true; the input reads as it did. -/
def timerTellsUptoRow : OpenClaim := { program := "ytdjahlkjfpbifaa", sum := "ed73c772d3faaa5d1a38a78ffcfd48ed3361a69a752c1af33cb2862e564ba65e", func := "roadstead/roadlaw3.TimerTells", spec := "timerTells", inPlace := ["slices.overlaps[roadstead/timer.Due]"], unfollowed := true, recurses := true, plainKeys := false, apart := false, narrowed := true }
def TimerTellsUptoSaid : Prop := timerTellsUptoRow.holds Try.pinned (OpenSpec.upto timerTellsSpec)

/-- 'roadlaw3.YoungTells', WHERE WHAT IT READS IS OF BULK AT MOST 1048576: true; the input reads as it did. -/
def youngTellsUptoRow : OpenClaim := { program := "ytdjahlkjfpbifaa", sum := "ed73c772d3faaa5d1a38a78ffcfd48ed3361a69a752c1af33cb2862e564ba65e", func := "roadstead/roadlaw3.YoungTells", spec := "youngTells", unfollowed := true, recurses := true, loops := true, plainKeys := false, apart := false, narrowed := true }
def YoungTellsUptoSaid : Prop := youngTellsUptoRow.holds Try.pinned (OpenSpec.upto youngTellsSpec)

end Rows
end Go.Proofs.Ytdjahlkjfpbifaa
