/-
  No cell of these rows narrows 'for every input' (looked for: loops, veiled, ifaces, maps, wideKeys, modest, calm, conditions, laid).
  DERIVED. THE GIVEN ROWS OF THIS SEAT. 2 by the template 'for every input the law returns true; each argument reads behind the call as it read before'; 0 by the template 'total and deterministic' (their statements: YtbhdagjilmgahaaTotals.lean).
  GIVEN WITH THE SEED: the statements are not yours to turn. If you find one false, say at which input.
  Laid BY PROGRAM, IN A SANDBOX (cutbox-rows.mjs): the forced cells as the released guide's own fill.sh prints them over the translation 712dab903c30b51c… (all of the seat's roots in one cut). By AI agents, Wed Nov 11 2026. No macro, syntax, notation, axiom, sorry.
-/
import Derived.Test.YtbhdagjilmgahaaChecked
import GoSem.Claim
import GoSem.ClaimJoined
import GoSem.ClaimMapViews
import Derived.JoinedTies
import Derived.KernelRfl
namespace Go.Proofs.Ytbhdagjilmgahaa
/- THE CELL 'sum', in the pinned program and in every row, IS THE sha256 OF THE DUMP (.gsa) THAT YtbhdagjilmgahaaProg.lean LOADS. Nothing in Lean hashes anything: it is a label: what it is worth is what the hold of that sum in a sandbox is worth. -/
noncomputable def Try.pinned : Pinned := { name := "ytbhdagjilmgahaa", sum := "712dab903c30b51cd40ad6f3c4b485ee25edf48ca2dbc7ac2c4a8bacdee50990", checked := Try.checked }
namespace Rows
def none {H : Type} : Left H := { results := [], args := [] }

/-- 'roadlaw4.CycleSays': WHATEVER THE INPUT: true; the input reads as it did. -/
def cycleSaysSpec : ChangeSpec := { name := "cycleSays", fn := fun _ => fun
  | [d] => { results := [.lit (.bool true)], args := [d] }
  | _ => none }
def cycleSaysRow : OpenClaim := { program := "ytbhdagjilmgahaa", sum := "712dab903c30b51cd40ad6f3c4b485ee25edf48ca2dbc7ac2c4a8bacdee50990", func := "roadstead/roadlaw4.CycleSays", spec := "cycleSays", unfollowed := true, recurses := true, apart := false }
def CycleSaysSaid : Prop := cycleSaysRow.holds Try.pinned (OpenSpec.ofChange cycleSaysSpec)

/-- ITS FALSE NEIGHBOUR: 'it returns false'. Refute it at one input. -/
def cycleSaysWrong : ChangeSpec := { name := "cycleSays", fn := fun _ => fun
  | [d] => { results := [.lit (.bool false)], args := [d] }
  | _ => none }
def CycleSaysWrongFalsely : Prop := cycleSaysRow.holds Try.pinned (OpenSpec.ofChange cycleSaysWrong)

/-- 'roadlaw4.CyclePlays': WHATEVER THE INPUT: true; the input reads as it did. -/
def cyclePlaysSpec : ChangeSpec := { name := "cyclePlays", fn := fun _ => fun
  | [d1, d2] => { results := [.lit (.bool true)], args := [d1, d2] }
  | _ => none }
def cyclePlaysRow : OpenClaim := { program := "ytbhdagjilmgahaa", sum := "712dab903c30b51cd40ad6f3c4b485ee25edf48ca2dbc7ac2c4a8bacdee50990", func := "roadstead/roadlaw4.CyclePlays", spec := "cyclePlays", unfollowed := true, recurses := true, apart := false }
def CyclePlaysSaid : Prop := cyclePlaysRow.holds Try.pinned (OpenSpec.ofChange cyclePlaysSpec)

/-- ITS FALSE NEIGHBOUR: 'it returns false'. Refute it at one input. -/
def cyclePlaysWrong : ChangeSpec := { name := "cyclePlays", fn := fun _ => fun
  | [d1, d2] => { results := [.lit (.bool false)], args := [d1, d2] }
  | _ => none }
def CyclePlaysWrongFalsely : Prop := cyclePlaysRow.holds Try.pinned (OpenSpec.ofChange cyclePlaysWrong)

/- THE SECOND FORM. 'bulk': how many values and letters a reading holds, each counted each time it is reached (what is shared counts as often as it is met; a slice's spare places count too). A statement '..UptoSaid' is the law's where the arguments, and the package variables that the reading takes, are together of bulk at most 1048576: NARROWER than '..Said'. Prove '..Said' where nothing that the law and all that it calls make is longer than what came in: it says more and counts as full. Else prove '..UptoSaid'. A law counts once. -/
mutual
def uptoBulk {H : Type} : DataW H → Nat
  | .lit (.string bytes) => bytes.length + 1
  | .lit _ => 1
  | .nil => 1
  | .ptr d => uptoBulk d + 1
  | .slice elems spare => uptoBulkAll elems + uptoBulkAll spare + 1
  | .agg parts => uptoBulkAll parts + 1
  | .iface _ d => uptoBulk d + 1
  | .map entries => uptoBulkEntries entries + 1
  | .held _ => 1
def uptoBulkAll {H : Type} : List (DataW H) → Nat
  | [] => 0
  | d :: r => uptoBulk d + uptoBulkAll r
def uptoBulkEntries {H : Type} : List (Lit × DataW H) → Nat
  | [] => 0
  | x :: r => uptoBulkEntry x + uptoBulkEntries r
def uptoBulkEntry {H : Type} : Lit × DataW H → Nat
  | (.string bytes, d) => bytes.length + uptoBulk d + 1
  | (_, d) => uptoBulk d + 1
 end
def uptoSmall : (H : Type) → List (DataW H) → Bool := fun _ ds => decide (uptoBulkAll ds ≤ 1048576)
def OpenSpec.upto (s : _root_.Go.ChangeSpec) : _root_.Go.OpenSpec := { _root_.Go.OpenSpec.ofChange s with cond := some uptoSmall }

/-- 'roadlaw4.CycleSays', WHERE WHAT IT READS IS OF BULK AT MOST 1048576: true; the input reads as it did. -/
def cycleSaysUptoRow : OpenClaim := { program := "ytbhdagjilmgahaa", sum := "712dab903c30b51cd40ad6f3c4b485ee25edf48ca2dbc7ac2c4a8bacdee50990", func := "roadstead/roadlaw4.CycleSays", spec := "cycleSays", unfollowed := true, recurses := true, apart := false, narrowed := true }
def CycleSaysUptoSaid : Prop := cycleSaysUptoRow.holds Try.pinned (OpenSpec.upto cycleSaysSpec)

/-- 'roadlaw4.CyclePlays', WHERE WHAT IT READS IS OF BULK AT MOST 1048576: true; the input reads as it did. -/
def cyclePlaysUptoRow : OpenClaim := { program := "ytbhdagjilmgahaa", sum := "712dab903c30b51cd40ad6f3c4b485ee25edf48ca2dbc7ac2c4a8bacdee50990", func := "roadstead/roadlaw4.CyclePlays", spec := "cyclePlays", unfollowed := true, recurses := true, apart := false, narrowed := true }
def CyclePlaysUptoSaid : Prop := cyclePlaysUptoRow.holds Try.pinned (OpenSpec.upto cyclePlaysSpec)

end Rows
end Go.Proofs.Ytbhdagjilmgahaa
