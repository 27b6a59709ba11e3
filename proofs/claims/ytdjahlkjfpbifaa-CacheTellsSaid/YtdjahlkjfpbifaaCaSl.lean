
/-
  Slices as cells; a function's and an instruction's own cells.
-/
import Derived.Test.YtdjahlkjfpbifaaCa4
namespace Go.Proofs.Ytdjahlkjfpbifaa

structure FnC where
  name : ByteArray
  p : Int
  h : Int
  r : Int
  ins : SlC
structure IcC where
  o : Int
  a : Int
  b : Int
  c : Int
  args : SlC
/-- A question of the law. -/
structure AkC where
  f : Int
  pc : Int
  nm : Int
  tg : Int
  fg : Bool
def ak0 : AkC := ⟨0, 0, 0, 0, false⟩
def sl0 : SlC := ⟨none, 0, 0⟩
def fn0 : FnC := ⟨⟨#[]⟩, 0, 0, 0, sl0⟩
def ic0 : IcC := ⟨0, 0, 0, 0, sl0⟩
end Go.Proofs.Ytdjahlkjfpbifaa
