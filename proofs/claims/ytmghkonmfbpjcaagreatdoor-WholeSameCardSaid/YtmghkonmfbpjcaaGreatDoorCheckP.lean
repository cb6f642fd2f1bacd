/- CheckP. -/
import Derived.Test.YtmghkonmfbpjcaaGreatDoorGB
import Derived.Test.YtmghkonmfbpjcaaGreatDoorGA
set_option linter.unusedVariables false
set_option linter.unusedSimpArgs false
namespace Go.Proofs.YtmghkonmfbpjcaaGreatDoor
section
open Go.RowKit
set_option maxHeartbeats 1000000
def badRr (regs len : Int) (n : Nd) : Bool := hasD n.op && !inB n.d 0 (regs - 1) || hasA n.op && !inB n.a 0 (regs - 1) || hasB n.op && !inB n.b 0 (regs - 1) || hasT n.op && !inB n.t 1 (len - 1) || hasE n.op && !inB n.e 1 (len - 1)
def badFr (n : Nd) : Bool := !hasD n.op && n.d != 0 || !hasA n.op && n.op != 1 && n.a != 0 || !hasB n.op && n.b != 0 || !hasT n.op && n.t != 0 || !hasE n.op && n.e != 0
def chkr (regs : Int) (l : List Nd) : Int :=
  if inB (l.length : Int) 1 256 = false ∨ inB regs 1 64 = false then 2
  else if (l.any fun n => !inB n.op 0 12) = true then 4
  else if (l.any (badRr regs l.length)) = true then 3
  else if (l.any badFr) = true then 1
  else 0
end
end Go.Proofs.YtmghkonmfbpjcaaGreatDoor
