/- A term: an operation and its operands; the node at a place. No program in sight. -/
import Derived.Test.YtmghkonmfbpjcabDoorNode
namespace Go.Proofs.YtmghkonmfbpjcabDoor
set_option linter.unusedVariables false
set_option linter.unusedSimpArgs false

/-- a term: operation, operands -/
structure Tm where
  op : Int
  a : Int
  b : Int
def recB (t : Tm) (n : Nd) : Bool := n.op == t.op && n.a == t.a && n.b == t.b
def keepB (t : Tm) (n : Nd) : Bool := !hasD n.op || n.d != t.a && n.d != t.b
def nd (l : List Nd) (k : Nat) : Nd := l.getD k ⟨0, 0, 0, 0, 0, 0⟩
theorem nd_get {l : List Nd} {k : Nat} {n : Nd} (h : l[k]? = some n) : nd l k = n := by simp [nd, List.getD_eq_getElem?_getD, h]
/-- the term that a node reckons -/
def Nd.tm (n : Nd) : Tm := ⟨n.op, n.a, n.b⟩
end Go.Proofs.YtmghkonmfbpjcabDoor
