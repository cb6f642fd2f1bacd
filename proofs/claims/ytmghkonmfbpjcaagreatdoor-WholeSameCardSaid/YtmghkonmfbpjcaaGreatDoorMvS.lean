/- MvS. -/
import Derived.Test.YtmghkonmfbpjcaaGreatDoorGE
import Derived.Test.YtmghkonmfbpjcaaGreatDoorFactR9
import Derived.Test.YtmghkonmfbpjcaaGreatDoorGA
set_option linter.unusedVariables false
set_option linter.unusedSimpArgs false
namespace Go.Proofs.YtmghkonmfbpjcaaGreatDoor
section
open Go.RowKit
set_option maxHeartbeats 8000000
attribute [local irreducible] Row madeCells
structure LzSt (W0 : World) (lb : Nat) (v1 v2 : Value) (x y : List Bool) (W : World) : Prop where
 L : Blk W lb 76 #[v1, v2]
 r1 : Row W W0.heap.size 4 v1 (bools x)
 r2 : Row W W0.heap.size 4 v2 (bools y)
 ne : v1.ownBlock = none ∨ v1.ownBlock ≠ v2.ownBlock
 below : Below W0.heap.size W0 W
 low : W0.heap.size ≤ lb
section
variable {W0 : World} {lb : Nat} {v1 v2 : Value} {x y : List Bool} {W : World}
end
def lazyZ (t : Tm) (l : List Nd) (F : Fx) : List Bool := mk l.length fun k => recB t (nd l k) && !(yn F.late k && yn F.alone k)
def LoPost (tB : TypeId) (l : List Nd) (t : Tm) (w : World) (e : Ending) (w' : World) : Prop :=
 Below w.heap.size w w' ∧ ∃ F v1 v2, IsFx t l F ∧ e = .returned (.agg #[v1, v2]) ∧ Row w' w.heap.size tB v1 (bools (lazyX l F)) ∧ Row w' w.heap.size tB v2 (bools (lazyZ t l F))
end
end Go.Proofs.YtmghkonmfbpjcaaGreatDoor
