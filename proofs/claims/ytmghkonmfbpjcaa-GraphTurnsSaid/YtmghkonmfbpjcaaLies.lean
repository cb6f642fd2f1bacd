/- What lay before still lies: memory that has only grown. No program in sight. -/
import Derived.Test.YtmghkonmfbpjcaaWords
namespace Go.Proofs.Ytmghkonmfbpjcaa
set_option linter.unusedVariables false
open Go.RowKit
def Lies (W w : World) : Prop := Below W.heap.size W w
theorem Lies.refl (W : World) : Lies W W := Below.refl _ _
theorem Lies.step {W w w' : World} (h : Lies W w) (hb : Below w.heap.size w w') : Lies W w' := Below.trans h (hb.mono h.size)
theorem Lies.drew {W w : World} (h : Lies W w) : Lies W w.drew := Below.drew h
theorem Lies.from_ {w w4 W : World} (h : Below w.heap.size w w4) (hL : Lies w4 W) : Below w.heap.size w W := Below.trans h (Below.mono hL h.size)
theorem Lies.below_ {w4 W : World} (hL : Lies w4 W) : Below w4.heap.size w4 W := hL
end Go.Proofs.Ytmghkonmfbpjcaa
