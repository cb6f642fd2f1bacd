/- Parts. -/
import Derived.Test.YtmghkonmfbpjcabGreatDoorGE
set_option linter.unusedVariables false
set_option linter.unusedSimpArgs false
set_option maxRecDepth 100000
set_option maxHeartbeats 8000000
namespace Go.Proofs.YtmghkonmfbpjcabGreatDoor
open Go.RowKit
section
attribute [local irreducible] Row madeCells
end
end Go.Proofs.YtmghkonmfbpjcabGreatDoor
