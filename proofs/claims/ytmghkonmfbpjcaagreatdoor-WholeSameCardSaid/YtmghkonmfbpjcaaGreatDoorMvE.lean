/- MvE. -/
import Derived.Test.YtmghkonmfbpjcaaGreatDoorGE
import Derived.Deep.RegionLaw
import Derived.Test.YtmghkonmfbpjcaaGreatDoorGA
set_option linter.unusedVariables false
set_option linter.unusedSimpArgs false
namespace Go.Proofs.YtmghkonmfbpjcaaGreatDoor
section
open Go.RowKit
set_option maxHeartbeats 8000000
attribute [local irreducible] Row madeCells
end
end Go.Proofs.YtmghkonmfbpjcaaGreatDoor
