/- FactR6. -/
import Derived.Test.YtmghkonmfbpjcaaGreatDoorFactR1
import Derived.Test.YtmghkonmfbpjcaaGreatDoorGF
import Derived.Test.YtmghkonmfbpjcaaGreatDoorGA
set_option linter.unusedVariables false
set_option linter.unusedSimpArgs false
namespace Go.Proofs.YtmghkonmfbpjcaaGreatDoor
section
open Go.RowKit
set_option maxHeartbeats 8000000
attribute [local irreducible] Row madeCells
attribute [local go_sem] no_yes
end
end Go.Proofs.YtmghkonmfbpjcaaGreatDoor
