/- FactR9. -/
import Derived.Test.YtmghkonmfbpjcaaGreatDoorFactR2
import Derived.Test.YtmghkonmfbpjcaaGreatDoorFactR3
import Derived.Test.YtmghkonmfbpjcaaGreatDoorFactR4
import Derived.Test.YtmghkonmfbpjcaaGreatDoorFactR5
import Derived.Test.YtmghkonmfbpjcaaGreatDoorFactR6
import Derived.Test.YtmghkonmfbpjcaaGreatDoorFactR7
import Derived.Test.YtmghkonmfbpjcaaGreatDoorFactO
import Derived.Test.YtmghkonmfbpjcaaGreatDoorGA
set_option linter.unusedVariables false
set_option linter.unusedSimpArgs false
namespace Go.Proofs.YtmghkonmfbpjcaaGreatDoor
section
open Go.RowKit
set_option maxHeartbeats 8000000
attribute [local irreducible] Row madeCells
end
end Go.Proofs.YtmghkonmfbpjcaaGreatDoor
