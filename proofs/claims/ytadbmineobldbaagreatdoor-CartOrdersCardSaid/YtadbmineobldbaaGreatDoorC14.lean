/- join.marks, join.stay walked. -/
import Derived.Test.YtadbmineobldbaaGreatDoorC13
import Derived.Test.YtadbmineobldbaaGreatDoorCm
import Derived.Test.YtadbmineobldbaaGreatDoorIt6
import Derived.Test.YtadbmineobldbaaGreatDoorX3
set_option linter.unusedSimpArgs false
set_option linter.unusedVariables false
set_option maxRecDepth 100000
set_option maxHeartbeats 8000000
namespace Go.Proofs.YtadbmineobldbaaGreatDoor
open Go.RowKit Go.Maps Go.Sort Go.Shelf

end Go.Proofs.YtadbmineobldbaaGreatDoor

