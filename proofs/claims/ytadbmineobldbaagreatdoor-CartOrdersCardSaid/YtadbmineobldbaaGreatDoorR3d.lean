/- The reference's joined. -/
import Derived.Test.YtadbmineobldbaaGreatDoorR3b
set_option linter.unusedSimpArgs false
set_option linter.unusedVariables false
set_option maxRecDepth 100000
set_option maxHeartbeats 8000000
namespace Go.Proofs.YtadbmineobldbaaGreatDoor
open Go.RowKit Go.Maps

end Go.Proofs.YtadbmineobldbaaGreatDoor
namespace Go.Proofs.YtadbmineobldbaaGreatDoor
open Go.RowKit Go.Maps

end Go.Proofs.YtadbmineobldbaaGreatDoor

