/- The rule for drawn regions where some operations were taken first, and where waiting goes over other operations. -/
import Derived.Test.YtadbmineobldbaaGreatDoorReg
namespace Go.Proofs.YtadbmineobldbaaGreatDoor
open Go
section
variable {P : Program} {ops : Array Oper} {Q : Exit → Act → World → Prop} {md : Region.Mode}
end
end Go.Proofs.YtadbmineobldbaaGreatDoor
namespace Go.Proofs.YtadbmineobldbaaGreatDoor
open Go
section
variable {P : Program} {ops : Array Oper} {Q : Exit → Act → World → Prop} {md : Region.Mode}
end
end Go.Proofs.YtadbmineobldbaaGreatDoor
