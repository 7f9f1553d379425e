/- The reference's One: whether an item is valid. -/
import Derived.Test.YtemfaojmelljpaaGreatDoorItemsP
import Derived.Test.YtemfaojmelljpaaGreatDoorIt3
import Derived.Test.YtemfaojmelljpaaGreatDoorR9
import Derived.Test.YtemfaojmelljpaaGreatDoorIt10
namespace Go.Proofs.YtemfaojmelljpaaGreatDoor
open Go.RowKit

end Go.Proofs.YtemfaojmelljpaaGreatDoor
namespace Go.Proofs.YtemfaojmelljpaaGreatDoor
open Go.RowKit Go.Maps

end Go.Proofs.YtemfaojmelljpaaGreatDoor
namespace Go.Proofs.YtemfaojmelljpaaGreatDoor
open Go.RowKit Go.Maps

end Go.Proofs.YtemfaojmelljpaaGreatDoor
namespace Go.Proofs.YtemfaojmelljpaaGreatDoor
open Go.RowKit Go.Maps

end Go.Proofs.YtemfaojmelljpaaGreatDoor
namespace Go.Proofs.YtemfaojmelljpaaGreatDoor
open Go.RowKit Go.Maps

end Go.Proofs.YtemfaojmelljpaaGreatDoor
namespace Go.Proofs.YtemfaojmelljpaaGreatDoor
open Go.RowKit Go.Maps

end Go.Proofs.YtemfaojmelljpaaGreatDoor
