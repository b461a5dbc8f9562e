/- From bytes that are read in memory to RdU. -/
import Derived.Test.YtdkhdfedejbicaaGreatDoorReads
import Derived.Test.YtdkhdfedejbicaaGreatDoorJ3
namespace Go.Proofs.YtdkhdfedejbicaaGreatDoor
open Go.ChangeShapes Go.WideShapes Go.ChangeAt Go.RowKit Go.Deep

end Go.Proofs.YtdkhdfedejbicaaGreatDoor
