/- Several texts in one. -/
import Derived.Test.YtlcgbnmmbheleaaGreatV15
import Derived.RangeFuncNested
import Derived.RangeFuncCalls
import Derived.StillTactics
import Derived.OrdersIn
import Derived.RangeFuncBound
import Derived.RangeFuncLeaves
import Derived.RangeFuncFrom
import Derived.Shelf.Abstract
import Derived.OwnWalkIn
import Derived.TacticsInMore
import Derived.LoopNIn
import Derived.LoopIn
namespace Go.Proofs.YtlcgbnmmbheleaaGreat
open Go Go.RowKit

section
variable {P : Program} {ops : Array Oper} {w : World} {l n : Nat}

/-! ### A function whose body holds a range over a function -/
end
end Go.Proofs.YtlcgbnmmbheleaaGreat

namespace Go.Proofs.YtlcgbnmmbheleaaGreat
open Go Go.RowKit Go.Shelf
attribute [local go_sem] Oper.semAt_some

end Go.Proofs.YtlcgbnmmbheleaaGreat
