/- Several texts in one. -/
import Derived.Test.YtlcgbnmmbheleaaGreatVB
namespace Go.Proofs.YtlcgbnmmbheleaaGreat

end Go.Proofs.YtlcgbnmmbheleaaGreat

namespace Go.Proofs.YtlcgbnmmbheleaaGreat
open Go Go.RowKit Go.Shelf
attribute [local go_sem] Oper.semAt_some

end Go.Proofs.YtlcgbnmmbheleaaGreat

namespace Go.Proofs.YtlcgbnmmbheleaaGreat
open Go.RowKit

end Go.Proofs.YtlcgbnmmbheleaaGreat
