/- Several texts in one. -/
import Derived.Test.YtlcgbnmmbheleaaGreatVC
import Derived.Test.YtlcgbnmmbheleaaGreatV28
import Derived.Test.YtlcgbnmmbheleaaGreatVA
namespace Go.Proofs.YtlcgbnmmbheleaaGreat
set_option linter.unusedSimpArgs false
set_option linter.unusedVariables false

/-! ### Lists of lists -/
/-! ### Numbers differ -/
/-! ### Requests -/
structure Rq where
  kind : Int
  id : Int
  xs : List Int
  grant : Bool
  num : Int
/-! ### Gathering -/
section
variable {room : List Int} {bs : List (List Tk)} {m : Int × Int} {i k j : Nat} {t : Tk}
end
section
variable {room : List Int} {bs : List (List Tk)} {m : Int × Int} {i k j : Nat} {t : Tk}
end
/-! ### A request, done -/
end Go.Proofs.YtlcgbnmmbheleaaGreat

namespace Go.Proofs.YtlcgbnmmbheleaaGreat
set_option linter.unusedSimpArgs false
set_option linter.unusedVariables false
open Go Go.RowKit
attribute [local go_sem ↓] Go.wp_at_zero Go.wp_at_succ

end Go.Proofs.YtlcgbnmmbheleaaGreat
