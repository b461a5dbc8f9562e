/- Walk: RequestsPlay of the program (the paths of region 3 are printed by gen_playi.py). -/
import Derived.Test.YtdkhdfedejbicaaGreatDoorRqDoI
import Derived.Test.YtdkhdfedejbicaaGreatDoorRdQ
import Derived.Test.YtdkhdfedejbicaaGreatDoorMix3
import Derived.Deep.Cut
import Derived.Deep.DeepCutAuto
import Derived.ArgAppend
namespace Go.Proofs.YtdkhdfedejbicaaGreatDoor
set_option linter.unusedSimpArgs false
set_option linter.unusedVariables false
open Go Go.RowKit Go.MuLone
attribute [local go_sem ↓] Go.wp_at_zero Go.wp_at_succ

end Go.Proofs.YtdkhdfedejbicaaGreatDoor
