/- Walk: RequestValid of the reference (printed by gen_sprq.py). -/
import Derived.Test.YtjjnbbkdjimcoaaGreatRqI
import Derived.Test.YtjjnbbkdjimcoaaGreatJ1
namespace Go.Proofs.YtjjnbbkdjimcoaaGreat
set_option linter.unusedSimpArgs false
set_option linter.unusedVariables false
open Go Go.RowKit
attribute [local go_sem ↓] Go.wp_at_zero Go.wp_at_succ

end Go.Proofs.YtjjnbbkdjimcoaaGreat
