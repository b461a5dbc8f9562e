/- Walks: requests of the program: bare, RequestValid, the wrappers. -/
import Derived.Test.YtjjnbbkdjimcoaaGreatJ11
import Derived.Test.YtjjnbbkdjimcoaaGreatHostDo
namespace Go.Proofs.YtjjnbbkdjimcoaaGreat
set_option linter.unusedSimpArgs false
set_option linter.unusedVariables false
open Go Go.RowKit Go.MuLone
attribute [local go_sem ↓] Go.wp_at_zero Go.wp_at_succ

/-- The value of a request, its need being a slice. -/
abbrev rqV (r : Rq) (A : Option Addr) (n c : Nat) : Value := .agg #[.int .i64 r.kind, .int .i64 r.id, .slice A n c, .bool r.grant, .int .i64 r.num]
/-- Its cells. -/
abbrev rqC (r : Rq) (A : Option Addr) (n c : Nat) : Array Value := #[.int .i64 r.kind, .int .i64 r.id, .slice A n c, .bool r.grant, .int .i64 r.num]

end Go.Proofs.YtjjnbbkdjimcoaaGreat
