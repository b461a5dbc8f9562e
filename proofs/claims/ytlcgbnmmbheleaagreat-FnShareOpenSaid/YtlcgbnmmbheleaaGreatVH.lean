/- Several texts in one. -/
import Derived.Test.YtlcgbnmmbheleaaGreatVF
import Derived.Test.YtlcgbnmmbheleaaGreatVG
import Derived.Shelf.Abstract
namespace Go.Proofs.YtlcgbnmmbheleaaGreat
set_option linter.unusedSimpArgs false
set_option linter.unusedVariables false
open Go Go.RowKit Go.MuLone
attribute [local go_sem ↓] Go.wp_at_zero Go.wp_at_succ

end Go.Proofs.YtlcgbnmmbheleaaGreat

namespace Go.Proofs.YtlcgbnmmbheleaaGreat
set_option linter.unusedSimpArgs false
set_option linter.unusedVariables false
open Go Go.RowKit
attribute [local go_sem ↓] Go.wp_at_zero Go.wp_at_succ

theorem clOk_sh {room : List Int} {us : List Un} (h : clOk room us = true) : ShU us := by
  obtain ⟨_, _, f3, f4⟩ := clOk_facts h
  exact ⟨by omega, fun u hu => ⟨by have := (f4 u hu).1; omega, fun t ht => by have := (f4 u hu).2 t ht; omega⟩⟩

/-! ### by program -/

end Go.Proofs.YtlcgbnmmbheleaaGreat
