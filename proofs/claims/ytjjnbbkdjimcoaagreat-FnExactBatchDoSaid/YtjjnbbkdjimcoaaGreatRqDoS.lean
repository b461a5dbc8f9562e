/- Walks: RequestDo and RequestsPlay of the reference. (Printed by gen_rqdos.py.) -/
import Derived.Test.YtjjnbbkdjimcoaaGreatGatS
import Derived.Test.YtjjnbbkdjimcoaaGreatSpRq
import Derived.Test.YtjjnbbkdjimcoaaGreatRdQ
namespace Go.Proofs.YtjjnbbkdjimcoaaGreat
set_option linter.unusedSimpArgs false
set_option linter.unusedVariables false
open Go Go.RowKit
attribute [local go_sem ↓] Go.wp_at_zero Go.wp_at_succ

theorem OwnCW.none {w : World} {base : Nat} : OwnCW w base (.slice none 0 0) (.slice none 0 0) 0 0 [] [] := OwnCW.of OwnCR.none

theorem playP_bad {room : List Int} {us : List Un} {rs : List Rq} (h : ¬ (clOk room us = true ∧ rs.length ≤ 30)) : playP room us rs = ([], [], []) := play_bad h
theorem rq_take {rs : List Rq} {k : Nat} (h : k < rs.length) : rs.take (k + 1) = rs.take k ++ [rs[k]?.getD ⟨0, 0, [], false, 0⟩] := by
  rw [List.take_succ_eq_append_getElem h, List.getElem?_eq_getElem h]; rfl

end Go.Proofs.YtjjnbbkdjimcoaaGreat
