/- Walks: the laws on scripts. (Printed by gen_sclaws.py.) -/
import Derived.Test.YtdkhdfedejbicaaGreatDoorScMany
namespace Go.Proofs.YtdkhdfedejbicaaGreatDoor
set_option linter.unusedSimpArgs false
set_option linter.unusedVariables false
open Go Go.RowKit
attribute [local go_sem ↓] Go.wp_at_zero Go.wp_at_succ

theorem exec_pos (l : Bs) : 1 ≤ (execP l).length := by
  unfold execP
  split
  · decide
  · obtain ⟨e, h, _⟩ := end_is (lines_ok (cutP 10 l).dropLast us4_ok)
    rw [h]; simp <;> omega
theorem exec_len (l : Bs) : (execP l).length ≤ 2000000 := by
  unfold execP
  split
  · exact Nat.le_trans (show tLong.length ≤ 9 by decide) (by omega)
  · rename_i h6
    have h1 := lines_len (cutP 10 l).dropLast
    have h2 := cut_len 10 l
    have h3 := List.count_le_length (a := (10 : UInt8)) (l := l)
    rw [List.length_dropLast, h2] at h1
    have h4 : (endT (linesP (cutP 10 l).dropLast us4).1).length ≤ 20 := by
      obtain ⟨a, b, c, e, ha, hb, hc⟩ := counts_is (lines_ok (cutP 10 l).dropLast us4_ok)
      unfold endT
      rw [e]
      have d1 := (decD_len a).2
      have d2 := (decD_len b).2
      have d3 := (decD_len c).2
      have d4 : tEnd.length = 3 := rfl
      simp
      omega
    rw [List.length_append]; omega
end Go.Proofs.YtdkhdfedejbicaaGreatDoor
