/- Walks: the law that the program's Execute answers what the reference's answers. -/
import Derived.Test.YtdkhdfedejbicaaGreatDoorS5
namespace Go.Proofs.YtdkhdfedejbicaaGreatDoor
set_option linter.unusedSimpArgs false
set_option linter.unusedVariables false
open Go Go.RowKit
attribute [local go_sem ↓] Go.wp_at_zero Go.wp_at_succ

theorem cell_pos {w : World} {v : Value} (h : w.cell? ⟨0, 0, none⟩ = some v) : 0 < w.heap.size := by
  unfold World.cell? at h
  split at h
  · rename_i hb; exact (Array.getElem?_eq_some_iff.1 hb).1
  · cases h

set_option maxRecDepth 100000 in
set_option maxHeartbeats 3200000 in
theorem exactExecute_walk (s : ByteArray) (w : World) (m : Int) (hm : w.cell? ⟨0, 0, none⟩ = some (.int .i64 m)) (h0 : 0 < w.heap.size) :
    Calls Tryz.prog 6 #[.string s] w fun e w' => e = .returned (.bool true) ∧ Below w.heap.size w w' := by
  by_cases hs : (1048576 : Int) < (s.size : Int)
  · go_enter Tryz.func6, Tryz.ntmps6
    go_wp2
    go_ret
    exact ⟨rfl, Below.refl _ _⟩
  · have H1 := qh (execS_any s w (by omega))
    have H2 := qh (fun w2 (hb : Below w.heap.size w w2) => executeI_any s w2 m (by omega) ((hb.cell (p := ⟨0, 0, none⟩) h0).trans hm) (by have := hb.size; omega))
    clear hm
    go_enter Tryz.func6, Tryz.ntmps6
    go_wp2_with fail
    refine H1.out.mono ?_; rintro e w2 ⟨rfl, hb⟩
    have B2 := qh hb
    have H3 := qh (H2.out w2 hb)
    clear hb H1 H2
    generalize bs (execP s.data.toList) = x at *
    go_wp2_with fail
    refine H3.out.mono ?_; rintro e w3 ⟨rfl, hb⟩
    have B3 := qh (B2.out.trans (hb.mono B2.out.size))
    clear hb B2 H3
    go_wp2_with fail
    go_ret
    exact ⟨rfl, B3.out⟩
end Go.Proofs.YtdkhdfedejbicaaGreatDoor
