/- Words for memory: a slice of requests. -/
import Derived.Test.YtdkhdfedejbicaaGreatDoorRqI
namespace Go.Proofs.YtdkhdfedejbicaaGreatDoor
set_option linter.unusedVariables false
open Go Go.RowKit

section
variable {w w' : World} {B B' n k : Nat} {A : Option Addr} {rs : List Rq}
end

theorem OwnC.keepR {w w' : World} {base m1 m2 : Nat} {v1 v2 : Value} {room : List Int} {us : List Un} (h : OwnC w base v1 v2 m1 m2 room us) (hk : ∀ b, base ≤ b → b < w.heap.size → w'.heap[b]? = w.heap[b]?) : OwnC w' base v1 v2 m1 m2 room us := by
  obtain ⟨h1, md, h2, h3, vs, tk, f, g1, g2, g3⟩ := h
  exact ⟨own_keep h1 (fun b hb => hk b (h1.lt b hb).1 (h1.lt b hb).2), md, h2, h3, vs, tk, f, own_keep g1 (fun b hb => hk b (Nat.le_trans h3 (g1.lt b hb).1) (g1.lt b hb).2), g2.keep (fun b hb1 _ hti => hk b (by omega) hti.lt), g3⟩
end Go.Proofs.YtdkhdfedejbicaaGreatDoor
