/- Words for memory: a row of integers of the call's own reads; its length. -/
import Derived.Test.YtfkobleefhpggaaDoorOwnTs
namespace Go.Proofs.YtfkobleefhpggaaDoor
open Go Go.RowKit

theorem own_rdI {w : World} {base : Nat} {t : TypeId} {A : Option Addr} {n c : Nat} {xs : List Int} (h : w.ownsRow base t 1 (.slice A n c) n (xs.map (Value.int .i64))) (hn : n ≤ 9223372036854775807) : RdI w w.heap.size A n xs := by
  have hl : xs.length = n := by have := h.1; simpa using this
  refine ⟨hl, hn, fun hp => ?_⟩
  obtain ⟨g, cap, hv, _, hlt⟩ := h.form hp
  have hA : A = some ⟨g, 0, none⟩ := by injection hv
  subst hA
  refine ⟨g, 0, rfl, hlt, fun j hj => ?_⟩
  have e1 := h.cells (g := g) rfl j (.int .i64 (xs[j]?.getD 0)) (by rw [List.getElem?_map, List.getElem?_eq_getElem (by omega)]; rfl)
  rwa [addr_add] at e1
theorem own_len {w : World} {base : Nat} {t : TypeId} {A : Option Addr} {n c : Nat} {xs : List Int} (h : w.ownsRow base t 1 (.slice A n c) n (xs.map (Value.int .i64))) : xs.length = n := by have := h.1; simpa using this
end Go.Proofs.YtfkobleefhpggaaDoor
