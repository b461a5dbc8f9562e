/- From bytes that are read in memory to RdU. -/
import Derived.Test.YtdkhdfedejbicaaGreatDoorReads
import Derived.Test.YtdkhdfedejbicaaGreatDoorJ3
namespace Go.Proofs.YtdkhdfedejbicaaGreatDoor
open Go.ChangeShapes Go.WideShapes Go.ChangeAt Go.RowKit Go.Deep

theorem rdU_of_trod {H : Type} {enc : TypeId × Value → H} {P : Program} {w : World} {base : Nat} {spare : Nat → Bool} {held : Bool} {t e : TypeId} {fuel : Nat} {A : Option Addr} {n c : Nat} {x : DataW H × List MemPlace} (ht : P.underlying t = some (.slice e)) (he : P.underlying e = some (.int .u8)) (hC : P.cellsOf e = 1)
    (h : DataW.trod enc P w base spare held fuel t [.slice A n c] = some x) : n ≤ c ∧ c ≤ 9223372036854775807 ∧ RdU w w.heap.size A n := by
  rcases open_ints ht he hC h with ⟨hcs, _⟩ | ⟨a, l, c', zs, hcs, _, hl, hm, hz, _, hcell, hwf⟩
  · simp only [List.cons.injEq, Value.slice.injEq, and_true] at hcs
    obtain ⟨rfl, rfl, rfl⟩ := hcs
    exact ⟨Nat.le_refl _, by omega, fun h => absurd h (by omega)⟩
  · simp only [List.cons.injEq, Value.slice.injEq, and_true] at hcs
    obtain ⟨rfl, rfl, rfl⟩ := hcs
    have hzl : n ≤ zs.length := by rw [hz]; split <;> omega
    refine ⟨hl, by unfold maxLen at hm; omega, fun hp => ?_⟩
    obtain ⟨b, o, rfl, hb⟩ := addr_of (w := w) (a := a) (by have := hcell 0 (by omega); rwa [add_zero'] at this)
    refine ⟨b, o, rfl, hb, fun j hj => ?_⟩
    have h1 := hcell j (by omega)
    rw [addr_add'] at h1
    have h2 := range_u8 hwf j
    refine ⟨zs.getD j 0, ?_, ?_, h1⟩
    · simpa [List.getD] using h2.1
    · simpa [List.getD] using h2.2
end Go.Proofs.YtdkhdfedejbicaaGreatDoor
