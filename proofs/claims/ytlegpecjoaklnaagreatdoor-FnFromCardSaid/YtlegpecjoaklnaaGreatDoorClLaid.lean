/- From the row's condition on the library's variable errors.errorType to its cell; a world that meets the condition. -/
import Derived.Test.YtlegpecjoaklnaaGreatDoorClAs
import Derived.Test.YtlegpecjoaklnaaGreatDoorClImplF
import Derived.Test.YtlegpecjoaklnaaGreatDoorCards
import Derived.Test.YtlegpecjoaklnaaGreatDoorTie
import Derived.ProofKit
import Derived.OpenShut
import Derived.LaidLaws
import Derived.LaidHandle
import Derived.Stop.Joined
import Derived.Deep.DeepHandedRow
import Derived.JoinedCond
import Derived.SevenTiedAt
namespace Go.Proofs.YtlegpecjoaklnaaGreatDoor
open Go.ChangeShapes Go.WideShapes Go.ChangeAt Go.RowKit

theorem gEt : Tryz.prog.globalNamed "errors.errorType" = some 0 := by kernel_rfl
theorem gRt : (Tryz.prog.cutTypes.find? (·.1 == "internal/reflectlite.rtype")).map (·.2) = some 205 := by kernel_rfl
theorem gOne : ((List.range 288).filter fun t => Tryz.prog.rowNamed t [101, 114, 114, 111, 114]) = [95] := by kernel_rfl
theorem gSize : Tryz.prog.types.size = 288 := by kernel_rfl
/-- What the condition gives a walk: the variable's one cell. -/
theorem handle_of_laid {W : World} (h : laidMetH Tryz.prog [("errors.errorType", Rows.laid_errors_errorType)] W) : HandleMet W := by
  have h' : laidMet Tryz.prog [] W ∧ handlesMet Tryz.prog [("errors.errorType", Rows.laid_errors_errorType)] W := h
  obtain ⟨name, u, ty, e1, e2, e3, e4, e5⟩ := h'.2 _ (List.mem_singleton.2 rfl)
  have en : name = [101, 114, 114, 111, 114] := (Option.some.inj e1).symm
  subst en
  obtain rfl := Option.some.inj (gRt.symm.trans e2)
  have hm : ty ∈ (List.range 288).filter fun t => Tryz.prog.rowNamed t [101, 114, 114, 111, 114] := List.mem_filter.2 ⟨List.mem_range.2 (by rw [← gSize]; exact e3), e4⟩
  rw [gOne] at hm
  obtain rfl := List.mem_singleton.1 hm
  have hh : typeHandle Tryz.prog 95 = .pointer (some ⟨2, 95, none⟩) := by kernel_rfl
  rw [hh] at e5
  unfold HandleMet
  simpa using World.var?_cell gEt e5 0
/-- A world that meets the condition: the settled one, the variable's cell laid. -/
noncomputable def laidWorld (os : Os) : World :=
  { World.holding Tryz.prog os ⟨#[], #[], []⟩ with heap := (World.holding Tryz.prog os ⟨#[], #[], []⟩).heap.modify 0 fun
      | .cells _ t frozen => .cells #[.iface 205 (.agg #[.pointer (some ⟨2, 95, none⟩)])] t frozen
      | o => o }
end Go.Proofs.YtlegpecjoaklnaaGreatDoor
