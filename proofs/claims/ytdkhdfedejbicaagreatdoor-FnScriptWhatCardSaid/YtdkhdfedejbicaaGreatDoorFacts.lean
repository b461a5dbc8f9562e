/- Closed facts of the whole translation, each by itself (together they want too much memory). -/
import Derived.Test.YtdkhdfedejbicaaGreatDoorRows
import Derived.JoinedOf
import Derived.KernelRfl
namespace Go.Proofs.YtdkhdfedejbicaaGreatDoor
theorem kfMay : Tryz.prog.mayEnter = true := by kernel_rfl
theorem kfLift : (Rows.fnScriptOpenRow.lifted == Tryz.prog.liftsFinal) = true := by kernel_rfl
theorem kfLaid : laidOutB Tryz.prog = true := by kernel_rfl
theorem kfMaps : mapsRowed Tryz.prog = true := by kernel_rfl
end Go.Proofs.YtdkhdfedejbicaaGreatDoor
