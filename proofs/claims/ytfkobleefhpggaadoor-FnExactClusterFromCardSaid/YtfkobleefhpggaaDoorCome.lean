/- Walks: whether a further task can come to nodes: l11Ok, canCome, hasRoom, withRoom. -/
import Derived.Test.YtfkobleefhpggaaDoorAllOwn
import Derived.Test.YtfkobleefhpggaaDoorMix
import Derived.Deep.RegionLaw
import Derived.Deep.RegionWith
import Derived.Deep.DrawnRows
import Derived.Outline
namespace Go.Proofs.YtfkobleefhpggaaDoor
open Go.RowKit
attribute [local go_sem ↓] Go.wp_at_zero Go.wp_at_succ

/-- A further task can come. -/
def comeOk (room : List Int) (bs : List (List Tk)) (t : Tk) : Bool := binsOk room bs && tasksOk room (bs.flatten ++ [t])

theorem TkCells.single {w : World} {B : Nat} {A : Option Addr} {n c : Nat} {id : Int} {xs : List Int} (h : RdI w B A n xs) (hc : n ≤ c) : TkCells w B [.int .i64 id, .slice A n c] [(id, xs)] :=
  ⟨rfl, fun j hj => by obtain rfl : j = 0 := by simp at hj; omega
                       exact ⟨A, n, c, rfl, rfl, hc, h⟩⟩
/-- A boxed task stays. -/
theorem box_keep (w : World) (v0 v1 : Value) {w' : World} (hb : Below (w.heap.size + 1) (w.alloc (.cells #[v0, v1] 66)) w') : w'.cell? ⟨w.heap.size, 0, none⟩ = some v0 ∧ w'.cell? ⟨w.heap.size, 1, none⟩ = some v1 := by
  constructor
  · rw [hb.cell (by simp)]; exact (Blk.new w _ _).cell 0
  · rw [hb.cell (by simp)]; exact (Blk.new w _ _).cell 1



theorem RdB.one {w : World} {g m c : Nat} {t : TypeId} {A : Option Addr} {ts : List Tk} (h : Blk w g t #[.slice A m c]) (hc : m ≤ c) (hr : RdT w w.heap.size A m ts) : RdB w w.heap.size (some ⟨g, 0, none⟩) 1 [ts] :=
  ⟨rfl, by omega, fun _ => ⟨g, 0, rfl, h.lt, fun j hj => by
    obtain rfl : j = 0 := by omega
    exact ⟨A, m, c, h.cell 0, hc, hr⟩⟩⟩

end Go.Proofs.YtfkobleefhpggaaDoor
