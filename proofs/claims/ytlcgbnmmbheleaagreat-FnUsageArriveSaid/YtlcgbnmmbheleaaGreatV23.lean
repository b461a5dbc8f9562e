/- Several texts in one. -/
import Derived.Test.YtlcgbnmmbheleaaGreatV22
namespace Go.Proofs.YtlcgbnmmbheleaaGreat
def totalP (us : List Un) : Nat := (us.map (·.2)).flatten.length
end Go.Proofs.YtlcgbnmmbheleaaGreat

namespace Go.Proofs.YtlcgbnmmbheleaaGreat
set_option linter.unusedSimpArgs false
set_option linter.unusedVariables false
open Go Go.RowKit

end Go.Proofs.YtlcgbnmmbheleaaGreat

namespace Go.Proofs.YtlcgbnmmbheleaaGreat
open Go Go.Conc Go.RowKit
set_option linter.unusedVariables false
set_option linter.unusedSimpArgs false

theorem ViewOf_cells_of {v w : World} {b : Nat} {t : TypeId} {cs : Array Value} (h : Blk v b t cs) (e : w.heap = v.heap) : Blk w b t cs := (congrArg (fun h => h[b]?) e).trans h
theorem below_gr {v w : World} (h : Below v.heap.size v w) : GR v w := ⟨h.os, h.output, h.size, h.block⟩
theorem RdC.same {v w : World} {A1 A2 : Option Addr} {n1 n2 : Nat} {room : List Int} {us : List Un} (h : RdC v A1 A2 n1 n2 room us) (e : w.heap = v.heap) : RdC w A1 A2 n1 n2 room us :=
  ⟨h.a.gain (fun p y hy => (World.cell?_of_block (by rw [e])).trans hy) (by rw [e]; exact Nat.le_refl _), h.b.gain (fun p y hy => (World.cell?_of_block (by rw [e])).trans hy) (by rw [e]; exact Nat.le_refl _)⟩
theorem RdC.gr {v w : World} {A1 A2 : Option Addr} {n1 n2 : Nat} {room : List Int} {us : List Un} (h : RdC v A1 A2 n1 n2 room us) (r : GR v w) : RdC w A1 A2 n1 n2 room us :=
  ⟨h.a.gain (fun p y hy => (World.cell?_of_block (r.rows _ (cell_lt hy))).trans hy) r.size, h.b.gain (fun p y hy => (World.cell?_of_block (r.rows _ (cell_lt hy))).trans hy) r.size⟩
theorem GR.same {v w w' : World} (r : GR v w) (e : SameHeap w' w) : GR v w' := ⟨e.os.trans r.os, e.output.trans r.output, by rw [e.heap]; exact r.size, fun b hb => by rw [e.heap]; exact r.rows b hb⟩
theorem GR.from {v w w' : World} (e : SameHeap w v) (r : GR w w') : GR v w' := ⟨r.os.trans e.os, r.output.trans e.output, by rw [← e.heap]; exact r.size, fun b hb => by rw [← e.heap]; exact r.rows b (by rw [e.heap]; exact hb)⟩
theorem Blk.grr {v w : World} {b : Nat} {t : TypeId} {cs : Array Value} (h : Blk v b t cs) (r : GR v w) : Blk w b t cs := (r.rows b h.lt).trans h

section
variable {H : Nat → Prop} {v : World} {A1 A2 : Option Addr} {n1 c1 n2 c2 : Nat} {room : List Int} {us : List Un}
end
end Go.Proofs.YtlcgbnmmbheleaaGreat

namespace Go.Proofs.YtlcgbnmmbheleaaGreat
set_option linter.unusedSimpArgs false
set_option linter.unusedVariables false

end Go.Proofs.YtlcgbnmmbheleaaGreat
