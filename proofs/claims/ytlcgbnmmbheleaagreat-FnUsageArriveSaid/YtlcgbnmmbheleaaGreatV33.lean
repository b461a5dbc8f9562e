/- Several texts in one. -/
import Derived.Test.YtlcgbnmmbheleaaGreatV23
namespace Go.Proofs.YtlcgbnmmbheleaaGreat
open Go Go.Conc Go.RowKit
set_option linter.unusedVariables false
set_option linter.unusedSimpArgs false

section
variable {P : Program} {H : Nat → Prop} {Tgt : Goroutine → World → Prop} {v : World}
theorem KV.skip {b : Frame} {a : Act} {k : List Item} {cs : List Frame} {ops : Array Oper} {i : Nat} {rest : List Nat} {o : Oper} (ho : ops[i]? = some o) (hw : Region.wanted o (yielded ops a.tmps) = false)
    (hn : KV P H Tgt (G (b.at (a.put o.dst undef) (.inRegion ops rest :: k)) cs) v) : KV P H Tgt (G (b.at a (.inRegion ops (i :: rest) :: k)) cs) v := by
  have hfin : (b.at a (.inRegion ops (i :: rest) :: k)).finish undef = b.at (a.put o.dst undef) (.inRegion ops rest :: k) := by rw [Frame.finish_at, ho]; rfl
  refine .ctl rfl (fun w => ?_) hn
  rw [← hfin]
  simp [G, stepG, stepG.exec, Frame.at, ho, hw]
end

section
variable {H : Nat → Prop} {v : World} {A1 A2 : Option Addr} {n1 c1 n2 c2 : Nat} {room : List Int} {us : List Un}
end
end Go.Proofs.YtlcgbnmmbheleaaGreat

namespace Go.Proofs.YtlcgbnmmbheleaaGreat
open Go Go.Conc Go.RowKit
set_option linter.unusedVariables false
set_option linter.unusedSimpArgs false

section
variable {H : Nat → Prop} {v : World} {A1 A2 : Option Addr} {n1 c1 n2 c2 : Nat} {room : List Int} {us : List Un}
end
end Go.Proofs.YtlcgbnmmbheleaaGreat
