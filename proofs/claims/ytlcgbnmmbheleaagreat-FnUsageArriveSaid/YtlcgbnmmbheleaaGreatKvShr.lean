/- Beside leavers, over views: UsageShare. (The program of this text: gen_kvshr.py.) -/
import Derived.Test.YtlcgbnmmbheleaaGreatV34
namespace Go.Proofs.YtlcgbnmmbheleaaGreat
open Go Go.Conc Go.RowKit
set_option linter.unusedVariables false
set_option linter.unusedSimpArgs false

section
end

section
variable {H : Nat → Prop} {Tgt : Goroutine → World → Prop} {v0 v : World} {A2 : Option Addr} {rb ro c1 c2 cb k : Nat} {room : List Int} {us : List Un} {t r n q : Int} {kk : List Item} {cs : List Frame} {rest : List Nat}
end
section
variable {H : Nat → Prop} {Tgt : Goroutine → World → Prop} {v0 : World} {A2 : Option Addr} {rb ro c1 c2 cb k : Nat} {room : List Int} {us : List Un} {t r n q : Int} {kk : List Item} {cs : List Frame}
end

section
variable {H : Nat → Prop} {v : World} {A1 A2 : Option Addr} {n1 c1 n2 c2 : Nat} {room : List Int} {us : List Un}
end
end Go.Proofs.YtlcgbnmmbheleaaGreat
