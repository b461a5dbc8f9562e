/-
  No cell of these rows narrows 'for every input' (looked for: loops, veiled, ifaces, maps, wideKeys, modest, calm, conditions, laid).
  DERIVED. THE GIVEN ROWS OF THIS SEAT. 3 by the template 'for every input the law returns true; each argument reads behind the call as it read before'; 0 by the template 'total and deterministic' (their statements: YtkcflajhmekcaaaGreatTotals.lean).
  GIVEN WITH THE SEED: the statements are not yours to turn. If you find one false, say at which input.
  Laid BY PROGRAM, IN A SANDBOX (cutbox-rows.mjs): the forced cells as the released guide's own fill.sh prints them over the translation 071929289e75ddbf… (all of the seat's roots in one cut). By AI agents, Wed Nov 11 2026. No macro, syntax, notation, axiom, sorry.
-/
import Derived.Test.YtkcflajhmekcaaaGreatChecked
import GoSem.Claim
import GoSem.ClaimJoined
import GoSem.ClaimMapViews
import Derived.JoinedTies
import Derived.KernelRfl
namespace Go.Proofs.YtkcflajhmekcaaaGreat
/- THE CELL 'sum', in the pinned program and in every row, IS THE sha256 OF THE DUMP (.gsa) THAT YtkcflajhmekcaaaGreatProg.lean LOADS. Nothing in Lean hashes anything: it is a label: what it is worth is what the hold of that sum in a sandbox is worth. -/
noncomputable def Tryz.pinned : Pinned := { name := "ytkcflajhmekcaaagreat", sum := "071929289e75ddbf1dde1b0e311a9a91934176d6d1fffc27b273f96e8362adbc", checked := Tryz.checked }
namespace Rows
def none {H : Type} : Left H := { results := [], args := [] }

/-- 'laws.FnExactEvictList': WHATEVER THE INPUT: true; the input reads as it did. -/
def fnExactEvictListSpec : ChangeSpec := { name := "fnExactEvictList", fn := fun _ => fun
  | [d1, d2, d3, d4, d5] => { results := [.lit (.bool true)], args := [d1, d2, d3, d4, d5] }
  | _ => none }
def fnExactEvictListRow : OpenClaim := { program := "ytkcflajhmekcaaagreat", sum := "071929289e75ddbf1dde1b0e311a9a91934176d6d1fffc27b273f96e8362adbc", func := "loop.example/vectorpacker/laws.FnExactEvictList", spec := "fnExactEvictList", unfollowed := true, recurses := true, apart := false }
def FnExactEvictListSaid : Prop := fnExactEvictListRow.holds Tryz.pinned (OpenSpec.ofChange fnExactEvictListSpec)

/-- ITS FALSE NEIGHBOUR: 'it returns false'. Refute it at one input. -/
def fnExactEvictListWrong : ChangeSpec := { name := "fnExactEvictList", fn := fun _ => fun
  | [d1, d2, d3, d4, d5] => { results := [.lit (.bool false)], args := [d1, d2, d3, d4, d5] }
  | _ => none }
def FnExactEvictListWrongFalsely : Prop := fnExactEvictListRow.holds Tryz.pinned (OpenSpec.ofChange fnExactEvictListWrong)

/-- 'laws.FnEvictDo': WHATEVER THE INPUT: true; the input reads as it did. -/
def fnEvictDoSpec : ChangeSpec := { name := "fnEvictDo", fn := fun _ => fun
  | [d] => { results := [.lit (.bool true)], args := [d] }
  | _ => none }
def fnEvictDoRow : OpenClaim := { program := "ytkcflajhmekcaaagreat", sum := "071929289e75ddbf1dde1b0e311a9a91934176d6d1fffc27b273f96e8362adbc", func := "loop.example/vectorpacker/laws.FnEvictDo", spec := "fnEvictDo", unfollowed := true, recurses := true, apart := false }
def FnEvictDoSaid : Prop := fnEvictDoRow.holds Tryz.pinned (OpenSpec.ofChange fnEvictDoSpec)

/-- ITS FALSE NEIGHBOUR: 'it returns false'. Refute it at one input. -/
def fnEvictDoWrong : ChangeSpec := { name := "fnEvictDo", fn := fun _ => fun
  | [d] => { results := [.lit (.bool false)], args := [d] }
  | _ => none }
def FnEvictDoWrongFalsely : Prop := fnEvictDoRow.holds Tryz.pinned (OpenSpec.ofChange fnEvictDoWrong)

/-- 'laws.FnExactEvictDo': WHATEVER THE INPUT: true; the input reads as it did. -/
def fnExactEvictDoSpec : ChangeSpec := { name := "fnExactEvictDo", fn := fun _ => fun
  | [d1, d2, d3, d4, d5] => { results := [.lit (.bool true)], args := [d1, d2, d3, d4, d5] }
  | _ => none }
def fnExactEvictDoRow : OpenClaim := { program := "ytkcflajhmekcaaagreat", sum := "071929289e75ddbf1dde1b0e311a9a91934176d6d1fffc27b273f96e8362adbc", func := "loop.example/vectorpacker/laws.FnExactEvictDo", spec := "fnExactEvictDo", unfollowed := true, recurses := true, apart := false }
def FnExactEvictDoSaid : Prop := fnExactEvictDoRow.holds Tryz.pinned (OpenSpec.ofChange fnExactEvictDoSpec)

/-- ITS FALSE NEIGHBOUR: 'it returns false'. Refute it at one input. -/
def fnExactEvictDoWrong : ChangeSpec := { name := "fnExactEvictDo", fn := fun _ => fun
  | [d1, d2, d3, d4, d5] => { results := [.lit (.bool false)], args := [d1, d2, d3, d4, d5] }
  | _ => none }
def FnExactEvictDoWrongFalsely : Prop := fnExactEvictDoRow.holds Tryz.pinned (OpenSpec.ofChange fnExactEvictDoWrong)

/- THE SECOND FORM. 'bulk': how many values and letters a reading holds, each counted each time it is reached (what is shared counts as often as it is met; a slice's spare places count too). A statement '..UptoSaid' is the law's where the arguments, and the package variables that the reading takes, are together of bulk at most 1048576: NARROWER than '..Said'. Prove '..Said' where nothing that the law and all that it calls make is longer than what came in: it says more and counts as full. Else prove '..UptoSaid'. A law counts once. -/
mutual
def uptoBulk {H : Type} : DataW H → Nat
  | .lit (.string bytes) => bytes.length + 1
  | .lit _ => 1
  | .nil => 1
  | .ptr d => uptoBulk d + 1
  | .slice elems spare => uptoBulkAll elems + uptoBulkAll spare + 1
  | .agg parts => uptoBulkAll parts + 1
  | .iface _ d => uptoBulk d + 1
  | .map entries => uptoBulkEntries entries + 1
  | .held _ => 1
def uptoBulkAll {H : Type} : List (DataW H) → Nat
  | [] => 0
  | d :: r => uptoBulk d + uptoBulkAll r
def uptoBulkEntries {H : Type} : List (Lit × DataW H) → Nat
  | [] => 0
  | x :: r => uptoBulkEntry x + uptoBulkEntries r
def uptoBulkEntry {H : Type} : Lit × DataW H → Nat
  | (.string bytes, d) => bytes.length + uptoBulk d + 1
  | (_, d) => uptoBulk d + 1
 end
def uptoSmall : (H : Type) → List (DataW H) → Bool := fun _ ds => decide (uptoBulkAll ds ≤ 1048576)
def OpenSpec.upto (s : _root_.Go.ChangeSpec) : _root_.Go.OpenSpec := { _root_.Go.OpenSpec.ofChange s with cond := some uptoSmall }

/-- 'laws.FnExactEvictList', WHERE WHAT IT READS IS OF BULK AT MOST 1048576: true; the input reads as it did. -/
def fnExactEvictListUptoRow : OpenClaim := { program := "ytkcflajhmekcaaagreat", sum := "071929289e75ddbf1dde1b0e311a9a91934176d6d1fffc27b273f96e8362adbc", func := "loop.example/vectorpacker/laws.FnExactEvictList", spec := "fnExactEvictList", unfollowed := true, recurses := true, apart := false, narrowed := true }
def FnExactEvictListUptoSaid : Prop := fnExactEvictListUptoRow.holds Tryz.pinned (OpenSpec.upto fnExactEvictListSpec)

/-- 'laws.FnEvictDo', WHERE WHAT IT READS IS OF BULK AT MOST 1048576: true; the input reads as it did. -/
def fnEvictDoUptoRow : OpenClaim := { program := "ytkcflajhmekcaaagreat", sum := "071929289e75ddbf1dde1b0e311a9a91934176d6d1fffc27b273f96e8362adbc", func := "loop.example/vectorpacker/laws.FnEvictDo", spec := "fnEvictDo", unfollowed := true, recurses := true, apart := false, narrowed := true }
def FnEvictDoUptoSaid : Prop := fnEvictDoUptoRow.holds Tryz.pinned (OpenSpec.upto fnEvictDoSpec)

/-- 'laws.FnExactEvictDo', WHERE WHAT IT READS IS OF BULK AT MOST 1048576: true; the input reads as it did. -/
def fnExactEvictDoUptoRow : OpenClaim := { program := "ytkcflajhmekcaaagreat", sum := "071929289e75ddbf1dde1b0e311a9a91934176d6d1fffc27b273f96e8362adbc", func := "loop.example/vectorpacker/laws.FnExactEvictDo", spec := "fnExactEvictDo", unfollowed := true, recurses := true, apart := false, narrowed := true }
def FnExactEvictDoUptoSaid : Prop := fnExactEvictDoUptoRow.holds Tryz.pinned (OpenSpec.upto fnExactEvictDoSpec)

end Rows
end Go.Proofs.YtkcflajhmekcaaaGreat
