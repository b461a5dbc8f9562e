/-
  No cell of these rows narrows 'for every input' (looked for: loops, veiled, ifaces, maps, wideKeys, modest, calm, conditions, laid).
  DERIVED. THE GIVEN ROWS OF THIS SEAT. 8 by the template 'for every input the law returns true; each argument reads behind the call as it read before'; 0 by the template 'total and deterministic' (their statements: YtkcflajhmekcaaaTotals.lean).
  GIVEN WITH THE SEED: the statements are not yours to turn. If you find one false, say at which input.
  Laid BY PROGRAM, IN A SANDBOX (cutbox-rows.mjs): the forced cells as the released guide's own fill.sh prints them over the translation 7c46103f001344dd… (all of the seat's roots in one cut). By AI agents, Wed Nov 11 2026. No macro, syntax, notation, axiom, sorry.
-/
import Derived.Test.YtkcflajhmekcaaaChecked
import GoSem.Claim
import GoSem.ClaimJoined
import GoSem.ClaimMapViews
import Derived.JoinedTies
import Derived.KernelRfl
namespace Go.Proofs.Ytkcflajhmekcaaa
/- THE CELL 'sum', in the pinned program and in every row, IS THE sha256 OF THE DUMP (.gsa) THAT YtkcflajhmekcaaaProg.lean LOADS. Nothing in Lean hashes anything: it is a label: what it is worth is what the hold of that sum in a sandbox is worth. -/
noncomputable def Try.pinned : Pinned := { name := "ytkcflajhmekcaaa", sum := "7c46103f001344ddc2959e34e17b446ee068f1499194b00c2bbd3faccf8c37f6", checked := Try.checked }
namespace Rows
def none {H : Type} : Left H := { results := [], args := [] }

/-- 'laws.FnEvict': WHATEVER THE INPUT: true; the input reads as it did. -/
def fnEvictSpec : ChangeSpec := { name := "fnEvict", fn := fun _ => fun
  | [d] => { results := [.lit (.bool true)], args := [d] }
  | _ => none }
def fnEvictRow : OpenClaim := { program := "ytkcflajhmekcaaa", sum := "7c46103f001344ddc2959e34e17b446ee068f1499194b00c2bbd3faccf8c37f6", func := "loop.example/vectorpacker/laws.FnEvict", spec := "fnEvict", unfollowed := true, recurses := true, apart := false }
def FnEvictSaid : Prop := fnEvictRow.holds Try.pinned (OpenSpec.ofChange fnEvictSpec)

/-- ITS FALSE NEIGHBOUR: 'it returns false'. Refute it at one input. -/
def fnEvictWrong : ChangeSpec := { name := "fnEvict", fn := fun _ => fun
  | [d] => { results := [.lit (.bool false)], args := [d] }
  | _ => none }
def FnEvictWrongFalsely : Prop := fnEvictRow.holds Try.pinned (OpenSpec.ofChange fnEvictWrong)

/-- 'laws.FnEvictEach': WHATEVER THE INPUT: true; the input reads as it did. -/
def fnEvictEachSpec : ChangeSpec := { name := "fnEvictEach", fn := fun _ => fun
  | [d1, d2] => { results := [.lit (.bool true)], args := [d1, d2] }
  | _ => none }
def fnEvictEachRow : OpenClaim := { program := "ytkcflajhmekcaaa", sum := "7c46103f001344ddc2959e34e17b446ee068f1499194b00c2bbd3faccf8c37f6", func := "loop.example/vectorpacker/laws.FnEvictEach", spec := "fnEvictEach", unfollowed := true, recurses := true, apart := false }
def FnEvictEachSaid : Prop := fnEvictEachRow.holds Try.pinned (OpenSpec.ofChange fnEvictEachSpec)

/-- ITS FALSE NEIGHBOUR: 'it returns false'. Refute it at one input. -/
def fnEvictEachWrong : ChangeSpec := { name := "fnEvictEach", fn := fun _ => fun
  | [d1, d2] => { results := [.lit (.bool false)], args := [d1, d2] }
  | _ => none }
def FnEvictEachWrongFalsely : Prop := fnEvictEachRow.holds Try.pinned (OpenSpec.ofChange fnEvictEachWrong)

/-- 'laws.FnEvictLow': WHATEVER THE INPUT: true; the input reads as it did. -/
def fnEvictLowSpec : ChangeSpec := { name := "fnEvictLow", fn := fun _ => fun
  | [d] => { results := [.lit (.bool true)], args := [d] }
  | _ => none }
def fnEvictLowRow : OpenClaim := { program := "ytkcflajhmekcaaa", sum := "7c46103f001344ddc2959e34e17b446ee068f1499194b00c2bbd3faccf8c37f6", func := "loop.example/vectorpacker/laws.FnEvictLow", spec := "fnEvictLow", unfollowed := true, recurses := true, apart := false }
def FnEvictLowSaid : Prop := fnEvictLowRow.holds Try.pinned (OpenSpec.ofChange fnEvictLowSpec)

/-- ITS FALSE NEIGHBOUR: 'it returns false'. Refute it at one input. -/
def fnEvictLowWrong : ChangeSpec := { name := "fnEvictLow", fn := fun _ => fun
  | [d] => { results := [.lit (.bool false)], args := [d] }
  | _ => none }
def FnEvictLowWrongFalsely : Prop := fnEvictLowRow.holds Try.pinned (OpenSpec.ofChange fnEvictLowWrong)

/-- 'laws.FnEvictNone': WHATEVER THE INPUT: true; the input reads as it did. -/
def fnEvictNoneSpec : ChangeSpec := { name := "fnEvictNone", fn := fun _ => fun
  | [d] => { results := [.lit (.bool true)], args := [d] }
  | _ => none }
def fnEvictNoneRow : OpenClaim := { program := "ytkcflajhmekcaaa", sum := "7c46103f001344ddc2959e34e17b446ee068f1499194b00c2bbd3faccf8c37f6", func := "loop.example/vectorpacker/laws.FnEvictNone", spec := "fnEvictNone", unfollowed := true, recurses := true, apart := false }
def FnEvictNoneSaid : Prop := fnEvictNoneRow.holds Try.pinned (OpenSpec.ofChange fnEvictNoneSpec)

/-- ITS FALSE NEIGHBOUR: 'it returns false'. Refute it at one input. -/
def fnEvictNoneWrong : ChangeSpec := { name := "fnEvictNone", fn := fun _ => fun
  | [d] => { results := [.lit (.bool false)], args := [d] }
  | _ => none }
def FnEvictNoneWrongFalsely : Prop := fnEvictNoneRow.holds Try.pinned (OpenSpec.ofChange fnEvictNoneWrong)

/-- 'laws.FnEvictRank': WHATEVER THE INPUT: true; the input reads as it did. -/
def fnEvictRankSpec : ChangeSpec := { name := "fnEvictRank", fn := fun _ => fun
  | [d] => { results := [.lit (.bool true)], args := [d] }
  | _ => none }
def fnEvictRankRow : OpenClaim := { program := "ytkcflajhmekcaaa", sum := "7c46103f001344ddc2959e34e17b446ee068f1499194b00c2bbd3faccf8c37f6", func := "loop.example/vectorpacker/laws.FnEvictRank", spec := "fnEvictRank", unfollowed := true, recurses := true, apart := false }
def FnEvictRankSaid : Prop := fnEvictRankRow.holds Try.pinned (OpenSpec.ofChange fnEvictRankSpec)

/-- ITS FALSE NEIGHBOUR: 'it returns false'. Refute it at one input. -/
def fnEvictRankWrong : ChangeSpec := { name := "fnEvictRank", fn := fun _ => fun
  | [d] => { results := [.lit (.bool false)], args := [d] }
  | _ => none }
def FnEvictRankWrongFalsely : Prop := fnEvictRankRow.holds Try.pinned (OpenSpec.ofChange fnEvictRankWrong)

/-- 'laws.FnEvictSame': WHATEVER THE INPUT: true; the input reads as it did. -/
def fnEvictSameSpec : ChangeSpec := { name := "fnEvictSame", fn := fun _ => fun
  | [d] => { results := [.lit (.bool true)], args := [d] }
  | _ => none }
def fnEvictSameRow : OpenClaim := { program := "ytkcflajhmekcaaa", sum := "7c46103f001344ddc2959e34e17b446ee068f1499194b00c2bbd3faccf8c37f6", func := "loop.example/vectorpacker/laws.FnEvictSame", spec := "fnEvictSame", unfollowed := true, recurses := true, apart := false }
def FnEvictSameSaid : Prop := fnEvictSameRow.holds Try.pinned (OpenSpec.ofChange fnEvictSameSpec)

/-- ITS FALSE NEIGHBOUR: 'it returns false'. Refute it at one input. -/
def fnEvictSameWrong : ChangeSpec := { name := "fnEvictSame", fn := fun _ => fun
  | [d] => { results := [.lit (.bool false)], args := [d] }
  | _ => none }
def FnEvictSameWrongFalsely : Prop := fnEvictSameRow.holds Try.pinned (OpenSpec.ofChange fnEvictSameWrong)

/-- 'laws.FnEvictCost': WHATEVER THE INPUT: true; the input reads as it did. -/
def fnEvictCostSpec : ChangeSpec := { name := "fnEvictCost", fn := fun _ => fun
  | [d] => { results := [.lit (.bool true)], args := [d] }
  | _ => none }
def fnEvictCostRow : OpenClaim := { program := "ytkcflajhmekcaaa", sum := "7c46103f001344ddc2959e34e17b446ee068f1499194b00c2bbd3faccf8c37f6", func := "loop.example/vectorpacker/laws.FnEvictCost", spec := "fnEvictCost", unfollowed := true, recurses := true, apart := false }
def FnEvictCostSaid : Prop := fnEvictCostRow.holds Try.pinned (OpenSpec.ofChange fnEvictCostSpec)

/-- ITS FALSE NEIGHBOUR: 'it returns false'. Refute it at one input. -/
def fnEvictCostWrong : ChangeSpec := { name := "fnEvictCost", fn := fun _ => fun
  | [d] => { results := [.lit (.bool false)], args := [d] }
  | _ => none }
def FnEvictCostWrongFalsely : Prop := fnEvictCostRow.holds Try.pinned (OpenSpec.ofChange fnEvictCostWrong)

/-- 'laws.FnExactEvictCost': WHATEVER THE INPUT: true; the input reads as it did. -/
def fnExactEvictCostSpec : ChangeSpec := { name := "fnExactEvictCost", fn := fun _ => fun
  | [d1, d2, d3, d4, d5] => { results := [.lit (.bool true)], args := [d1, d2, d3, d4, d5] }
  | _ => none }
def fnExactEvictCostRow : OpenClaim := { program := "ytkcflajhmekcaaa", sum := "7c46103f001344ddc2959e34e17b446ee068f1499194b00c2bbd3faccf8c37f6", func := "loop.example/vectorpacker/laws.FnExactEvictCost", spec := "fnExactEvictCost", unfollowed := true, recurses := true, apart := false }
def FnExactEvictCostSaid : Prop := fnExactEvictCostRow.holds Try.pinned (OpenSpec.ofChange fnExactEvictCostSpec)

/-- ITS FALSE NEIGHBOUR: 'it returns false'. Refute it at one input. -/
def fnExactEvictCostWrong : ChangeSpec := { name := "fnExactEvictCost", fn := fun _ => fun
  | [d1, d2, d3, d4, d5] => { results := [.lit (.bool false)], args := [d1, d2, d3, d4, d5] }
  | _ => none }
def FnExactEvictCostWrongFalsely : Prop := fnExactEvictCostRow.holds Try.pinned (OpenSpec.ofChange fnExactEvictCostWrong)

/- THE SECOND FORM. 'bulk': how many values and letters a reading holds, each counted each time it is reached (what is shared counts as often as it is met; a slice's spare places count too). A statement '..UptoSaid' is the law's where the arguments, and the package variables that the reading takes, are together of bulk at most 1048576: NARROWER than '..Said'. Prove '..Said' where nothing that the law and all that it calls make is longer than what came in: it says more and counts as full. Else prove '..UptoSaid'. A law counts once. -/
mutual
def uptoBulk {H : Type} : DataW H → Nat
  | .lit (.string bytes) => bytes.length + 1
  | .lit _ => 1
  | .nil => 1
  | .ptr d => uptoBulk d + 1
  | .slice elems spare => uptoBulkAll elems + uptoBulkAll spare + 1
  | .agg parts => uptoBulkAll parts + 1
  | .iface _ d => uptoBulk d + 1
  | .map entries => uptoBulkEntries entries + 1
  | .held _ => 1
def uptoBulkAll {H : Type} : List (DataW H) → Nat
  | [] => 0
  | d :: r => uptoBulk d + uptoBulkAll r
def uptoBulkEntries {H : Type} : List (Lit × DataW H) → Nat
  | [] => 0
  | x :: r => uptoBulkEntry x + uptoBulkEntries r
def uptoBulkEntry {H : Type} : Lit × DataW H → Nat
  | (.string bytes, d) => bytes.length + uptoBulk d + 1
  | (_, d) => uptoBulk d + 1
 end
def uptoSmall : (H : Type) → List (DataW H) → Bool := fun _ ds => decide (uptoBulkAll ds ≤ 1048576)
def OpenSpec.upto (s : _root_.Go.ChangeSpec) : _root_.Go.OpenSpec := { _root_.Go.OpenSpec.ofChange s with cond := some uptoSmall }

/-- 'laws.FnEvict', WHERE WHAT IT READS IS OF BULK AT MOST 1048576: true; the input reads as it did. -/
def fnEvictUptoRow : OpenClaim := { program := "ytkcflajhmekcaaa", sum := "7c46103f001344ddc2959e34e17b446ee068f1499194b00c2bbd3faccf8c37f6", func := "loop.example/vectorpacker/laws.FnEvict", spec := "fnEvict", unfollowed := true, recurses := true, apart := false, narrowed := true }
def FnEvictUptoSaid : Prop := fnEvictUptoRow.holds Try.pinned (OpenSpec.upto fnEvictSpec)

/-- 'laws.FnEvictEach', WHERE WHAT IT READS IS OF BULK AT MOST 1048576: true; the input reads as it did. -/
def fnEvictEachUptoRow : OpenClaim := { program := "ytkcflajhmekcaaa", sum := "7c46103f001344ddc2959e34e17b446ee068f1499194b00c2bbd3faccf8c37f6", func := "loop.example/vectorpacker/laws.FnEvictEach", spec := "fnEvictEach", unfollowed := true, recurses := true, apart := false, narrowed := true }
def FnEvictEachUptoSaid : Prop := fnEvictEachUptoRow.holds Try.pinned (OpenSpec.upto fnEvictEachSpec)

/-- 'laws.FnEvictLow', WHERE WHAT IT READS IS OF BULK AT MOST 1048576: true; the input reads as it did. -/
def fnEvictLowUptoRow : OpenClaim := { program := "ytkcflajhmekcaaa", sum := "7c46103f001344ddc2959e34e17b446ee068f1499194b00c2bbd3faccf8c37f6", func := "loop.example/vectorpacker/laws.FnEvictLow", spec := "fnEvictLow", unfollowed := true, recurses := true, apart := false, narrowed := true }
def FnEvictLowUptoSaid : Prop := fnEvictLowUptoRow.holds Try.pinned (OpenSpec.upto fnEvictLowSpec)

/-- 'laws.FnEvictNone', WHERE WHAT IT READS IS OF BULK AT MOST 1048576: true; the input reads as it did. -/
def fnEvictNoneUptoRow : OpenClaim := { program := "ytkcflajhmekcaaa", sum := "7c46103f001344ddc2959e34e17b446ee068f1499194b00c2bbd3faccf8c37f6", func := "loop.example/vectorpacker/laws.FnEvictNone", spec := "fnEvictNone", unfollowed := true, recurses := true, apart := false, narrowed := true }
def FnEvictNoneUptoSaid : Prop := fnEvictNoneUptoRow.holds Try.pinned (OpenSpec.upto fnEvictNoneSpec)

/-- 'laws.FnEvictRank', WHERE WHAT IT READS IS OF BULK AT MOST 1048576: true; the input reads as it did. -/
def fnEvictRankUptoRow : OpenClaim := { program := "ytkcflajhmekcaaa", sum := "7c46103f001344ddc2959e34e17b446ee068f1499194b00c2bbd3faccf8c37f6", func := "loop.example/vectorpacker/laws.FnEvictRank", spec := "fnEvictRank", unfollowed := true, recurses := true, apart := false, narrowed := true }
def FnEvictRankUptoSaid : Prop := fnEvictRankUptoRow.holds Try.pinned (OpenSpec.upto fnEvictRankSpec)

/-- 'laws.FnEvictSame', WHERE WHAT IT READS IS OF BULK AT MOST 1048576: true; the input reads as it did. -/
def fnEvictSameUptoRow : OpenClaim := { program := "ytkcflajhmekcaaa", sum := "7c46103f001344ddc2959e34e17b446ee068f1499194b00c2bbd3faccf8c37f6", func := "loop.example/vectorpacker/laws.FnEvictSame", spec := "fnEvictSame", unfollowed := true, recurses := true, apart := false, narrowed := true }
def FnEvictSameUptoSaid : Prop := fnEvictSameUptoRow.holds Try.pinned (OpenSpec.upto fnEvictSameSpec)

/-- 'laws.FnEvictCost', WHERE WHAT IT READS IS OF BULK AT MOST 1048576: true; the input reads as it did. -/
def fnEvictCostUptoRow : OpenClaim := { program := "ytkcflajhmekcaaa", sum := "7c46103f001344ddc2959e34e17b446ee068f1499194b00c2bbd3faccf8c37f6", func := "loop.example/vectorpacker/laws.FnEvictCost", spec := "fnEvictCost", unfollowed := true, recurses := true, apart := false, narrowed := true }
def FnEvictCostUptoSaid : Prop := fnEvictCostUptoRow.holds Try.pinned (OpenSpec.upto fnEvictCostSpec)

/-- 'laws.FnExactEvictCost', WHERE WHAT IT READS IS OF BULK AT MOST 1048576: true; the input reads as it did. -/
def fnExactEvictCostUptoRow : OpenClaim := { program := "ytkcflajhmekcaaa", sum := "7c46103f001344ddc2959e34e17b446ee068f1499194b00c2bbd3faccf8c37f6", func := "loop.example/vectorpacker/laws.FnExactEvictCost", spec := "fnExactEvictCost", unfollowed := true, recurses := true, apart := false, narrowed := true }
def FnExactEvictCostUptoSaid : Prop := fnExactEvictCostUptoRow.holds Try.pinned (OpenSpec.upto fnExactEvictCostSpec)

end Rows
end Go.Proofs.Ytkcflajhmekcaaa
