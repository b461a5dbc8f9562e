/-
  No cell of these rows narrows 'for every input' (looked for: loops, veiled, ifaces, maps, wideKeys, modest, calm, conditions, laid).
  DERIVED. THE GIVEN ROWS OF THIS SEAT. 10 by the template 'for every input the law returns true; each argument reads behind the call as it read before'; 0 by the template 'total and deterministic' (their statements: YtgngmjlbeofjkaaTotals.lean).
  GIVEN WITH THE SEED: the statements are not yours to turn. If you find one false, say at which input.
  Laid BY PROGRAM, IN A SANDBOX (cutbox-rows.mjs): the forced cells as the released guide's own fill.sh prints them over the translation c63482f0aa078b5a… (all of the seat's roots in one cut). By AI agents, Wed Nov 11 2026. No macro, syntax, notation, axiom, sorry.
-/
import Derived.Test.YtgngmjlbeofjkaaChecked
import GoSem.Claim
import GoSem.ClaimJoined
import GoSem.ClaimMapViews
import Derived.JoinedTies
import Derived.KernelRfl
namespace Go.Proofs.Ytgngmjlbeofjkaa
/- THE CELL 'sum', in the pinned program and in every row, IS THE sha256 OF THE DUMP (.gsa) THAT YtgngmjlbeofjkaaProg.lean LOADS. Nothing in Lean hashes anything: it is a label: what it is worth is what the hold of that sum in a sandbox is worth. -/
noncomputable def Try.pinned : Pinned := { name := "ytgngmjlbeofjkaa", sum := "c63482f0aa078b5ad8351da910f323167a7b1eefe9aa3442517d95b6774dbb26", checked := Try.checked }
namespace Rows
def none {H : Type} : Left H := { results := [], args := [] }

/-- 'laws.FnExactZoneGap': WHATEVER THE INPUT: true; the input reads as it did. -/
def fnExactZoneGapSpec : ChangeSpec := { name := "fnExactZoneGap", fn := fun _ => fun
  | [d1, d2, d3, d4] => { results := [.lit (.bool true)], args := [d1, d2, d3, d4] }
  | _ => none }
def fnExactZoneGapRow : OpenClaim := { program := "ytgngmjlbeofjkaa", sum := "c63482f0aa078b5ad8351da910f323167a7b1eefe9aa3442517d95b6774dbb26", func := "loop.example/vectorpacker/laws.FnExactZoneGap", spec := "fnExactZoneGap", unfollowed := true, recurses := true, apart := false }
def FnExactZoneGapSaid : Prop := fnExactZoneGapRow.holds Try.pinned (OpenSpec.ofChange fnExactZoneGapSpec)

/-- ITS FALSE NEIGHBOUR: 'it returns false'. Refute it at one input. -/
def fnExactZoneGapWrong : ChangeSpec := { name := "fnExactZoneGap", fn := fun _ => fun
  | [d1, d2, d3, d4] => { results := [.lit (.bool false)], args := [d1, d2, d3, d4] }
  | _ => none }
def FnExactZoneGapWrongFalsely : Prop := fnExactZoneGapRow.holds Try.pinned (OpenSpec.ofChange fnExactZoneGapWrong)

/-- 'laws.FnZoneCountsOne': WHATEVER THE INPUT: true; the input reads as it did. -/
def fnZoneCountsOneSpec : ChangeSpec := { name := "fnZoneCountsOne", fn := fun _ => fun
  | [d1, d2] => { results := [.lit (.bool true)], args := [d1, d2] }
  | _ => none }
def fnZoneCountsOneRow : OpenClaim := { program := "ytgngmjlbeofjkaa", sum := "c63482f0aa078b5ad8351da910f323167a7b1eefe9aa3442517d95b6774dbb26", func := "loop.example/vectorpacker/laws.FnZoneCountsOne", spec := "fnZoneCountsOne", unfollowed := true, recurses := true, apart := false }
def FnZoneCountsOneSaid : Prop := fnZoneCountsOneRow.holds Try.pinned (OpenSpec.ofChange fnZoneCountsOneSpec)

/-- ITS FALSE NEIGHBOUR: 'it returns false'. Refute it at one input. -/
def fnZoneCountsOneWrong : ChangeSpec := { name := "fnZoneCountsOne", fn := fun _ => fun
  | [d1, d2] => { results := [.lit (.bool false)], args := [d1, d2] }
  | _ => none }
def FnZoneCountsOneWrongFalsely : Prop := fnZoneCountsOneRow.holds Try.pinned (OpenSpec.ofChange fnZoneCountsOneWrong)

/-- 'laws.FnZoneGapOne': WHATEVER THE INPUT: true; the input reads as it did. -/
def fnZoneGapOneSpec : ChangeSpec := { name := "fnZoneGapOne", fn := fun _ => fun
  | [d] => { results := [.lit (.bool true)], args := [d] }
  | _ => none }
def fnZoneGapOneRow : OpenClaim := { program := "ytgngmjlbeofjkaa", sum := "c63482f0aa078b5ad8351da910f323167a7b1eefe9aa3442517d95b6774dbb26", func := "loop.example/vectorpacker/laws.FnZoneGapOne", spec := "fnZoneGapOne", unfollowed := true, recurses := true, apart := false }
def FnZoneGapOneSaid : Prop := fnZoneGapOneRow.holds Try.pinned (OpenSpec.ofChange fnZoneGapOneSpec)

/-- ITS FALSE NEIGHBOUR: 'it returns false'. Refute it at one input. -/
def fnZoneGapOneWrong : ChangeSpec := { name := "fnZoneGapOne", fn := fun _ => fun
  | [d] => { results := [.lit (.bool false)], args := [d] }
  | _ => none }
def FnZoneGapOneWrongFalsely : Prop := fnZoneGapOneRow.holds Try.pinned (OpenSpec.ofChange fnZoneGapOneWrong)

/-- 'laws.FnZoneCounts': WHATEVER THE INPUT: true; the input reads as it did. -/
def fnZoneCountsSpec : ChangeSpec := { name := "fnZoneCounts", fn := fun _ => fun
  | [d] => { results := [.lit (.bool true)], args := [d] }
  | _ => none }
def fnZoneCountsRow : OpenClaim := { program := "ytgngmjlbeofjkaa", sum := "c63482f0aa078b5ad8351da910f323167a7b1eefe9aa3442517d95b6774dbb26", func := "loop.example/vectorpacker/laws.FnZoneCounts", spec := "fnZoneCounts", unfollowed := true, recurses := true, apart := false }
def FnZoneCountsSaid : Prop := fnZoneCountsRow.holds Try.pinned (OpenSpec.ofChange fnZoneCountsSpec)

/-- ITS FALSE NEIGHBOUR: 'it returns false'. Refute it at one input. -/
def fnZoneCountsWrong : ChangeSpec := { name := "fnZoneCounts", fn := fun _ => fun
  | [d] => { results := [.lit (.bool false)], args := [d] }
  | _ => none }
def FnZoneCountsWrongFalsely : Prop := fnZoneCountsRow.holds Try.pinned (OpenSpec.ofChange fnZoneCountsWrong)

/-- 'laws.FnZoneGap': WHATEVER THE INPUT: true; the input reads as it did. -/
def fnZoneGapSpec : ChangeSpec := { name := "fnZoneGap", fn := fun _ => fun
  | [d] => { results := [.lit (.bool true)], args := [d] }
  | _ => none }
def fnZoneGapRow : OpenClaim := { program := "ytgngmjlbeofjkaa", sum := "c63482f0aa078b5ad8351da910f323167a7b1eefe9aa3442517d95b6774dbb26", func := "loop.example/vectorpacker/laws.FnZoneGap", spec := "fnZoneGap", unfollowed := true, recurses := true, apart := false }
def FnZoneGapSaid : Prop := fnZoneGapRow.holds Try.pinned (OpenSpec.ofChange fnZoneGapSpec)

/-- ITS FALSE NEIGHBOUR: 'it returns false'. Refute it at one input. -/
def fnZoneGapWrong : ChangeSpec := { name := "fnZoneGap", fn := fun _ => fun
  | [d] => { results := [.lit (.bool false)], args := [d] }
  | _ => none }
def FnZoneGapWrongFalsely : Prop := fnZoneGapRow.holds Try.pinned (OpenSpec.ofChange fnZoneGapWrong)

/-- 'laws.FnExactZoneCounts': WHATEVER THE INPUT: true; the input reads as it did. -/
def fnExactZoneCountsSpec : ChangeSpec := { name := "fnExactZoneCounts", fn := fun _ => fun
  | [d1, d2, d3, d4] => { results := [.lit (.bool true)], args := [d1, d2, d3, d4] }
  | _ => none }
def fnExactZoneCountsRow : OpenClaim := { program := "ytgngmjlbeofjkaa", sum := "c63482f0aa078b5ad8351da910f323167a7b1eefe9aa3442517d95b6774dbb26", func := "loop.example/vectorpacker/laws.FnExactZoneCounts", spec := "fnExactZoneCounts", unfollowed := true, recurses := true, apart := false }
def FnExactZoneCountsSaid : Prop := fnExactZoneCountsRow.holds Try.pinned (OpenSpec.ofChange fnExactZoneCountsSpec)

/-- ITS FALSE NEIGHBOUR: 'it returns false'. Refute it at one input. -/
def fnExactZoneCountsWrong : ChangeSpec := { name := "fnExactZoneCounts", fn := fun _ => fun
  | [d1, d2, d3, d4] => { results := [.lit (.bool false)], args := [d1, d2, d3, d4] }
  | _ => none }
def FnExactZoneCountsWrongFalsely : Prop := fnExactZoneCountsRow.holds Try.pinned (OpenSpec.ofChange fnExactZoneCountsWrong)

/-- 'laws.FnExactZoneAt': WHATEVER THE INPUT: true; the input reads as it did. -/
def fnExactZoneAtSpec : ChangeSpec := { name := "fnExactZoneAt", fn := fun _ => fun
  | [d1, d2, d3, d4, d5] => { results := [.lit (.bool true)], args := [d1, d2, d3, d4, d5] }
  | _ => none }
def fnExactZoneAtRow : OpenClaim := { program := "ytgngmjlbeofjkaa", sum := "c63482f0aa078b5ad8351da910f323167a7b1eefe9aa3442517d95b6774dbb26", func := "loop.example/vectorpacker/laws.FnExactZoneAt", spec := "fnExactZoneAt", unfollowed := true, recurses := true, apart := false }
def FnExactZoneAtSaid : Prop := fnExactZoneAtRow.holds Try.pinned (OpenSpec.ofChange fnExactZoneAtSpec)

/-- ITS FALSE NEIGHBOUR: 'it returns false'. Refute it at one input. -/
def fnExactZoneAtWrong : ChangeSpec := { name := "fnExactZoneAt", fn := fun _ => fun
  | [d1, d2, d3, d4, d5] => { results := [.lit (.bool false)], args := [d1, d2, d3, d4, d5] }
  | _ => none }
def FnExactZoneAtWrongFalsely : Prop := fnExactZoneAtRow.holds Try.pinned (OpenSpec.ofChange fnExactZoneAtWrong)

/-- 'laws.FnZoneAt': WHATEVER THE INPUT: true; the input reads as it did. -/
def fnZoneAtSpec : ChangeSpec := { name := "fnZoneAt", fn := fun _ => fun
  | [d] => { results := [.lit (.bool true)], args := [d] }
  | _ => none }
def fnZoneAtRow : OpenClaim := { program := "ytgngmjlbeofjkaa", sum := "c63482f0aa078b5ad8351da910f323167a7b1eefe9aa3442517d95b6774dbb26", func := "loop.example/vectorpacker/laws.FnZoneAt", spec := "fnZoneAt", unfollowed := true, recurses := true, apart := false }
def FnZoneAtSaid : Prop := fnZoneAtRow.holds Try.pinned (OpenSpec.ofChange fnZoneAtSpec)

/-- ITS FALSE NEIGHBOUR: 'it returns false'. Refute it at one input. -/
def fnZoneAtWrong : ChangeSpec := { name := "fnZoneAt", fn := fun _ => fun
  | [d] => { results := [.lit (.bool false)], args := [d] }
  | _ => none }
def FnZoneAtWrongFalsely : Prop := fnZoneAtRow.holds Try.pinned (OpenSpec.ofChange fnZoneAtWrong)

/-- 'laws.FnZoneAtGap': WHATEVER THE INPUT: true; the input reads as it did. -/
def fnZoneAtGapSpec : ChangeSpec := { name := "fnZoneAtGap", fn := fun _ => fun
  | [d] => { results := [.lit (.bool true)], args := [d] }
  | _ => none }
def fnZoneAtGapRow : OpenClaim := { program := "ytgngmjlbeofjkaa", sum := "c63482f0aa078b5ad8351da910f323167a7b1eefe9aa3442517d95b6774dbb26", func := "loop.example/vectorpacker/laws.FnZoneAtGap", spec := "fnZoneAtGap", unfollowed := true, recurses := true, apart := false }
def FnZoneAtGapSaid : Prop := fnZoneAtGapRow.holds Try.pinned (OpenSpec.ofChange fnZoneAtGapSpec)

/-- ITS FALSE NEIGHBOUR: 'it returns false'. Refute it at one input. -/
def fnZoneAtGapWrong : ChangeSpec := { name := "fnZoneAtGap", fn := fun _ => fun
  | [d] => { results := [.lit (.bool false)], args := [d] }
  | _ => none }
def FnZoneAtGapWrongFalsely : Prop := fnZoneAtGapRow.holds Try.pinned (OpenSpec.ofChange fnZoneAtGapWrong)

/-- 'laws.FnZoneAtNone': WHATEVER THE INPUT: true; the input reads as it did. -/
def fnZoneAtNoneSpec : ChangeSpec := { name := "fnZoneAtNone", fn := fun _ => fun
  | [d] => { results := [.lit (.bool true)], args := [d] }
  | _ => none }
def fnZoneAtNoneRow : OpenClaim := { program := "ytgngmjlbeofjkaa", sum := "c63482f0aa078b5ad8351da910f323167a7b1eefe9aa3442517d95b6774dbb26", func := "loop.example/vectorpacker/laws.FnZoneAtNone", spec := "fnZoneAtNone", unfollowed := true, recurses := true, apart := false }
def FnZoneAtNoneSaid : Prop := fnZoneAtNoneRow.holds Try.pinned (OpenSpec.ofChange fnZoneAtNoneSpec)

/-- ITS FALSE NEIGHBOUR: 'it returns false'. Refute it at one input. -/
def fnZoneAtNoneWrong : ChangeSpec := { name := "fnZoneAtNone", fn := fun _ => fun
  | [d] => { results := [.lit (.bool false)], args := [d] }
  | _ => none }
def FnZoneAtNoneWrongFalsely : Prop := fnZoneAtNoneRow.holds Try.pinned (OpenSpec.ofChange fnZoneAtNoneWrong)

/- THE SECOND FORM. 'bulk': how many values and letters a reading holds, each counted each time it is reached (what is shared counts as often as it is met; a slice's spare places count too). A statement '..UptoSaid' is the law's where the arguments, and the package variables that the reading takes, are together of bulk at most 1048576: NARROWER than '..Said'. Prove '..Said' where nothing that the law and all that it calls make is longer than what came in: it says more and counts as full. Else prove '..UptoSaid'. A law counts once. -/
mutual
def uptoBulk {H : Type} : DataW H → Nat
  | .lit (.string bytes) => bytes.length + 1
  | .lit _ => 1
  | .nil => 1
  | .ptr d => uptoBulk d + 1
  | .slice elems spare => uptoBulkAll elems + uptoBulkAll spare + 1
  | .agg parts => uptoBulkAll parts + 1
  | .iface _ d => uptoBulk d + 1
  | .map entries => uptoBulkEntries entries + 1
  | .held _ => 1
def uptoBulkAll {H : Type} : List (DataW H) → Nat
  | [] => 0
  | d :: r => uptoBulk d + uptoBulkAll r
def uptoBulkEntries {H : Type} : List (Lit × DataW H) → Nat
  | [] => 0
  | x :: r => uptoBulkEntry x + uptoBulkEntries r
def uptoBulkEntry {H : Type} : Lit × DataW H → Nat
  | (.string bytes, d) => bytes.length + uptoBulk d + 1
  | (_, d) => uptoBulk d + 1
 end
def uptoSmall : (H : Type) → List (DataW H) → Bool := fun _ ds => decide (uptoBulkAll ds ≤ 1048576)
def OpenSpec.upto (s : _root_.Go.ChangeSpec) : _root_.Go.OpenSpec := { _root_.Go.OpenSpec.ofChange s with cond := some uptoSmall }

/-- 'laws.FnExactZoneGap', WHERE WHAT IT READS IS OF BULK AT MOST 1048576: true; the input reads as it did. -/
def fnExactZoneGapUptoRow : OpenClaim := { program := "ytgngmjlbeofjkaa", sum := "c63482f0aa078b5ad8351da910f323167a7b1eefe9aa3442517d95b6774dbb26", func := "loop.example/vectorpacker/laws.FnExactZoneGap", spec := "fnExactZoneGap", unfollowed := true, recurses := true, apart := false, narrowed := true }
def FnExactZoneGapUptoSaid : Prop := fnExactZoneGapUptoRow.holds Try.pinned (OpenSpec.upto fnExactZoneGapSpec)

/-- 'laws.FnZoneCountsOne', WHERE WHAT IT READS IS OF BULK AT MOST 1048576: true; the input reads as it did. -/
def fnZoneCountsOneUptoRow : OpenClaim := { program := "ytgngmjlbeofjkaa", sum := "c63482f0aa078b5ad8351da910f323167a7b1eefe9aa3442517d95b6774dbb26", func := "loop.example/vectorpacker/laws.FnZoneCountsOne", spec := "fnZoneCountsOne", unfollowed := true, recurses := true, apart := false, narrowed := true }
def FnZoneCountsOneUptoSaid : Prop := fnZoneCountsOneUptoRow.holds Try.pinned (OpenSpec.upto fnZoneCountsOneSpec)

/-- 'laws.FnZoneGapOne', WHERE WHAT IT READS IS OF BULK AT MOST 1048576: true; the input reads as it did. -/
def fnZoneGapOneUptoRow : OpenClaim := { program := "ytgngmjlbeofjkaa", sum := "c63482f0aa078b5ad8351da910f323167a7b1eefe9aa3442517d95b6774dbb26", func := "loop.example/vectorpacker/laws.FnZoneGapOne", spec := "fnZoneGapOne", unfollowed := true, recurses := true, apart := false, narrowed := true }
def FnZoneGapOneUptoSaid : Prop := fnZoneGapOneUptoRow.holds Try.pinned (OpenSpec.upto fnZoneGapOneSpec)

/-- 'laws.FnZoneCounts', WHERE WHAT IT READS IS OF BULK AT MOST 1048576: true; the input reads as it did. -/
def fnZoneCountsUptoRow : OpenClaim := { program := "ytgngmjlbeofjkaa", sum := "c63482f0aa078b5ad8351da910f323167a7b1eefe9aa3442517d95b6774dbb26", func := "loop.example/vectorpacker/laws.FnZoneCounts", spec := "fnZoneCounts", unfollowed := true, recurses := true, apart := false, narrowed := true }
def FnZoneCountsUptoSaid : Prop := fnZoneCountsUptoRow.holds Try.pinned (OpenSpec.upto fnZoneCountsSpec)

/-- 'laws.FnZoneGap', WHERE WHAT IT READS IS OF BULK AT MOST 1048576: true; the input reads as it did. -/
def fnZoneGapUptoRow : OpenClaim := { program := "ytgngmjlbeofjkaa", sum := "c63482f0aa078b5ad8351da910f323167a7b1eefe9aa3442517d95b6774dbb26", func := "loop.example/vectorpacker/laws.FnZoneGap", spec := "fnZoneGap", unfollowed := true, recurses := true, apart := false, narrowed := true }
def FnZoneGapUptoSaid : Prop := fnZoneGapUptoRow.holds Try.pinned (OpenSpec.upto fnZoneGapSpec)

/-- 'laws.FnExactZoneCounts', WHERE WHAT IT READS IS OF BULK AT MOST 1048576: true; the input reads as it did. -/
def fnExactZoneCountsUptoRow : OpenClaim := { program := "ytgngmjlbeofjkaa", sum := "c63482f0aa078b5ad8351da910f323167a7b1eefe9aa3442517d95b6774dbb26", func := "loop.example/vectorpacker/laws.FnExactZoneCounts", spec := "fnExactZoneCounts", unfollowed := true, recurses := true, apart := false, narrowed := true }
def FnExactZoneCountsUptoSaid : Prop := fnExactZoneCountsUptoRow.holds Try.pinned (OpenSpec.upto fnExactZoneCountsSpec)

/-- 'laws.FnExactZoneAt', WHERE WHAT IT READS IS OF BULK AT MOST 1048576: true; the input reads as it did. -/
def fnExactZoneAtUptoRow : OpenClaim := { program := "ytgngmjlbeofjkaa", sum := "c63482f0aa078b5ad8351da910f323167a7b1eefe9aa3442517d95b6774dbb26", func := "loop.example/vectorpacker/laws.FnExactZoneAt", spec := "fnExactZoneAt", unfollowed := true, recurses := true, apart := false, narrowed := true }
def FnExactZoneAtUptoSaid : Prop := fnExactZoneAtUptoRow.holds Try.pinned (OpenSpec.upto fnExactZoneAtSpec)

/-- 'laws.FnZoneAt', WHERE WHAT IT READS IS OF BULK AT MOST 1048576: true; the input reads as it did. -/
def fnZoneAtUptoRow : OpenClaim := { program := "ytgngmjlbeofjkaa", sum := "c63482f0aa078b5ad8351da910f323167a7b1eefe9aa3442517d95b6774dbb26", func := "loop.example/vectorpacker/laws.FnZoneAt", spec := "fnZoneAt", unfollowed := true, recurses := true, apart := false, narrowed := true }
def FnZoneAtUptoSaid : Prop := fnZoneAtUptoRow.holds Try.pinned (OpenSpec.upto fnZoneAtSpec)

/-- 'laws.FnZoneAtGap', WHERE WHAT IT READS IS OF BULK AT MOST 1048576: true; the input reads as it did. -/
def fnZoneAtGapUptoRow : OpenClaim := { program := "ytgngmjlbeofjkaa", sum := "c63482f0aa078b5ad8351da910f323167a7b1eefe9aa3442517d95b6774dbb26", func := "loop.example/vectorpacker/laws.FnZoneAtGap", spec := "fnZoneAtGap", unfollowed := true, recurses := true, apart := false, narrowed := true }
def FnZoneAtGapUptoSaid : Prop := fnZoneAtGapUptoRow.holds Try.pinned (OpenSpec.upto fnZoneAtGapSpec)

/-- 'laws.FnZoneAtNone', WHERE WHAT IT READS IS OF BULK AT MOST 1048576: true; the input reads as it did. -/
def fnZoneAtNoneUptoRow : OpenClaim := { program := "ytgngmjlbeofjkaa", sum := "c63482f0aa078b5ad8351da910f323167a7b1eefe9aa3442517d95b6774dbb26", func := "loop.example/vectorpacker/laws.FnZoneAtNone", spec := "fnZoneAtNone", unfollowed := true, recurses := true, apart := false, narrowed := true }
def FnZoneAtNoneUptoSaid : Prop := fnZoneAtNoneUptoRow.holds Try.pinned (OpenSpec.upto fnZoneAtNoneSpec)

end Rows
end Go.Proofs.Ytgngmjlbeofjkaa
