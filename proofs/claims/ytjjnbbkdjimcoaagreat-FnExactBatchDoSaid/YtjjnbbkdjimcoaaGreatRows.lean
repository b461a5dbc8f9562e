/-
  No cell of these rows narrows 'for every input' (looked for: loops, veiled, ifaces, maps, wideKeys, modest, calm, conditions, laid).
  DERIVED. THE GIVEN ROWS OF THIS SEAT. 11 by the template 'for every input the law returns true; each argument reads behind the call as it read before'; 0 by the template 'total and deterministic' (their statements: YtjjnbbkdjimcoaaGreatTotals.lean).
  GIVEN WITH THE SEED: the statements are not yours to turn. If you find one false, say at which input.
  Laid BY PROGRAM, IN A SANDBOX (cutbox-rows.mjs): the forced cells as the released guide's own fill.sh prints them over the translation 0ca3c38b6dffe247… (all of the seat's roots in one cut). By AI agents, Wed Nov 11 2026. No macro, syntax, notation, axiom, sorry.
-/
import Derived.Test.YtjjnbbkdjimcoaaGreatChecked
import GoSem.Claim
import GoSem.ClaimJoined
import GoSem.ClaimMapViews
import Derived.JoinedTies
import Derived.KernelRfl
namespace Go.Proofs.YtjjnbbkdjimcoaaGreat
/- THE CELL 'sum', in the pinned program and in every row, IS THE sha256 OF THE DUMP (.gsa) THAT YtjjnbbkdjimcoaaGreatProg.lean LOADS. Nothing in Lean hashes anything: it is a label: what it is worth is what the hold of that sum in a sandbox is worth. -/
noncomputable def Tryz.pinned : Pinned := { name := "ytjjnbbkdjimcoaagreat", sum := "0ca3c38b6dffe2478c49d21041a774f4a5e5f84888ea9bac1f3410c5d90c2c51", checked := Tryz.checked }
namespace Rows
def none {H : Type} : Left H := { results := [], args := [] }

/-- 'laws.FnBatchNeedNone': WHATEVER THE INPUT: true; the input reads as it did. -/
def fnBatchNeedNoneSpec : ChangeSpec := { name := "fnBatchNeedNone", fn := fun _ => fun
  | [d] => { results := [.lit (.bool true)], args := [d] }
  | _ => none }
def fnBatchNeedNoneRow : OpenClaim := { program := "ytjjnbbkdjimcoaagreat", sum := "0ca3c38b6dffe2478c49d21041a774f4a5e5f84888ea9bac1f3410c5d90c2c51", func := "loop.example/vectorpacker/laws.FnBatchNeedNone", spec := "fnBatchNeedNone", inPlace := ["(*internal/sync.Mutex).Lock", "internal/race.Disable", "sync/atomic.CompareAndSwapInt32", "internal/race.Enable", "internal/race.Acquire", "(*internal/sync.Mutex).lockSlow", "internal/sync.runtime_canSpin", "internal/sync.runtime_doSpin", "internal/sync.throw", "internal/sync.runtime_nanotime", "internal/sync.runtime_SemacquireMutex", "sync/atomic.AddInt32", "(*internal/sync.Mutex).Unlock", "internal/race.ReleaseMerge", "(*internal/sync.Mutex).unlockSlow", "internal/sync.fatal", "internal/sync.runtime_Semrelease"], unfollowed := true, recurses := true, apart := false }
def FnBatchNeedNoneSaid : Prop := fnBatchNeedNoneRow.holds Tryz.pinned (OpenSpec.ofChange fnBatchNeedNoneSpec)

/-- ITS FALSE NEIGHBOUR: 'it returns false'. Refute it at one input. -/
def fnBatchNeedNoneWrong : ChangeSpec := { name := "fnBatchNeedNone", fn := fun _ => fun
  | [d] => { results := [.lit (.bool false)], args := [d] }
  | _ => none }
def FnBatchNeedNoneWrongFalsely : Prop := fnBatchNeedNoneRow.holds Tryz.pinned (OpenSpec.ofChange fnBatchNeedNoneWrong)

/-- 'laws.FnBatchOne': WHATEVER THE INPUT: true; the input reads as it did. -/
def fnBatchOneSpec : ChangeSpec := { name := "fnBatchOne", fn := fun _ => fun
  | [d1, d2] => { results := [.lit (.bool true)], args := [d1, d2] }
  | _ => none }
def fnBatchOneRow : OpenClaim := { program := "ytjjnbbkdjimcoaagreat", sum := "0ca3c38b6dffe2478c49d21041a774f4a5e5f84888ea9bac1f3410c5d90c2c51", func := "loop.example/vectorpacker/laws.FnBatchOne", spec := "fnBatchOne", inPlace := ["(*internal/sync.Mutex).Lock", "internal/race.Disable", "sync/atomic.CompareAndSwapInt32", "internal/race.Enable", "internal/race.Acquire", "(*internal/sync.Mutex).lockSlow", "internal/sync.runtime_canSpin", "internal/sync.runtime_doSpin", "internal/sync.throw", "internal/sync.runtime_nanotime", "internal/sync.runtime_SemacquireMutex", "sync/atomic.AddInt32", "(*internal/sync.Mutex).Unlock", "internal/race.ReleaseMerge", "(*internal/sync.Mutex).unlockSlow", "internal/sync.fatal", "internal/sync.runtime_Semrelease"], unfollowed := true, recurses := true, apart := false }
def FnBatchOneSaid : Prop := fnBatchOneRow.holds Tryz.pinned (OpenSpec.ofChange fnBatchOneSpec)

/-- ITS FALSE NEIGHBOUR: 'it returns false'. Refute it at one input. -/
def fnBatchOneWrong : ChangeSpec := { name := "fnBatchOne", fn := fun _ => fun
  | [d1, d2] => { results := [.lit (.bool false)], args := [d1, d2] }
  | _ => none }
def FnBatchOneWrongFalsely : Prop := fnBatchOneRow.holds Tryz.pinned (OpenSpec.ofChange fnBatchOneWrong)

/-- 'laws.FnBatchOrder': WHATEVER THE INPUT: true; the input reads as it did. -/
def fnBatchOrderSpec : ChangeSpec := { name := "fnBatchOrder", fn := fun _ => fun
  | [d] => { results := [.lit (.bool true)], args := [d] }
  | _ => none }
def fnBatchOrderRow : OpenClaim := { program := "ytjjnbbkdjimcoaagreat", sum := "0ca3c38b6dffe2478c49d21041a774f4a5e5f84888ea9bac1f3410c5d90c2c51", func := "loop.example/vectorpacker/laws.FnBatchOrder", spec := "fnBatchOrder", inPlace := ["(*internal/sync.Mutex).Lock", "internal/race.Disable", "sync/atomic.CompareAndSwapInt32", "internal/race.Enable", "internal/race.Acquire", "(*internal/sync.Mutex).lockSlow", "internal/sync.runtime_canSpin", "internal/sync.runtime_doSpin", "internal/sync.throw", "internal/sync.runtime_nanotime", "internal/sync.runtime_SemacquireMutex", "sync/atomic.AddInt32", "(*internal/sync.Mutex).Unlock", "internal/race.ReleaseMerge", "(*internal/sync.Mutex).unlockSlow", "internal/sync.fatal", "internal/sync.runtime_Semrelease"], unfollowed := true, recurses := true, apart := false }
def FnBatchOrderSaid : Prop := fnBatchOrderRow.holds Tryz.pinned (OpenSpec.ofChange fnBatchOrderSpec)

/-- ITS FALSE NEIGHBOUR: 'it returns false'. Refute it at one input. -/
def fnBatchOrderWrong : ChangeSpec := { name := "fnBatchOrder", fn := fun _ => fun
  | [d] => { results := [.lit (.bool false)], args := [d] }
  | _ => none }
def FnBatchOrderWrongFalsely : Prop := fnBatchOrderRow.holds Tryz.pinned (OpenSpec.ofChange fnBatchOrderWrong)

/-- 'laws.FnExactBatchNeed': WHATEVER THE INPUT: true; the input reads as it did. -/
def fnExactBatchNeedSpec : ChangeSpec := { name := "fnExactBatchNeed", fn := fun _ => fun
  | [d1, d2] => { results := [.lit (.bool true)], args := [d1, d2] }
  | _ => none }
def fnExactBatchNeedRow : OpenClaim := { program := "ytjjnbbkdjimcoaagreat", sum := "0ca3c38b6dffe2478c49d21041a774f4a5e5f84888ea9bac1f3410c5d90c2c51", func := "loop.example/vectorpacker/laws.FnExactBatchNeed", spec := "fnExactBatchNeed", inPlace := ["(*internal/sync.Mutex).Lock", "internal/race.Disable", "sync/atomic.CompareAndSwapInt32", "internal/race.Enable", "internal/race.Acquire", "(*internal/sync.Mutex).lockSlow", "internal/sync.runtime_canSpin", "internal/sync.runtime_doSpin", "internal/sync.throw", "internal/sync.runtime_nanotime", "internal/sync.runtime_SemacquireMutex", "sync/atomic.AddInt32", "(*internal/sync.Mutex).Unlock", "internal/race.ReleaseMerge", "(*internal/sync.Mutex).unlockSlow", "internal/sync.fatal", "internal/sync.runtime_Semrelease"], unfollowed := true, recurses := true, apart := false }
def FnExactBatchNeedSaid : Prop := fnExactBatchNeedRow.holds Tryz.pinned (OpenSpec.ofChange fnExactBatchNeedSpec)

/-- ITS FALSE NEIGHBOUR: 'it returns false'. Refute it at one input. -/
def fnExactBatchNeedWrong : ChangeSpec := { name := "fnExactBatchNeed", fn := fun _ => fun
  | [d1, d2] => { results := [.lit (.bool false)], args := [d1, d2] }
  | _ => none }
def FnExactBatchNeedWrongFalsely : Prop := fnExactBatchNeedRow.holds Tryz.pinned (OpenSpec.ofChange fnExactBatchNeedWrong)

/-- 'laws.FnBatchNeed': WHATEVER THE INPUT: true; the input reads as it did. -/
def fnBatchNeedSpec : ChangeSpec := { name := "fnBatchNeed", fn := fun _ => fun
  | [d] => { results := [.lit (.bool true)], args := [d] }
  | _ => none }
def fnBatchNeedRow : OpenClaim := { program := "ytjjnbbkdjimcoaagreat", sum := "0ca3c38b6dffe2478c49d21041a774f4a5e5f84888ea9bac1f3410c5d90c2c51", func := "loop.example/vectorpacker/laws.FnBatchNeed", spec := "fnBatchNeed", inPlace := ["(*internal/sync.Mutex).Lock", "internal/race.Disable", "sync/atomic.CompareAndSwapInt32", "internal/race.Enable", "internal/race.Acquire", "(*internal/sync.Mutex).lockSlow", "internal/sync.runtime_canSpin", "internal/sync.runtime_doSpin", "internal/sync.throw", "internal/sync.runtime_nanotime", "internal/sync.runtime_SemacquireMutex", "sync/atomic.AddInt32", "(*internal/sync.Mutex).Unlock", "internal/race.ReleaseMerge", "(*internal/sync.Mutex).unlockSlow", "internal/sync.fatal", "internal/sync.runtime_Semrelease"], unfollowed := true, recurses := true, apart := false }
def FnBatchNeedSaid : Prop := fnBatchNeedRow.holds Tryz.pinned (OpenSpec.ofChange fnBatchNeedSpec)

/-- ITS FALSE NEIGHBOUR: 'it returns false'. Refute it at one input. -/
def fnBatchNeedWrong : ChangeSpec := { name := "fnBatchNeed", fn := fun _ => fun
  | [d] => { results := [.lit (.bool false)], args := [d] }
  | _ => none }
def FnBatchNeedWrongFalsely : Prop := fnBatchNeedRow.holds Tryz.pinned (OpenSpec.ofChange fnBatchNeedWrong)

/-- 'laws.FnBatchMore': WHATEVER THE INPUT: true; the input reads as it did. -/
def fnBatchMoreSpec : ChangeSpec := { name := "fnBatchMore", fn := fun _ => fun
  | [d] => { results := [.lit (.bool true)], args := [d] }
  | _ => none }
def fnBatchMoreRow : OpenClaim := { program := "ytjjnbbkdjimcoaagreat", sum := "0ca3c38b6dffe2478c49d21041a774f4a5e5f84888ea9bac1f3410c5d90c2c51", func := "loop.example/vectorpacker/laws.FnBatchMore", spec := "fnBatchMore", inPlace := ["(*internal/sync.Mutex).Lock", "internal/race.Disable", "sync/atomic.CompareAndSwapInt32", "internal/race.Enable", "internal/race.Acquire", "(*internal/sync.Mutex).lockSlow", "internal/sync.runtime_canSpin", "internal/sync.runtime_doSpin", "internal/sync.throw", "internal/sync.runtime_nanotime", "internal/sync.runtime_SemacquireMutex", "sync/atomic.AddInt32", "(*internal/sync.Mutex).Unlock", "internal/race.ReleaseMerge", "(*internal/sync.Mutex).unlockSlow", "internal/sync.fatal", "internal/sync.runtime_Semrelease"], unfollowed := true, recurses := true, apart := false }
def FnBatchMoreSaid : Prop := fnBatchMoreRow.holds Tryz.pinned (OpenSpec.ofChange fnBatchMoreSpec)

/-- ITS FALSE NEIGHBOUR: 'it returns false'. Refute it at one input. -/
def fnBatchMoreWrong : ChangeSpec := { name := "fnBatchMore", fn := fun _ => fun
  | [d] => { results := [.lit (.bool false)], args := [d] }
  | _ => none }
def FnBatchMoreWrongFalsely : Prop := fnBatchMoreRow.holds Tryz.pinned (OpenSpec.ofChange fnBatchMoreWrong)

/-- 'laws.FnBatchGrants': WHATEVER THE INPUT: true; the input reads as it did. -/
def fnBatchGrantsSpec : ChangeSpec := { name := "fnBatchGrants", fn := fun _ => fun
  | [d] => { results := [.lit (.bool true)], args := [d] }
  | _ => none }
def fnBatchGrantsRow : OpenClaim := { program := "ytjjnbbkdjimcoaagreat", sum := "0ca3c38b6dffe2478c49d21041a774f4a5e5f84888ea9bac1f3410c5d90c2c51", func := "loop.example/vectorpacker/laws.FnBatchGrants", spec := "fnBatchGrants", inPlace := ["(*internal/sync.Mutex).Lock", "internal/race.Disable", "sync/atomic.CompareAndSwapInt32", "internal/race.Enable", "internal/race.Acquire", "(*internal/sync.Mutex).lockSlow", "internal/sync.runtime_canSpin", "internal/sync.runtime_doSpin", "internal/sync.throw", "internal/sync.runtime_nanotime", "internal/sync.runtime_SemacquireMutex", "sync/atomic.AddInt32", "(*internal/sync.Mutex).Unlock", "internal/race.ReleaseMerge", "(*internal/sync.Mutex).unlockSlow", "internal/sync.fatal", "internal/sync.runtime_Semrelease"], unfollowed := true, recurses := true, apart := false }
def FnBatchGrantsSaid : Prop := fnBatchGrantsRow.holds Tryz.pinned (OpenSpec.ofChange fnBatchGrantsSpec)

/-- ITS FALSE NEIGHBOUR: 'it returns false'. Refute it at one input. -/
def fnBatchGrantsWrong : ChangeSpec := { name := "fnBatchGrants", fn := fun _ => fun
  | [d] => { results := [.lit (.bool false)], args := [d] }
  | _ => none }
def FnBatchGrantsWrongFalsely : Prop := fnBatchGrantsRow.holds Tryz.pinned (OpenSpec.ofChange fnBatchGrantsWrong)

/-- 'laws.FnBatch': WHATEVER THE INPUT: true; the input reads as it did. -/
def fnBatchSpec : ChangeSpec := { name := "fnBatch", fn := fun _ => fun
  | [d] => { results := [.lit (.bool true)], args := [d] }
  | _ => none }
def fnBatchRow : OpenClaim := { program := "ytjjnbbkdjimcoaagreat", sum := "0ca3c38b6dffe2478c49d21041a774f4a5e5f84888ea9bac1f3410c5d90c2c51", func := "loop.example/vectorpacker/laws.FnBatch", spec := "fnBatch", inPlace := ["(*internal/sync.Mutex).Lock", "internal/race.Disable", "sync/atomic.CompareAndSwapInt32", "internal/race.Enable", "internal/race.Acquire", "(*internal/sync.Mutex).lockSlow", "internal/sync.runtime_canSpin", "internal/sync.runtime_doSpin", "internal/sync.throw", "internal/sync.runtime_nanotime", "internal/sync.runtime_SemacquireMutex", "sync/atomic.AddInt32", "(*internal/sync.Mutex).Unlock", "internal/race.ReleaseMerge", "(*internal/sync.Mutex).unlockSlow", "internal/sync.fatal", "internal/sync.runtime_Semrelease"], unfollowed := true, recurses := true, apart := false }
def FnBatchSaid : Prop := fnBatchRow.holds Tryz.pinned (OpenSpec.ofChange fnBatchSpec)

/-- ITS FALSE NEIGHBOUR: 'it returns false'. Refute it at one input. -/
def fnBatchWrong : ChangeSpec := { name := "fnBatch", fn := fun _ => fun
  | [d] => { results := [.lit (.bool false)], args := [d] }
  | _ => none }
def FnBatchWrongFalsely : Prop := fnBatchRow.holds Tryz.pinned (OpenSpec.ofChange fnBatchWrong)

/-- 'laws.FnBatchAll': WHATEVER THE INPUT: true; the input reads as it did. -/
def fnBatchAllSpec : ChangeSpec := { name := "fnBatchAll", fn := fun _ => fun
  | [d] => { results := [.lit (.bool true)], args := [d] }
  | _ => none }
def fnBatchAllRow : OpenClaim := { program := "ytjjnbbkdjimcoaagreat", sum := "0ca3c38b6dffe2478c49d21041a774f4a5e5f84888ea9bac1f3410c5d90c2c51", func := "loop.example/vectorpacker/laws.FnBatchAll", spec := "fnBatchAll", inPlace := ["(*internal/sync.Mutex).Lock", "internal/race.Disable", "sync/atomic.CompareAndSwapInt32", "internal/race.Enable", "internal/race.Acquire", "(*internal/sync.Mutex).lockSlow", "internal/sync.runtime_canSpin", "internal/sync.runtime_doSpin", "internal/sync.throw", "internal/sync.runtime_nanotime", "internal/sync.runtime_SemacquireMutex", "sync/atomic.AddInt32", "(*internal/sync.Mutex).Unlock", "internal/race.ReleaseMerge", "(*internal/sync.Mutex).unlockSlow", "internal/sync.fatal", "internal/sync.runtime_Semrelease"], unfollowed := true, recurses := true, apart := false }
def FnBatchAllSaid : Prop := fnBatchAllRow.holds Tryz.pinned (OpenSpec.ofChange fnBatchAllSpec)

/-- ITS FALSE NEIGHBOUR: 'it returns false'. Refute it at one input. -/
def fnBatchAllWrong : ChangeSpec := { name := "fnBatchAll", fn := fun _ => fun
  | [d] => { results := [.lit (.bool false)], args := [d] }
  | _ => none }
def FnBatchAllWrongFalsely : Prop := fnBatchAllRow.holds Tryz.pinned (OpenSpec.ofChange fnBatchAllWrong)

/-- 'laws.FnExactBatchDo': WHATEVER THE INPUT: true; the input reads as it did. -/
def fnExactBatchDoSpec : ChangeSpec := { name := "fnExactBatchDo", fn := fun _ => fun
  | [d1, d2, d3] => { results := [.lit (.bool true)], args := [d1, d2, d3] }
  | _ => none }
def fnExactBatchDoRow : OpenClaim := { program := "ytjjnbbkdjimcoaagreat", sum := "0ca3c38b6dffe2478c49d21041a774f4a5e5f84888ea9bac1f3410c5d90c2c51", func := "loop.example/vectorpacker/laws.FnExactBatchDo", spec := "fnExactBatchDo", inPlace := ["(*internal/sync.Mutex).Lock", "internal/race.Disable", "sync/atomic.CompareAndSwapInt32", "internal/race.Enable", "internal/race.Acquire", "(*internal/sync.Mutex).lockSlow", "internal/sync.runtime_canSpin", "internal/sync.runtime_doSpin", "internal/sync.throw", "internal/sync.runtime_nanotime", "internal/sync.runtime_SemacquireMutex", "sync/atomic.AddInt32", "(*internal/sync.Mutex).Unlock", "internal/race.ReleaseMerge", "(*internal/sync.Mutex).unlockSlow", "internal/sync.fatal", "internal/sync.runtime_Semrelease"], unfollowed := true, recurses := true, apart := false }
def FnExactBatchDoSaid : Prop := fnExactBatchDoRow.holds Tryz.pinned (OpenSpec.ofChange fnExactBatchDoSpec)

/-- ITS FALSE NEIGHBOUR: 'it returns false'. Refute it at one input. -/
def fnExactBatchDoWrong : ChangeSpec := { name := "fnExactBatchDo", fn := fun _ => fun
  | [d1, d2, d3] => { results := [.lit (.bool false)], args := [d1, d2, d3] }
  | _ => none }
def FnExactBatchDoWrongFalsely : Prop := fnExactBatchDoRow.holds Tryz.pinned (OpenSpec.ofChange fnExactBatchDoWrong)

/-- 'laws.FnExactBatchAll': WHATEVER THE INPUT: true; the input reads as it did. -/
def fnExactBatchAllSpec : ChangeSpec := { name := "fnExactBatchAll", fn := fun _ => fun
  | [d1, d2, d3] => { results := [.lit (.bool true)], args := [d1, d2, d3] }
  | _ => none }
def fnExactBatchAllRow : OpenClaim := { program := "ytjjnbbkdjimcoaagreat", sum := "0ca3c38b6dffe2478c49d21041a774f4a5e5f84888ea9bac1f3410c5d90c2c51", func := "loop.example/vectorpacker/laws.FnExactBatchAll", spec := "fnExactBatchAll", inPlace := ["(*internal/sync.Mutex).Lock", "internal/race.Disable", "sync/atomic.CompareAndSwapInt32", "internal/race.Enable", "internal/race.Acquire", "(*internal/sync.Mutex).lockSlow", "internal/sync.runtime_canSpin", "internal/sync.runtime_doSpin", "internal/sync.throw", "internal/sync.runtime_nanotime", "internal/sync.runtime_SemacquireMutex", "sync/atomic.AddInt32", "(*internal/sync.Mutex).Unlock", "internal/race.ReleaseMerge", "(*internal/sync.Mutex).unlockSlow", "internal/sync.fatal", "internal/sync.runtime_Semrelease"], unfollowed := true, recurses := true, apart := false }
def FnExactBatchAllSaid : Prop := fnExactBatchAllRow.holds Tryz.pinned (OpenSpec.ofChange fnExactBatchAllSpec)

/-- ITS FALSE NEIGHBOUR: 'it returns false'. Refute it at one input. -/
def fnExactBatchAllWrong : ChangeSpec := { name := "fnExactBatchAll", fn := fun _ => fun
  | [d1, d2, d3] => { results := [.lit (.bool false)], args := [d1, d2, d3] }
  | _ => none }
def FnExactBatchAllWrongFalsely : Prop := fnExactBatchAllRow.holds Tryz.pinned (OpenSpec.ofChange fnExactBatchAllWrong)

/- THE SECOND FORM. 'bulk': how many values and letters a reading holds, each counted each time it is reached (what is shared counts as often as it is met; a slice's spare places count too). A statement '..UptoSaid' is the law's where the arguments, and the package variables that the reading takes, are together of bulk at most 1048576: NARROWER than '..Said'. Prove '..Said' where nothing that the law and all that it calls make is longer than what came in: it says more and counts as full. Else prove '..UptoSaid'. A law counts once. -/
mutual
def uptoBulk {H : Type} : DataW H → Nat
  | .lit (.string bytes) => bytes.length + 1
  | .lit _ => 1
  | .nil => 1
  | .ptr d => uptoBulk d + 1
  | .slice elems spare => uptoBulkAll elems + uptoBulkAll spare + 1
  | .agg parts => uptoBulkAll parts + 1
  | .iface _ d => uptoBulk d + 1
  | .map entries => uptoBulkEntries entries + 1
  | .held _ => 1
def uptoBulkAll {H : Type} : List (DataW H) → Nat
  | [] => 0
  | d :: r => uptoBulk d + uptoBulkAll r
def uptoBulkEntries {H : Type} : List (Lit × DataW H) → Nat
  | [] => 0
  | x :: r => uptoBulkEntry x + uptoBulkEntries r
def uptoBulkEntry {H : Type} : Lit × DataW H → Nat
  | (.string bytes, d) => bytes.length + uptoBulk d + 1
  | (_, d) => uptoBulk d + 1
 end
def uptoSmall : (H : Type) → List (DataW H) → Bool := fun _ ds => decide (uptoBulkAll ds ≤ 1048576)
def OpenSpec.upto (s : _root_.Go.ChangeSpec) : _root_.Go.OpenSpec := { _root_.Go.OpenSpec.ofChange s with cond := some uptoSmall }

/-- 'laws.FnBatchNeedNone', WHERE WHAT IT READS IS OF BULK AT MOST 1048576: true; the input reads as it did. -/
def fnBatchNeedNoneUptoRow : OpenClaim := { program := "ytjjnbbkdjimcoaagreat", sum := "0ca3c38b6dffe2478c49d21041a774f4a5e5f84888ea9bac1f3410c5d90c2c51", func := "loop.example/vectorpacker/laws.FnBatchNeedNone", spec := "fnBatchNeedNone", inPlace := ["(*internal/sync.Mutex).Lock", "internal/race.Disable", "sync/atomic.CompareAndSwapInt32", "internal/race.Enable", "internal/race.Acquire", "(*internal/sync.Mutex).lockSlow", "internal/sync.runtime_canSpin", "internal/sync.runtime_doSpin", "internal/sync.throw", "internal/sync.runtime_nanotime", "internal/sync.runtime_SemacquireMutex", "sync/atomic.AddInt32", "(*internal/sync.Mutex).Unlock", "internal/race.ReleaseMerge", "(*internal/sync.Mutex).unlockSlow", "internal/sync.fatal", "internal/sync.runtime_Semrelease"], unfollowed := true, recurses := true, apart := false, narrowed := true }
def FnBatchNeedNoneUptoSaid : Prop := fnBatchNeedNoneUptoRow.holds Tryz.pinned (OpenSpec.upto fnBatchNeedNoneSpec)

/-- 'laws.FnBatchOne', WHERE WHAT IT READS IS OF BULK AT MOST 1048576: true; the input reads as it did. -/
def fnBatchOneUptoRow : OpenClaim := { program := "ytjjnbbkdjimcoaagreat", sum := "0ca3c38b6dffe2478c49d21041a774f4a5e5f84888ea9bac1f3410c5d90c2c51", func := "loop.example/vectorpacker/laws.FnBatchOne", spec := "fnBatchOne", inPlace := ["(*internal/sync.Mutex).Lock", "internal/race.Disable", "sync/atomic.CompareAndSwapInt32", "internal/race.Enable", "internal/race.Acquire", "(*internal/sync.Mutex).lockSlow", "internal/sync.runtime_canSpin", "internal/sync.runtime_doSpin", "internal/sync.throw", "internal/sync.runtime_nanotime", "internal/sync.runtime_SemacquireMutex", "sync/atomic.AddInt32", "(*internal/sync.Mutex).Unlock", "internal/race.ReleaseMerge", "(*internal/sync.Mutex).unlockSlow", "internal/sync.fatal", "internal/sync.runtime_Semrelease"], unfollowed := true, recurses := true, apart := false, narrowed := true }
def FnBatchOneUptoSaid : Prop := fnBatchOneUptoRow.holds Tryz.pinned (OpenSpec.upto fnBatchOneSpec)

/-- 'laws.FnBatchOrder', WHERE WHAT IT READS IS OF BULK AT MOST 1048576: true; the input reads as it did. -/
def fnBatchOrderUptoRow : OpenClaim := { program := "ytjjnbbkdjimcoaagreat", sum := "0ca3c38b6dffe2478c49d21041a774f4a5e5f84888ea9bac1f3410c5d90c2c51", func := "loop.example/vectorpacker/laws.FnBatchOrder", spec := "fnBatchOrder", inPlace := ["(*internal/sync.Mutex).Lock", "internal/race.Disable", "sync/atomic.CompareAndSwapInt32", "internal/race.Enable", "internal/race.Acquire", "(*internal/sync.Mutex).lockSlow", "internal/sync.runtime_canSpin", "internal/sync.runtime_doSpin", "internal/sync.throw", "internal/sync.runtime_nanotime", "internal/sync.runtime_SemacquireMutex", "sync/atomic.AddInt32", "(*internal/sync.Mutex).Unlock", "internal/race.ReleaseMerge", "(*internal/sync.Mutex).unlockSlow", "internal/sync.fatal", "internal/sync.runtime_Semrelease"], unfollowed := true, recurses := true, apart := false, narrowed := true }
def FnBatchOrderUptoSaid : Prop := fnBatchOrderUptoRow.holds Tryz.pinned (OpenSpec.upto fnBatchOrderSpec)

/-- 'laws.FnExactBatchNeed', WHERE WHAT IT READS IS OF BULK AT MOST 1048576: true; the input reads as it did. -/
def fnExactBatchNeedUptoRow : OpenClaim := { program := "ytjjnbbkdjimcoaagreat", sum := "0ca3c38b6dffe2478c49d21041a774f4a5e5f84888ea9bac1f3410c5d90c2c51", func := "loop.example/vectorpacker/laws.FnExactBatchNeed", spec := "fnExactBatchNeed", inPlace := ["(*internal/sync.Mutex).Lock", "internal/race.Disable", "sync/atomic.CompareAndSwapInt32", "internal/race.Enable", "internal/race.Acquire", "(*internal/sync.Mutex).lockSlow", "internal/sync.runtime_canSpin", "internal/sync.runtime_doSpin", "internal/sync.throw", "internal/sync.runtime_nanotime", "internal/sync.runtime_SemacquireMutex", "sync/atomic.AddInt32", "(*internal/sync.Mutex).Unlock", "internal/race.ReleaseMerge", "(*internal/sync.Mutex).unlockSlow", "internal/sync.fatal", "internal/sync.runtime_Semrelease"], unfollowed := true, recurses := true, apart := false, narrowed := true }
def FnExactBatchNeedUptoSaid : Prop := fnExactBatchNeedUptoRow.holds Tryz.pinned (OpenSpec.upto fnExactBatchNeedSpec)

/-- 'laws.FnBatchNeed', WHERE WHAT IT READS IS OF BULK AT MOST 1048576: true; the input reads as it did. -/
def fnBatchNeedUptoRow : OpenClaim := { program := "ytjjnbbkdjimcoaagreat", sum := "0ca3c38b6dffe2478c49d21041a774f4a5e5f84888ea9bac1f3410c5d90c2c51", func := "loop.example/vectorpacker/laws.FnBatchNeed", spec := "fnBatchNeed", inPlace := ["(*internal/sync.Mutex).Lock", "internal/race.Disable", "sync/atomic.CompareAndSwapInt32", "internal/race.Enable", "internal/race.Acquire", "(*internal/sync.Mutex).lockSlow", "internal/sync.runtime_canSpin", "internal/sync.runtime_doSpin", "internal/sync.throw", "internal/sync.runtime_nanotime", "internal/sync.runtime_SemacquireMutex", "sync/atomic.AddInt32", "(*internal/sync.Mutex).Unlock", "internal/race.ReleaseMerge", "(*internal/sync.Mutex).unlockSlow", "internal/sync.fatal", "internal/sync.runtime_Semrelease"], unfollowed := true, recurses := true, apart := false, narrowed := true }
def FnBatchNeedUptoSaid : Prop := fnBatchNeedUptoRow.holds Tryz.pinned (OpenSpec.upto fnBatchNeedSpec)

/-- 'laws.FnBatchMore', WHERE WHAT IT READS IS OF BULK AT MOST 1048576: true; the input reads as it did. -/
def fnBatchMoreUptoRow : OpenClaim := { program := "ytjjnbbkdjimcoaagreat", sum := "0ca3c38b6dffe2478c49d21041a774f4a5e5f84888ea9bac1f3410c5d90c2c51", func := "loop.example/vectorpacker/laws.FnBatchMore", spec := "fnBatchMore", inPlace := ["(*internal/sync.Mutex).Lock", "internal/race.Disable", "sync/atomic.CompareAndSwapInt32", "internal/race.Enable", "internal/race.Acquire", "(*internal/sync.Mutex).lockSlow", "internal/sync.runtime_canSpin", "internal/sync.runtime_doSpin", "internal/sync.throw", "internal/sync.runtime_nanotime", "internal/sync.runtime_SemacquireMutex", "sync/atomic.AddInt32", "(*internal/sync.Mutex).Unlock", "internal/race.ReleaseMerge", "(*internal/sync.Mutex).unlockSlow", "internal/sync.fatal", "internal/sync.runtime_Semrelease"], unfollowed := true, recurses := true, apart := false, narrowed := true }
def FnBatchMoreUptoSaid : Prop := fnBatchMoreUptoRow.holds Tryz.pinned (OpenSpec.upto fnBatchMoreSpec)

/-- 'laws.FnBatchGrants', WHERE WHAT IT READS IS OF BULK AT MOST 1048576: true; the input reads as it did. -/
def fnBatchGrantsUptoRow : OpenClaim := { program := "ytjjnbbkdjimcoaagreat", sum := "0ca3c38b6dffe2478c49d21041a774f4a5e5f84888ea9bac1f3410c5d90c2c51", func := "loop.example/vectorpacker/laws.FnBatchGrants", spec := "fnBatchGrants", inPlace := ["(*internal/sync.Mutex).Lock", "internal/race.Disable", "sync/atomic.CompareAndSwapInt32", "internal/race.Enable", "internal/race.Acquire", "(*internal/sync.Mutex).lockSlow", "internal/sync.runtime_canSpin", "internal/sync.runtime_doSpin", "internal/sync.throw", "internal/sync.runtime_nanotime", "internal/sync.runtime_SemacquireMutex", "sync/atomic.AddInt32", "(*internal/sync.Mutex).Unlock", "internal/race.ReleaseMerge", "(*internal/sync.Mutex).unlockSlow", "internal/sync.fatal", "internal/sync.runtime_Semrelease"], unfollowed := true, recurses := true, apart := false, narrowed := true }
def FnBatchGrantsUptoSaid : Prop := fnBatchGrantsUptoRow.holds Tryz.pinned (OpenSpec.upto fnBatchGrantsSpec)

/-- 'laws.FnBatch', WHERE WHAT IT READS IS OF BULK AT MOST 1048576: true; the input reads as it did. -/
def fnBatchUptoRow : OpenClaim := { program := "ytjjnbbkdjimcoaagreat", sum := "0ca3c38b6dffe2478c49d21041a774f4a5e5f84888ea9bac1f3410c5d90c2c51", func := "loop.example/vectorpacker/laws.FnBatch", spec := "fnBatch", inPlace := ["(*internal/sync.Mutex).Lock", "internal/race.Disable", "sync/atomic.CompareAndSwapInt32", "internal/race.Enable", "internal/race.Acquire", "(*internal/sync.Mutex).lockSlow", "internal/sync.runtime_canSpin", "internal/sync.runtime_doSpin", "internal/sync.throw", "internal/sync.runtime_nanotime", "internal/sync.runtime_SemacquireMutex", "sync/atomic.AddInt32", "(*internal/sync.Mutex).Unlock", "internal/race.ReleaseMerge", "(*internal/sync.Mutex).unlockSlow", "internal/sync.fatal", "internal/sync.runtime_Semrelease"], unfollowed := true, recurses := true, apart := false, narrowed := true }
def FnBatchUptoSaid : Prop := fnBatchUptoRow.holds Tryz.pinned (OpenSpec.upto fnBatchSpec)

/-- 'laws.FnBatchAll', WHERE WHAT IT READS IS OF BULK AT MOST 1048576: true; the input reads as it did. -/
def fnBatchAllUptoRow : OpenClaim := { program := "ytjjnbbkdjimcoaagreat", sum := "0ca3c38b6dffe2478c49d21041a774f4a5e5f84888ea9bac1f3410c5d90c2c51", func := "loop.example/vectorpacker/laws.FnBatchAll", spec := "fnBatchAll", inPlace := ["(*internal/sync.Mutex).Lock", "internal/race.Disable", "sync/atomic.CompareAndSwapInt32", "internal/race.Enable", "internal/race.Acquire", "(*internal/sync.Mutex).lockSlow", "internal/sync.runtime_canSpin", "internal/sync.runtime_doSpin", "internal/sync.throw", "internal/sync.runtime_nanotime", "internal/sync.runtime_SemacquireMutex", "sync/atomic.AddInt32", "(*internal/sync.Mutex).Unlock", "internal/race.ReleaseMerge", "(*internal/sync.Mutex).unlockSlow", "internal/sync.fatal", "internal/sync.runtime_Semrelease"], unfollowed := true, recurses := true, apart := false, narrowed := true }
def FnBatchAllUptoSaid : Prop := fnBatchAllUptoRow.holds Tryz.pinned (OpenSpec.upto fnBatchAllSpec)

/-- 'laws.FnExactBatchDo', WHERE WHAT IT READS IS OF BULK AT MOST 1048576: true; the input reads as it did. -/
def fnExactBatchDoUptoRow : OpenClaim := { program := "ytjjnbbkdjimcoaagreat", sum := "0ca3c38b6dffe2478c49d21041a774f4a5e5f84888ea9bac1f3410c5d90c2c51", func := "loop.example/vectorpacker/laws.FnExactBatchDo", spec := "fnExactBatchDo", inPlace := ["(*internal/sync.Mutex).Lock", "internal/race.Disable", "sync/atomic.CompareAndSwapInt32", "internal/race.Enable", "internal/race.Acquire", "(*internal/sync.Mutex).lockSlow", "internal/sync.runtime_canSpin", "internal/sync.runtime_doSpin", "internal/sync.throw", "internal/sync.runtime_nanotime", "internal/sync.runtime_SemacquireMutex", "sync/atomic.AddInt32", "(*internal/sync.Mutex).Unlock", "internal/race.ReleaseMerge", "(*internal/sync.Mutex).unlockSlow", "internal/sync.fatal", "internal/sync.runtime_Semrelease"], unfollowed := true, recurses := true, apart := false, narrowed := true }
def FnExactBatchDoUptoSaid : Prop := fnExactBatchDoUptoRow.holds Tryz.pinned (OpenSpec.upto fnExactBatchDoSpec)

/-- 'laws.FnExactBatchAll', WHERE WHAT IT READS IS OF BULK AT MOST 1048576: true; the input reads as it did. -/
def fnExactBatchAllUptoRow : OpenClaim := { program := "ytjjnbbkdjimcoaagreat", sum := "0ca3c38b6dffe2478c49d21041a774f4a5e5f84888ea9bac1f3410c5d90c2c51", func := "loop.example/vectorpacker/laws.FnExactBatchAll", spec := "fnExactBatchAll", inPlace := ["(*internal/sync.Mutex).Lock", "internal/race.Disable", "sync/atomic.CompareAndSwapInt32", "internal/race.Enable", "internal/race.Acquire", "(*internal/sync.Mutex).lockSlow", "internal/sync.runtime_canSpin", "internal/sync.runtime_doSpin", "internal/sync.throw", "internal/sync.runtime_nanotime", "internal/sync.runtime_SemacquireMutex", "sync/atomic.AddInt32", "(*internal/sync.Mutex).Unlock", "internal/race.ReleaseMerge", "(*internal/sync.Mutex).unlockSlow", "internal/sync.fatal", "internal/sync.runtime_Semrelease"], unfollowed := true, recurses := true, apart := false, narrowed := true }
def FnExactBatchAllUptoSaid : Prop := fnExactBatchAllUptoRow.holds Tryz.pinned (OpenSpec.upto fnExactBatchAllSpec)

end Rows
end Go.Proofs.YtjjnbbkdjimcoaaGreat
