/-
  NARROWER THAN 'FOR EVERY INPUT', by the rows' own cells (each row's printed sentence says how): FnGatherNone: ifaces, laid · FnFrom: laid · FnRequest: ifaces, laid · FnRequestBad: ifaces, laid · FnRequestKinds: ifaces, laid · FnGather: ifaces, laid · FnPlay: ifaces, laid · FnPlayOne: ifaces, laid · FnPlayRefused: ifaces, laid · FnPlayTasks: ifaces, laid · FnExactRequestDo: ifaces, laid · FnExactRequestsPlay: ifaces, laid.
  DERIVED. THE GIVEN ROWS OF THIS SEAT. 12 by the template 'for every input the law returns true; each argument reads behind the call as it read before'; 0 by the template 'total and deterministic' (their statements: YtlegpecjoaklnaaGreatDoorTotals.lean).
  GIVEN WITH THE SEED: the statements are not yours to turn. If you find one false, say at which input.
  Laid BY PROGRAM, IN A SANDBOX (cutbox-rows.mjs): the forced cells as the released guide's own fill.sh prints them over the translation ce39e7c91c43173f… (all of the seat's roots in one cut). By AI agents, Wed Nov 11 2026. No macro, syntax, notation, axiom, sorry.
-/
import Derived.Test.YtlegpecjoaklnaaGreatDoorChecked
import GoSem.Claim
import GoSem.ClaimJoined
import GoSem.ClaimMapViews
import Derived.JoinedTies
import Derived.KernelRfl
namespace Go.Proofs.YtlegpecjoaklnaaGreatDoor
/- THE CELL 'sum', in the pinned program and in every row, IS THE sha256 OF THE DUMP (.gsa) THAT YtlegpecjoaklnaaGreatDoorProg.lean LOADS. Nothing in Lean hashes anything: it is a label: what it is worth is what the hold of that sum in a sandbox is worth. -/
noncomputable def Tryz.pinned : Pinned := { name := "ytlegpecjoaklnaagreatdoor", sum := "ce39e7c91c43173f6db1cb46f1bb39bc374a32b56c07a48eabfc99fb8260eb41", checked := Tryz.checked }
namespace Rows
def none {H : Type} : Left H := { results := [], args := [] }

/- WHAT THE LISTED PACKAGE-LEVEL VARIABLES READ AS WHEN THE CALL BEGINS. Each datum BY PROGRAM (the guide's laid-datum.mjs) off the statement by which the dump's own 'gosem.cut.vars' lays the variable. In a bare row this is a premise. The card (YtlegpecjoaklnaaGreatDoorCards.lean) ties it to the program's text. -/
def laid_loop_example_vectorpacker_impl_errMove {H : Type} : DataW H := .iface "*errors.errorString" (.ptr (.agg [.lit (.string [110, 111, 32, 109, 111, 118, 101])]))
def laid_errors_errorType {H : Type} : DataW H := .iface "internal/reflectlite.rtype" (.agg [.ptr (.lit (.string [101, 114, 114, 111, 114]))])

/-- 'laws.FnGatherNone': WHATEVER THE INPUT: true; the input reads as it did. -/
def fnGatherNoneSpec : ChangeSpec := { name := "fnGatherNone", vars := ["loop.example/vectorpacker/impl.errMove"], fn := fun _ => fun
  | [d, g1] => { results := [.lit (.bool true)], args := [d], vars := [g1] }
  | _ => none }
def fnGatherNoneRow : OpenClaim := { program := "ytlegpecjoaklnaagreatdoor", sum := "ce39e7c91c43173f6db1cb46f1bb39bc374a32b56c07a48eabfc99fb8260eb41", func := "loop.example/vectorpacker/laws.FnGatherNone", spec := "fnGatherNone", inPlace := ["(*internal/sync.Mutex).Lock", "internal/race.Disable", "sync/atomic.CompareAndSwapInt32", "internal/race.Enable", "internal/race.Acquire", "(*internal/sync.Mutex).lockSlow", "internal/sync.runtime_canSpin", "internal/sync.runtime_doSpin", "internal/sync.throw", "internal/sync.runtime_nanotime", "internal/sync.runtime_SemacquireMutex", "sync/atomic.AddInt32", "(*internal/sync.Mutex).Unlock", "internal/race.ReleaseMerge", "(*internal/sync.Mutex).unlockSlow", "internal/sync.fatal", "internal/sync.runtime_Semrelease"], unfollowed := true, recurses := true, named := ["loop.example/vectorpacker/impl.errMove"], ifaces := true, apart := false, laid := [("loop.example/vectorpacker/impl.errMove", laid_loop_example_vectorpacker_impl_errMove)] }
def FnGatherNoneSaid : Prop := fnGatherNoneRow.holds Tryz.pinned (OpenSpec.ofChange fnGatherNoneSpec)

/-- ITS FALSE NEIGHBOUR: 'it returns false'. Refute it at one input. -/
def fnGatherNoneWrong : ChangeSpec := { name := "fnGatherNone", vars := ["loop.example/vectorpacker/impl.errMove"], fn := fun _ => fun
  | [d, g1] => { results := [.lit (.bool false)], args := [d], vars := [g1] }
  | _ => none }
def FnGatherNoneWrongFalsely : Prop := fnGatherNoneRow.holds Tryz.pinned (OpenSpec.ofChange fnGatherNoneWrong)

/-- 'laws.FnFrom': WHATEVER THE INPUT: true; the input reads as it did. -/
def fnFromSpec : ChangeSpec := { name := "fnFrom", fn := fun _ => fun
  | [d] => { results := [.lit (.bool true)], args := [d] }
  | _ => none }
def fnFromRow : OpenClaim := { program := "ytlegpecjoaklnaagreatdoor", sum := "ce39e7c91c43173f6db1cb46f1bb39bc374a32b56c07a48eabfc99fb8260eb41", func := "loop.example/vectorpacker/laws.FnFrom", spec := "fnFrom", inPlace := ["internal/reflectlite.ValueOf", "(internal/reflectlite.Value).Type", "(internal/reflectlite.Value).IsNil", "internal/reflectlite.TypeOf", "(internal/reflectlite.Value).Elem", "(internal/reflectlite.Value).Set"], unfollowed := true, recurses := true, named := ["errors.errorType"], apart := false, laid := [("errors.errorType", laid_errors_errorType)] }
def FnFromSaid : Prop := fnFromRow.holds Tryz.pinned (OpenSpec.ofChange fnFromSpec)

/-- ITS FALSE NEIGHBOUR: 'it returns false'. Refute it at one input. -/
def fnFromWrong : ChangeSpec := { name := "fnFrom", fn := fun _ => fun
  | [d] => { results := [.lit (.bool false)], args := [d] }
  | _ => none }
def FnFromWrongFalsely : Prop := fnFromRow.holds Tryz.pinned (OpenSpec.ofChange fnFromWrong)

/-- 'laws.FnRequest': WHATEVER THE INPUT: true; the input reads as it did. -/
def fnRequestSpec : ChangeSpec := { name := "fnRequest", vars := ["loop.example/vectorpacker/impl.errMove"], fn := fun _ => fun
  | [d, g1] => { results := [.lit (.bool true)], args := [d], vars := [g1] }
  | _ => none }
def fnRequestRow : OpenClaim := { program := "ytlegpecjoaklnaagreatdoor", sum := "ce39e7c91c43173f6db1cb46f1bb39bc374a32b56c07a48eabfc99fb8260eb41", func := "loop.example/vectorpacker/laws.FnRequest", spec := "fnRequest", inPlace := ["(*internal/sync.Mutex).Lock", "internal/race.Disable", "sync/atomic.CompareAndSwapInt32", "internal/race.Enable", "internal/race.Acquire", "(*internal/sync.Mutex).lockSlow", "internal/sync.runtime_canSpin", "internal/sync.runtime_doSpin", "internal/sync.throw", "internal/sync.runtime_nanotime", "internal/sync.runtime_SemacquireMutex", "sync/atomic.AddInt32", "(*internal/sync.Mutex).Unlock", "internal/race.ReleaseMerge", "(*internal/sync.Mutex).unlockSlow", "internal/sync.fatal", "internal/sync.runtime_Semrelease"], unfollowed := true, recurses := true, named := ["loop.example/vectorpacker/impl.errMove"], ifaces := true, apart := false, laid := [("loop.example/vectorpacker/impl.errMove", laid_loop_example_vectorpacker_impl_errMove)] }
def FnRequestSaid : Prop := fnRequestRow.holds Tryz.pinned (OpenSpec.ofChange fnRequestSpec)

/-- ITS FALSE NEIGHBOUR: 'it returns false'. Refute it at one input. -/
def fnRequestWrong : ChangeSpec := { name := "fnRequest", vars := ["loop.example/vectorpacker/impl.errMove"], fn := fun _ => fun
  | [d, g1] => { results := [.lit (.bool false)], args := [d], vars := [g1] }
  | _ => none }
def FnRequestWrongFalsely : Prop := fnRequestRow.holds Tryz.pinned (OpenSpec.ofChange fnRequestWrong)

/-- 'laws.FnRequestBad': WHATEVER THE INPUT: true; the input reads as it did. -/
def fnRequestBadSpec : ChangeSpec := { name := "fnRequestBad", vars := ["loop.example/vectorpacker/impl.errMove"], fn := fun _ => fun
  | [d, g1] => { results := [.lit (.bool true)], args := [d], vars := [g1] }
  | _ => none }
def fnRequestBadRow : OpenClaim := { program := "ytlegpecjoaklnaagreatdoor", sum := "ce39e7c91c43173f6db1cb46f1bb39bc374a32b56c07a48eabfc99fb8260eb41", func := "loop.example/vectorpacker/laws.FnRequestBad", spec := "fnRequestBad", inPlace := ["(*internal/sync.Mutex).Lock", "internal/race.Disable", "sync/atomic.CompareAndSwapInt32", "internal/race.Enable", "internal/race.Acquire", "(*internal/sync.Mutex).lockSlow", "internal/sync.runtime_canSpin", "internal/sync.runtime_doSpin", "internal/sync.throw", "internal/sync.runtime_nanotime", "internal/sync.runtime_SemacquireMutex", "sync/atomic.AddInt32", "(*internal/sync.Mutex).Unlock", "internal/race.ReleaseMerge", "(*internal/sync.Mutex).unlockSlow", "internal/sync.fatal", "internal/sync.runtime_Semrelease"], unfollowed := true, recurses := true, named := ["loop.example/vectorpacker/impl.errMove"], ifaces := true, apart := false, laid := [("loop.example/vectorpacker/impl.errMove", laid_loop_example_vectorpacker_impl_errMove)] }
def FnRequestBadSaid : Prop := fnRequestBadRow.holds Tryz.pinned (OpenSpec.ofChange fnRequestBadSpec)

/-- ITS FALSE NEIGHBOUR: 'it returns false'. Refute it at one input. -/
def fnRequestBadWrong : ChangeSpec := { name := "fnRequestBad", vars := ["loop.example/vectorpacker/impl.errMove"], fn := fun _ => fun
  | [d, g1] => { results := [.lit (.bool false)], args := [d], vars := [g1] }
  | _ => none }
def FnRequestBadWrongFalsely : Prop := fnRequestBadRow.holds Tryz.pinned (OpenSpec.ofChange fnRequestBadWrong)

/-- 'laws.FnRequestKinds': WHATEVER THE INPUT: true; the input reads as it did. -/
def fnRequestKindsSpec : ChangeSpec := { name := "fnRequestKinds", vars := ["loop.example/vectorpacker/impl.errMove"], fn := fun _ => fun
  | [d, g1] => { results := [.lit (.bool true)], args := [d], vars := [g1] }
  | _ => none }
def fnRequestKindsRow : OpenClaim := { program := "ytlegpecjoaklnaagreatdoor", sum := "ce39e7c91c43173f6db1cb46f1bb39bc374a32b56c07a48eabfc99fb8260eb41", func := "loop.example/vectorpacker/laws.FnRequestKinds", spec := "fnRequestKinds", inPlace := ["(*internal/sync.Mutex).Lock", "internal/race.Disable", "sync/atomic.CompareAndSwapInt32", "internal/race.Enable", "internal/race.Acquire", "(*internal/sync.Mutex).lockSlow", "internal/sync.runtime_canSpin", "internal/sync.runtime_doSpin", "internal/sync.throw", "internal/sync.runtime_nanotime", "internal/sync.runtime_SemacquireMutex", "sync/atomic.AddInt32", "(*internal/sync.Mutex).Unlock", "internal/race.ReleaseMerge", "(*internal/sync.Mutex).unlockSlow", "internal/sync.fatal", "internal/sync.runtime_Semrelease"], unfollowed := true, recurses := true, named := ["loop.example/vectorpacker/impl.errMove"], ifaces := true, apart := false, laid := [("loop.example/vectorpacker/impl.errMove", laid_loop_example_vectorpacker_impl_errMove)] }
def FnRequestKindsSaid : Prop := fnRequestKindsRow.holds Tryz.pinned (OpenSpec.ofChange fnRequestKindsSpec)

/-- ITS FALSE NEIGHBOUR: 'it returns false'. Refute it at one input. -/
def fnRequestKindsWrong : ChangeSpec := { name := "fnRequestKinds", vars := ["loop.example/vectorpacker/impl.errMove"], fn := fun _ => fun
  | [d, g1] => { results := [.lit (.bool false)], args := [d], vars := [g1] }
  | _ => none }
def FnRequestKindsWrongFalsely : Prop := fnRequestKindsRow.holds Tryz.pinned (OpenSpec.ofChange fnRequestKindsWrong)

/-- 'laws.FnGather': WHATEVER THE INPUT: true; the input reads as it did. -/
def fnGatherSpec : ChangeSpec := { name := "fnGather", vars := ["loop.example/vectorpacker/impl.errMove"], fn := fun _ => fun
  | [d, g1] => { results := [.lit (.bool true)], args := [d], vars := [g1] }
  | _ => none }
def fnGatherRow : OpenClaim := { program := "ytlegpecjoaklnaagreatdoor", sum := "ce39e7c91c43173f6db1cb46f1bb39bc374a32b56c07a48eabfc99fb8260eb41", func := "loop.example/vectorpacker/laws.FnGather", spec := "fnGather", inPlace := ["(*internal/sync.Mutex).Lock", "internal/race.Disable", "sync/atomic.CompareAndSwapInt32", "internal/race.Enable", "internal/race.Acquire", "(*internal/sync.Mutex).lockSlow", "internal/sync.runtime_canSpin", "internal/sync.runtime_doSpin", "internal/sync.throw", "internal/sync.runtime_nanotime", "internal/sync.runtime_SemacquireMutex", "sync/atomic.AddInt32", "(*internal/sync.Mutex).Unlock", "internal/race.ReleaseMerge", "(*internal/sync.Mutex).unlockSlow", "internal/sync.fatal", "internal/sync.runtime_Semrelease"], unfollowed := true, recurses := true, named := ["loop.example/vectorpacker/impl.errMove"], ifaces := true, apart := false, laid := [("loop.example/vectorpacker/impl.errMove", laid_loop_example_vectorpacker_impl_errMove)] }
def FnGatherSaid : Prop := fnGatherRow.holds Tryz.pinned (OpenSpec.ofChange fnGatherSpec)

/-- ITS FALSE NEIGHBOUR: 'it returns false'. Refute it at one input. -/
def fnGatherWrong : ChangeSpec := { name := "fnGather", vars := ["loop.example/vectorpacker/impl.errMove"], fn := fun _ => fun
  | [d, g1] => { results := [.lit (.bool false)], args := [d], vars := [g1] }
  | _ => none }
def FnGatherWrongFalsely : Prop := fnGatherRow.holds Tryz.pinned (OpenSpec.ofChange fnGatherWrong)

/-- 'laws.FnPlay': WHATEVER THE INPUT: true; the input reads as it did. -/
def fnPlaySpec : ChangeSpec := { name := "fnPlay", vars := ["loop.example/vectorpacker/impl.errMove"], fn := fun _ => fun
  | [d1, d2, g1] => { results := [.lit (.bool true)], args := [d1, d2], vars := [g1] }
  | _ => none }
def fnPlayRow : OpenClaim := { program := "ytlegpecjoaklnaagreatdoor", sum := "ce39e7c91c43173f6db1cb46f1bb39bc374a32b56c07a48eabfc99fb8260eb41", func := "loop.example/vectorpacker/laws.FnPlay", spec := "fnPlay", inPlace := ["(*internal/sync.Mutex).Lock", "internal/race.Disable", "sync/atomic.CompareAndSwapInt32", "internal/race.Enable", "internal/race.Acquire", "(*internal/sync.Mutex).lockSlow", "internal/sync.runtime_canSpin", "internal/sync.runtime_doSpin", "internal/sync.throw", "internal/sync.runtime_nanotime", "internal/sync.runtime_SemacquireMutex", "sync/atomic.AddInt32", "(*internal/sync.Mutex).Unlock", "internal/race.ReleaseMerge", "(*internal/sync.Mutex).unlockSlow", "internal/sync.fatal", "internal/sync.runtime_Semrelease"], unfollowed := true, recurses := true, named := ["loop.example/vectorpacker/impl.errMove"], ifaces := true, apart := false, laid := [("loop.example/vectorpacker/impl.errMove", laid_loop_example_vectorpacker_impl_errMove)] }
def FnPlaySaid : Prop := fnPlayRow.holds Tryz.pinned (OpenSpec.ofChange fnPlaySpec)

/-- ITS FALSE NEIGHBOUR: 'it returns false'. Refute it at one input. -/
def fnPlayWrong : ChangeSpec := { name := "fnPlay", vars := ["loop.example/vectorpacker/impl.errMove"], fn := fun _ => fun
  | [d1, d2, g1] => { results := [.lit (.bool false)], args := [d1, d2], vars := [g1] }
  | _ => none }
def FnPlayWrongFalsely : Prop := fnPlayRow.holds Tryz.pinned (OpenSpec.ofChange fnPlayWrong)

/-- 'laws.FnPlayOne': WHATEVER THE INPUT: true; the input reads as it did. -/
def fnPlayOneSpec : ChangeSpec := { name := "fnPlayOne", vars := ["loop.example/vectorpacker/impl.errMove"], fn := fun _ => fun
  | [d, g1] => { results := [.lit (.bool true)], args := [d], vars := [g1] }
  | _ => none }
def fnPlayOneRow : OpenClaim := { program := "ytlegpecjoaklnaagreatdoor", sum := "ce39e7c91c43173f6db1cb46f1bb39bc374a32b56c07a48eabfc99fb8260eb41", func := "loop.example/vectorpacker/laws.FnPlayOne", spec := "fnPlayOne", inPlace := ["(*internal/sync.Mutex).Lock", "internal/race.Disable", "sync/atomic.CompareAndSwapInt32", "internal/race.Enable", "internal/race.Acquire", "(*internal/sync.Mutex).lockSlow", "internal/sync.runtime_canSpin", "internal/sync.runtime_doSpin", "internal/sync.throw", "internal/sync.runtime_nanotime", "internal/sync.runtime_SemacquireMutex", "sync/atomic.AddInt32", "(*internal/sync.Mutex).Unlock", "internal/race.ReleaseMerge", "(*internal/sync.Mutex).unlockSlow", "internal/sync.fatal", "internal/sync.runtime_Semrelease"], unfollowed := true, recurses := true, named := ["loop.example/vectorpacker/impl.errMove"], ifaces := true, apart := false, laid := [("loop.example/vectorpacker/impl.errMove", laid_loop_example_vectorpacker_impl_errMove)] }
def FnPlayOneSaid : Prop := fnPlayOneRow.holds Tryz.pinned (OpenSpec.ofChange fnPlayOneSpec)

/-- ITS FALSE NEIGHBOUR: 'it returns false'. Refute it at one input. -/
def fnPlayOneWrong : ChangeSpec := { name := "fnPlayOne", vars := ["loop.example/vectorpacker/impl.errMove"], fn := fun _ => fun
  | [d, g1] => { results := [.lit (.bool false)], args := [d], vars := [g1] }
  | _ => none }
def FnPlayOneWrongFalsely : Prop := fnPlayOneRow.holds Tryz.pinned (OpenSpec.ofChange fnPlayOneWrong)

/-- 'laws.FnPlayRefused': WHATEVER THE INPUT: true; the input reads as it did. -/
def fnPlayRefusedSpec : ChangeSpec := { name := "fnPlayRefused", vars := ["loop.example/vectorpacker/impl.errMove"], fn := fun _ => fun
  | [d, g1] => { results := [.lit (.bool true)], args := [d], vars := [g1] }
  | _ => none }
def fnPlayRefusedRow : OpenClaim := { program := "ytlegpecjoaklnaagreatdoor", sum := "ce39e7c91c43173f6db1cb46f1bb39bc374a32b56c07a48eabfc99fb8260eb41", func := "loop.example/vectorpacker/laws.FnPlayRefused", spec := "fnPlayRefused", inPlace := ["(*internal/sync.Mutex).Lock", "internal/race.Disable", "sync/atomic.CompareAndSwapInt32", "internal/race.Enable", "internal/race.Acquire", "(*internal/sync.Mutex).lockSlow", "internal/sync.runtime_canSpin", "internal/sync.runtime_doSpin", "internal/sync.throw", "internal/sync.runtime_nanotime", "internal/sync.runtime_SemacquireMutex", "sync/atomic.AddInt32", "(*internal/sync.Mutex).Unlock", "internal/race.ReleaseMerge", "(*internal/sync.Mutex).unlockSlow", "internal/sync.fatal", "internal/sync.runtime_Semrelease"], unfollowed := true, recurses := true, named := ["loop.example/vectorpacker/impl.errMove"], ifaces := true, apart := false, laid := [("loop.example/vectorpacker/impl.errMove", laid_loop_example_vectorpacker_impl_errMove)] }
def FnPlayRefusedSaid : Prop := fnPlayRefusedRow.holds Tryz.pinned (OpenSpec.ofChange fnPlayRefusedSpec)

/-- ITS FALSE NEIGHBOUR: 'it returns false'. Refute it at one input. -/
def fnPlayRefusedWrong : ChangeSpec := { name := "fnPlayRefused", vars := ["loop.example/vectorpacker/impl.errMove"], fn := fun _ => fun
  | [d, g1] => { results := [.lit (.bool false)], args := [d], vars := [g1] }
  | _ => none }
def FnPlayRefusedWrongFalsely : Prop := fnPlayRefusedRow.holds Tryz.pinned (OpenSpec.ofChange fnPlayRefusedWrong)

/-- 'laws.FnPlayTasks': WHATEVER THE INPUT: true; the input reads as it did. -/
def fnPlayTasksSpec : ChangeSpec := { name := "fnPlayTasks", vars := ["loop.example/vectorpacker/impl.errMove"], fn := fun _ => fun
  | [d, g1] => { results := [.lit (.bool true)], args := [d], vars := [g1] }
  | _ => none }
def fnPlayTasksRow : OpenClaim := { program := "ytlegpecjoaklnaagreatdoor", sum := "ce39e7c91c43173f6db1cb46f1bb39bc374a32b56c07a48eabfc99fb8260eb41", func := "loop.example/vectorpacker/laws.FnPlayTasks", spec := "fnPlayTasks", inPlace := ["(*internal/sync.Mutex).Lock", "internal/race.Disable", "sync/atomic.CompareAndSwapInt32", "internal/race.Enable", "internal/race.Acquire", "(*internal/sync.Mutex).lockSlow", "internal/sync.runtime_canSpin", "internal/sync.runtime_doSpin", "internal/sync.throw", "internal/sync.runtime_nanotime", "internal/sync.runtime_SemacquireMutex", "sync/atomic.AddInt32", "(*internal/sync.Mutex).Unlock", "internal/race.ReleaseMerge", "(*internal/sync.Mutex).unlockSlow", "internal/sync.fatal", "internal/sync.runtime_Semrelease"], unfollowed := true, recurses := true, named := ["loop.example/vectorpacker/impl.errMove"], ifaces := true, apart := false, laid := [("loop.example/vectorpacker/impl.errMove", laid_loop_example_vectorpacker_impl_errMove)] }
def FnPlayTasksSaid : Prop := fnPlayTasksRow.holds Tryz.pinned (OpenSpec.ofChange fnPlayTasksSpec)

/-- ITS FALSE NEIGHBOUR: 'it returns false'. Refute it at one input. -/
def fnPlayTasksWrong : ChangeSpec := { name := "fnPlayTasks", vars := ["loop.example/vectorpacker/impl.errMove"], fn := fun _ => fun
  | [d, g1] => { results := [.lit (.bool false)], args := [d], vars := [g1] }
  | _ => none }
def FnPlayTasksWrongFalsely : Prop := fnPlayTasksRow.holds Tryz.pinned (OpenSpec.ofChange fnPlayTasksWrong)

/-- 'laws.FnExactRequestDo': WHATEVER THE INPUT: true; the input reads as it did. -/
def fnExactRequestDoSpec : ChangeSpec := { name := "fnExactRequestDo", vars := ["loop.example/vectorpacker/impl.errMove"], fn := fun _ => fun
  | [d1, d2, g1] => { results := [.lit (.bool true)], args := [d1, d2], vars := [g1] }
  | _ => none }
def fnExactRequestDoRow : OpenClaim := { program := "ytlegpecjoaklnaagreatdoor", sum := "ce39e7c91c43173f6db1cb46f1bb39bc374a32b56c07a48eabfc99fb8260eb41", func := "loop.example/vectorpacker/laws.FnExactRequestDo", spec := "fnExactRequestDo", inPlace := ["(*internal/sync.Mutex).Lock", "internal/race.Disable", "sync/atomic.CompareAndSwapInt32", "internal/race.Enable", "internal/race.Acquire", "(*internal/sync.Mutex).lockSlow", "internal/sync.runtime_canSpin", "internal/sync.runtime_doSpin", "internal/sync.throw", "internal/sync.runtime_nanotime", "internal/sync.runtime_SemacquireMutex", "sync/atomic.AddInt32", "(*internal/sync.Mutex).Unlock", "internal/race.ReleaseMerge", "(*internal/sync.Mutex).unlockSlow", "internal/sync.fatal", "internal/sync.runtime_Semrelease"], unfollowed := true, recurses := true, named := ["loop.example/vectorpacker/impl.errMove"], ifaces := true, apart := false, laid := [("loop.example/vectorpacker/impl.errMove", laid_loop_example_vectorpacker_impl_errMove)] }
def FnExactRequestDoSaid : Prop := fnExactRequestDoRow.holds Tryz.pinned (OpenSpec.ofChange fnExactRequestDoSpec)

/-- ITS FALSE NEIGHBOUR: 'it returns false'. Refute it at one input. -/
def fnExactRequestDoWrong : ChangeSpec := { name := "fnExactRequestDo", vars := ["loop.example/vectorpacker/impl.errMove"], fn := fun _ => fun
  | [d1, d2, g1] => { results := [.lit (.bool false)], args := [d1, d2], vars := [g1] }
  | _ => none }
def FnExactRequestDoWrongFalsely : Prop := fnExactRequestDoRow.holds Tryz.pinned (OpenSpec.ofChange fnExactRequestDoWrong)

/-- 'laws.FnExactRequestsPlay': WHATEVER THE INPUT: true; the input reads as it did. -/
def fnExactRequestsPlaySpec : ChangeSpec := { name := "fnExactRequestsPlay", vars := ["loop.example/vectorpacker/impl.errMove"], fn := fun _ => fun
  | [d1, d2, g1] => { results := [.lit (.bool true)], args := [d1, d2], vars := [g1] }
  | _ => none }
def fnExactRequestsPlayRow : OpenClaim := { program := "ytlegpecjoaklnaagreatdoor", sum := "ce39e7c91c43173f6db1cb46f1bb39bc374a32b56c07a48eabfc99fb8260eb41", func := "loop.example/vectorpacker/laws.FnExactRequestsPlay", spec := "fnExactRequestsPlay", inPlace := ["(*internal/sync.Mutex).Lock", "internal/race.Disable", "sync/atomic.CompareAndSwapInt32", "internal/race.Enable", "internal/race.Acquire", "(*internal/sync.Mutex).lockSlow", "internal/sync.runtime_canSpin", "internal/sync.runtime_doSpin", "internal/sync.throw", "internal/sync.runtime_nanotime", "internal/sync.runtime_SemacquireMutex", "sync/atomic.AddInt32", "(*internal/sync.Mutex).Unlock", "internal/race.ReleaseMerge", "(*internal/sync.Mutex).unlockSlow", "internal/sync.fatal", "internal/sync.runtime_Semrelease"], unfollowed := true, recurses := true, named := ["loop.example/vectorpacker/impl.errMove"], ifaces := true, apart := false, laid := [("loop.example/vectorpacker/impl.errMove", laid_loop_example_vectorpacker_impl_errMove)] }
def FnExactRequestsPlaySaid : Prop := fnExactRequestsPlayRow.holds Tryz.pinned (OpenSpec.ofChange fnExactRequestsPlaySpec)

/-- ITS FALSE NEIGHBOUR: 'it returns false'. Refute it at one input. -/
def fnExactRequestsPlayWrong : ChangeSpec := { name := "fnExactRequestsPlay", vars := ["loop.example/vectorpacker/impl.errMove"], fn := fun _ => fun
  | [d1, d2, g1] => { results := [.lit (.bool false)], args := [d1, d2], vars := [g1] }
  | _ => none }
def FnExactRequestsPlayWrongFalsely : Prop := fnExactRequestsPlayRow.holds Tryz.pinned (OpenSpec.ofChange fnExactRequestsPlayWrong)

/- THE SECOND FORM. 'bulk': how many values and letters a reading holds, each counted each time it is reached (what is shared counts as often as it is met; a slice's spare places count too). A statement '..UptoSaid' is the law's where the arguments, and the package variables that the reading takes, are together of bulk at most 1048576: NARROWER than '..Said'. Prove '..Said' where nothing that the law and all that it calls make is longer than what came in: it says more and counts as full. Else prove '..UptoSaid'. A law counts once. -/
mutual
def uptoBulk {H : Type} : DataW H → Nat
  | .lit (.string bytes) => bytes.length + 1
  | .lit _ => 1
  | .nil => 1
  | .ptr d => uptoBulk d + 1
  | .slice elems spare => uptoBulkAll elems + uptoBulkAll spare + 1
  | .agg parts => uptoBulkAll parts + 1
  | .iface _ d => uptoBulk d + 1
  | .map entries => uptoBulkEntries entries + 1
  | .held _ => 1
def uptoBulkAll {H : Type} : List (DataW H) → Nat
  | [] => 0
  | d :: r => uptoBulk d + uptoBulkAll r
def uptoBulkEntries {H : Type} : List (Lit × DataW H) → Nat
  | [] => 0
  | x :: r => uptoBulkEntry x + uptoBulkEntries r
def uptoBulkEntry {H : Type} : Lit × DataW H → Nat
  | (.string bytes, d) => bytes.length + uptoBulk d + 1
  | (_, d) => uptoBulk d + 1
 end
def uptoSmall : (H : Type) → List (DataW H) → Bool := fun _ ds => decide (uptoBulkAll ds ≤ 1048576)
def OpenSpec.upto (s : _root_.Go.ChangeSpec) : _root_.Go.OpenSpec := { _root_.Go.OpenSpec.ofChange s with cond := some uptoSmall }

/-- 'laws.FnGatherNone', WHERE WHAT IT READS IS OF BULK AT MOST 1048576: true; the input reads as it did. -/
def fnGatherNoneUptoRow : OpenClaim := { program := "ytlegpecjoaklnaagreatdoor", sum := "ce39e7c91c43173f6db1cb46f1bb39bc374a32b56c07a48eabfc99fb8260eb41", func := "loop.example/vectorpacker/laws.FnGatherNone", spec := "fnGatherNone", inPlace := ["(*internal/sync.Mutex).Lock", "internal/race.Disable", "sync/atomic.CompareAndSwapInt32", "internal/race.Enable", "internal/race.Acquire", "(*internal/sync.Mutex).lockSlow", "internal/sync.runtime_canSpin", "internal/sync.runtime_doSpin", "internal/sync.throw", "internal/sync.runtime_nanotime", "internal/sync.runtime_SemacquireMutex", "sync/atomic.AddInt32", "(*internal/sync.Mutex).Unlock", "internal/race.ReleaseMerge", "(*internal/sync.Mutex).unlockSlow", "internal/sync.fatal", "internal/sync.runtime_Semrelease"], unfollowed := true, recurses := true, named := ["loop.example/vectorpacker/impl.errMove"], ifaces := true, apart := false, laid := [("loop.example/vectorpacker/impl.errMove", laid_loop_example_vectorpacker_impl_errMove)], narrowed := true }
def FnGatherNoneUptoSaid : Prop := fnGatherNoneUptoRow.holds Tryz.pinned (OpenSpec.upto fnGatherNoneSpec)

/-- 'laws.FnFrom', WHERE WHAT IT READS IS OF BULK AT MOST 1048576: true; the input reads as it did. -/
def fnFromUptoRow : OpenClaim := { program := "ytlegpecjoaklnaagreatdoor", sum := "ce39e7c91c43173f6db1cb46f1bb39bc374a32b56c07a48eabfc99fb8260eb41", func := "loop.example/vectorpacker/laws.FnFrom", spec := "fnFrom", inPlace := ["internal/reflectlite.ValueOf", "(internal/reflectlite.Value).Type", "(internal/reflectlite.Value).IsNil", "internal/reflectlite.TypeOf", "(internal/reflectlite.Value).Elem", "(internal/reflectlite.Value).Set"], unfollowed := true, recurses := true, named := ["errors.errorType"], apart := false, laid := [("errors.errorType", laid_errors_errorType)], narrowed := true }
def FnFromUptoSaid : Prop := fnFromUptoRow.holds Tryz.pinned (OpenSpec.upto fnFromSpec)

/-- 'laws.FnRequest', WHERE WHAT IT READS IS OF BULK AT MOST 1048576: true; the input reads as it did. -/
def fnRequestUptoRow : OpenClaim := { program := "ytlegpecjoaklnaagreatdoor", sum := "ce39e7c91c43173f6db1cb46f1bb39bc374a32b56c07a48eabfc99fb8260eb41", func := "loop.example/vectorpacker/laws.FnRequest", spec := "fnRequest", inPlace := ["(*internal/sync.Mutex).Lock", "internal/race.Disable", "sync/atomic.CompareAndSwapInt32", "internal/race.Enable", "internal/race.Acquire", "(*internal/sync.Mutex).lockSlow", "internal/sync.runtime_canSpin", "internal/sync.runtime_doSpin", "internal/sync.throw", "internal/sync.runtime_nanotime", "internal/sync.runtime_SemacquireMutex", "sync/atomic.AddInt32", "(*internal/sync.Mutex).Unlock", "internal/race.ReleaseMerge", "(*internal/sync.Mutex).unlockSlow", "internal/sync.fatal", "internal/sync.runtime_Semrelease"], unfollowed := true, recurses := true, named := ["loop.example/vectorpacker/impl.errMove"], ifaces := true, apart := false, laid := [("loop.example/vectorpacker/impl.errMove", laid_loop_example_vectorpacker_impl_errMove)], narrowed := true }
def FnRequestUptoSaid : Prop := fnRequestUptoRow.holds Tryz.pinned (OpenSpec.upto fnRequestSpec)

/-- 'laws.FnRequestBad', WHERE WHAT IT READS IS OF BULK AT MOST 1048576: true; the input reads as it did. -/
def fnRequestBadUptoRow : OpenClaim := { program := "ytlegpecjoaklnaagreatdoor", sum := "ce39e7c91c43173f6db1cb46f1bb39bc374a32b56c07a48eabfc99fb8260eb41", func := "loop.example/vectorpacker/laws.FnRequestBad", spec := "fnRequestBad", inPlace := ["(*internal/sync.Mutex).Lock", "internal/race.Disable", "sync/atomic.CompareAndSwapInt32", "internal/race.Enable", "internal/race.Acquire", "(*internal/sync.Mutex).lockSlow", "internal/sync.runtime_canSpin", "internal/sync.runtime_doSpin", "internal/sync.throw", "internal/sync.runtime_nanotime", "internal/sync.runtime_SemacquireMutex", "sync/atomic.AddInt32", "(*internal/sync.Mutex).Unlock", "internal/race.ReleaseMerge", "(*internal/sync.Mutex).unlockSlow", "internal/sync.fatal", "internal/sync.runtime_Semrelease"], unfollowed := true, recurses := true, named := ["loop.example/vectorpacker/impl.errMove"], ifaces := true, apart := false, laid := [("loop.example/vectorpacker/impl.errMove", laid_loop_example_vectorpacker_impl_errMove)], narrowed := true }
def FnRequestBadUptoSaid : Prop := fnRequestBadUptoRow.holds Tryz.pinned (OpenSpec.upto fnRequestBadSpec)

/-- 'laws.FnRequestKinds', WHERE WHAT IT READS IS OF BULK AT MOST 1048576: true; the input reads as it did. -/
def fnRequestKindsUptoRow : OpenClaim := { program := "ytlegpecjoaklnaagreatdoor", sum := "ce39e7c91c43173f6db1cb46f1bb39bc374a32b56c07a48eabfc99fb8260eb41", func := "loop.example/vectorpacker/laws.FnRequestKinds", spec := "fnRequestKinds", inPlace := ["(*internal/sync.Mutex).Lock", "internal/race.Disable", "sync/atomic.CompareAndSwapInt32", "internal/race.Enable", "internal/race.Acquire", "(*internal/sync.Mutex).lockSlow", "internal/sync.runtime_canSpin", "internal/sync.runtime_doSpin", "internal/sync.throw", "internal/sync.runtime_nanotime", "internal/sync.runtime_SemacquireMutex", "sync/atomic.AddInt32", "(*internal/sync.Mutex).Unlock", "internal/race.ReleaseMerge", "(*internal/sync.Mutex).unlockSlow", "internal/sync.fatal", "internal/sync.runtime_Semrelease"], unfollowed := true, recurses := true, named := ["loop.example/vectorpacker/impl.errMove"], ifaces := true, apart := false, laid := [("loop.example/vectorpacker/impl.errMove", laid_loop_example_vectorpacker_impl_errMove)], narrowed := true }
def FnRequestKindsUptoSaid : Prop := fnRequestKindsUptoRow.holds Tryz.pinned (OpenSpec.upto fnRequestKindsSpec)

/-- 'laws.FnGather', WHERE WHAT IT READS IS OF BULK AT MOST 1048576: true; the input reads as it did. -/
def fnGatherUptoRow : OpenClaim := { program := "ytlegpecjoaklnaagreatdoor", sum := "ce39e7c91c43173f6db1cb46f1bb39bc374a32b56c07a48eabfc99fb8260eb41", func := "loop.example/vectorpacker/laws.FnGather", spec := "fnGather", inPlace := ["(*internal/sync.Mutex).Lock", "internal/race.Disable", "sync/atomic.CompareAndSwapInt32", "internal/race.Enable", "internal/race.Acquire", "(*internal/sync.Mutex).lockSlow", "internal/sync.runtime_canSpin", "internal/sync.runtime_doSpin", "internal/sync.throw", "internal/sync.runtime_nanotime", "internal/sync.runtime_SemacquireMutex", "sync/atomic.AddInt32", "(*internal/sync.Mutex).Unlock", "internal/race.ReleaseMerge", "(*internal/sync.Mutex).unlockSlow", "internal/sync.fatal", "internal/sync.runtime_Semrelease"], unfollowed := true, recurses := true, named := ["loop.example/vectorpacker/impl.errMove"], ifaces := true, apart := false, laid := [("loop.example/vectorpacker/impl.errMove", laid_loop_example_vectorpacker_impl_errMove)], narrowed := true }
def FnGatherUptoSaid : Prop := fnGatherUptoRow.holds Tryz.pinned (OpenSpec.upto fnGatherSpec)

/-- 'laws.FnPlay', WHERE WHAT IT READS IS OF BULK AT MOST 1048576: true; the input reads as it did. -/
def fnPlayUptoRow : OpenClaim := { program := "ytlegpecjoaklnaagreatdoor", sum := "ce39e7c91c43173f6db1cb46f1bb39bc374a32b56c07a48eabfc99fb8260eb41", func := "loop.example/vectorpacker/laws.FnPlay", spec := "fnPlay", inPlace := ["(*internal/sync.Mutex).Lock", "internal/race.Disable", "sync/atomic.CompareAndSwapInt32", "internal/race.Enable", "internal/race.Acquire", "(*internal/sync.Mutex).lockSlow", "internal/sync.runtime_canSpin", "internal/sync.runtime_doSpin", "internal/sync.throw", "internal/sync.runtime_nanotime", "internal/sync.runtime_SemacquireMutex", "sync/atomic.AddInt32", "(*internal/sync.Mutex).Unlock", "internal/race.ReleaseMerge", "(*internal/sync.Mutex).unlockSlow", "internal/sync.fatal", "internal/sync.runtime_Semrelease"], unfollowed := true, recurses := true, named := ["loop.example/vectorpacker/impl.errMove"], ifaces := true, apart := false, laid := [("loop.example/vectorpacker/impl.errMove", laid_loop_example_vectorpacker_impl_errMove)], narrowed := true }
def FnPlayUptoSaid : Prop := fnPlayUptoRow.holds Tryz.pinned (OpenSpec.upto fnPlaySpec)

/-- 'laws.FnPlayOne', WHERE WHAT IT READS IS OF BULK AT MOST 1048576: true; the input reads as it did. -/
def fnPlayOneUptoRow : OpenClaim := { program := "ytlegpecjoaklnaagreatdoor", sum := "ce39e7c91c43173f6db1cb46f1bb39bc374a32b56c07a48eabfc99fb8260eb41", func := "loop.example/vectorpacker/laws.FnPlayOne", spec := "fnPlayOne", inPlace := ["(*internal/sync.Mutex).Lock", "internal/race.Disable", "sync/atomic.CompareAndSwapInt32", "internal/race.Enable", "internal/race.Acquire", "(*internal/sync.Mutex).lockSlow", "internal/sync.runtime_canSpin", "internal/sync.runtime_doSpin", "internal/sync.throw", "internal/sync.runtime_nanotime", "internal/sync.runtime_SemacquireMutex", "sync/atomic.AddInt32", "(*internal/sync.Mutex).Unlock", "internal/race.ReleaseMerge", "(*internal/sync.Mutex).unlockSlow", "internal/sync.fatal", "internal/sync.runtime_Semrelease"], unfollowed := true, recurses := true, named := ["loop.example/vectorpacker/impl.errMove"], ifaces := true, apart := false, laid := [("loop.example/vectorpacker/impl.errMove", laid_loop_example_vectorpacker_impl_errMove)], narrowed := true }
def FnPlayOneUptoSaid : Prop := fnPlayOneUptoRow.holds Tryz.pinned (OpenSpec.upto fnPlayOneSpec)

/-- 'laws.FnPlayRefused', WHERE WHAT IT READS IS OF BULK AT MOST 1048576: true; the input reads as it did. -/
def fnPlayRefusedUptoRow : OpenClaim := { program := "ytlegpecjoaklnaagreatdoor", sum := "ce39e7c91c43173f6db1cb46f1bb39bc374a32b56c07a48eabfc99fb8260eb41", func := "loop.example/vectorpacker/laws.FnPlayRefused", spec := "fnPlayRefused", inPlace := ["(*internal/sync.Mutex).Lock", "internal/race.Disable", "sync/atomic.CompareAndSwapInt32", "internal/race.Enable", "internal/race.Acquire", "(*internal/sync.Mutex).lockSlow", "internal/sync.runtime_canSpin", "internal/sync.runtime_doSpin", "internal/sync.throw", "internal/sync.runtime_nanotime", "internal/sync.runtime_SemacquireMutex", "sync/atomic.AddInt32", "(*internal/sync.Mutex).Unlock", "internal/race.ReleaseMerge", "(*internal/sync.Mutex).unlockSlow", "internal/sync.fatal", "internal/sync.runtime_Semrelease"], unfollowed := true, recurses := true, named := ["loop.example/vectorpacker/impl.errMove"], ifaces := true, apart := false, laid := [("loop.example/vectorpacker/impl.errMove", laid_loop_example_vectorpacker_impl_errMove)], narrowed := true }
def FnPlayRefusedUptoSaid : Prop := fnPlayRefusedUptoRow.holds Tryz.pinned (OpenSpec.upto fnPlayRefusedSpec)

/-- 'laws.FnPlayTasks', WHERE WHAT IT READS IS OF BULK AT MOST 1048576: true; the input reads as it did. -/
def fnPlayTasksUptoRow : OpenClaim := { program := "ytlegpecjoaklnaagreatdoor", sum := "ce39e7c91c43173f6db1cb46f1bb39bc374a32b56c07a48eabfc99fb8260eb41", func := "loop.example/vectorpacker/laws.FnPlayTasks", spec := "fnPlayTasks", inPlace := ["(*internal/sync.Mutex).Lock", "internal/race.Disable", "sync/atomic.CompareAndSwapInt32", "internal/race.Enable", "internal/race.Acquire", "(*internal/sync.Mutex).lockSlow", "internal/sync.runtime_canSpin", "internal/sync.runtime_doSpin", "internal/sync.throw", "internal/sync.runtime_nanotime", "internal/sync.runtime_SemacquireMutex", "sync/atomic.AddInt32", "(*internal/sync.Mutex).Unlock", "internal/race.ReleaseMerge", "(*internal/sync.Mutex).unlockSlow", "internal/sync.fatal", "internal/sync.runtime_Semrelease"], unfollowed := true, recurses := true, named := ["loop.example/vectorpacker/impl.errMove"], ifaces := true, apart := false, laid := [("loop.example/vectorpacker/impl.errMove", laid_loop_example_vectorpacker_impl_errMove)], narrowed := true }
def FnPlayTasksUptoSaid : Prop := fnPlayTasksUptoRow.holds Tryz.pinned (OpenSpec.upto fnPlayTasksSpec)

/-- 'laws.FnExactRequestDo', WHERE WHAT IT READS IS OF BULK AT MOST 1048576: true; the input reads as it did. -/
def fnExactRequestDoUptoRow : OpenClaim := { program := "ytlegpecjoaklnaagreatdoor", sum := "ce39e7c91c43173f6db1cb46f1bb39bc374a32b56c07a48eabfc99fb8260eb41", func := "loop.example/vectorpacker/laws.FnExactRequestDo", spec := "fnExactRequestDo", inPlace := ["(*internal/sync.Mutex).Lock", "internal/race.Disable", "sync/atomic.CompareAndSwapInt32", "internal/race.Enable", "internal/race.Acquire", "(*internal/sync.Mutex).lockSlow", "internal/sync.runtime_canSpin", "internal/sync.runtime_doSpin", "internal/sync.throw", "internal/sync.runtime_nanotime", "internal/sync.runtime_SemacquireMutex", "sync/atomic.AddInt32", "(*internal/sync.Mutex).Unlock", "internal/race.ReleaseMerge", "(*internal/sync.Mutex).unlockSlow", "internal/sync.fatal", "internal/sync.runtime_Semrelease"], unfollowed := true, recurses := true, named := ["loop.example/vectorpacker/impl.errMove"], ifaces := true, apart := false, laid := [("loop.example/vectorpacker/impl.errMove", laid_loop_example_vectorpacker_impl_errMove)], narrowed := true }
def FnExactRequestDoUptoSaid : Prop := fnExactRequestDoUptoRow.holds Tryz.pinned (OpenSpec.upto fnExactRequestDoSpec)

/-- 'laws.FnExactRequestsPlay', WHERE WHAT IT READS IS OF BULK AT MOST 1048576: true; the input reads as it did. -/
def fnExactRequestsPlayUptoRow : OpenClaim := { program := "ytlegpecjoaklnaagreatdoor", sum := "ce39e7c91c43173f6db1cb46f1bb39bc374a32b56c07a48eabfc99fb8260eb41", func := "loop.example/vectorpacker/laws.FnExactRequestsPlay", spec := "fnExactRequestsPlay", inPlace := ["(*internal/sync.Mutex).Lock", "internal/race.Disable", "sync/atomic.CompareAndSwapInt32", "internal/race.Enable", "internal/race.Acquire", "(*internal/sync.Mutex).lockSlow", "internal/sync.runtime_canSpin", "internal/sync.runtime_doSpin", "internal/sync.throw", "internal/sync.runtime_nanotime", "internal/sync.runtime_SemacquireMutex", "sync/atomic.AddInt32", "(*internal/sync.Mutex).Unlock", "internal/race.ReleaseMerge", "(*internal/sync.Mutex).unlockSlow", "internal/sync.fatal", "internal/sync.runtime_Semrelease"], unfollowed := true, recurses := true, named := ["loop.example/vectorpacker/impl.errMove"], ifaces := true, apart := false, laid := [("loop.example/vectorpacker/impl.errMove", laid_loop_example_vectorpacker_impl_errMove)], narrowed := true }
def FnExactRequestsPlayUptoSaid : Prop := fnExactRequestsPlayUptoRow.holds Tryz.pinned (OpenSpec.upto fnExactRequestsPlaySpec)

end Rows
end Go.Proofs.YtlegpecjoaklnaaGreatDoor
