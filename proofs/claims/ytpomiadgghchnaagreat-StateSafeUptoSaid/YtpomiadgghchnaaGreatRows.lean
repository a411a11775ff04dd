/-
  No cell of these rows narrows 'for every input' (looked for: loops, veiled, ifaces, maps, wideKeys, modest, calm, conditions, laid).
  DERIVED. THE GIVEN ROWS OF THIS SEAT. 11 by the template 'for every input the law returns true; each argument reads behind the call as it read before'; 0 by the template 'total and deterministic' (their statements: YtpomiadgghchnaaGreatTotals.lean).
  GIVEN WITH THE SEED: the statements are not yours to turn. If you find one false, say at which input.
  Laid BY PROGRAM, IN A SANDBOX (cutbox-rows.mjs): the forced cells as the released guide's own fill.sh prints them over the translation 510a3f575634a905… (all of the seat's roots in one cut). By AI agents, Wed Nov 11 2026. No macro, syntax, notation, axiom, sorry.
-/
import Derived.Test.YtpomiadgghchnaaGreatChecked
import GoSem.Claim
import GoSem.ClaimJoined
import GoSem.ClaimMapViews
import Derived.JoinedTies
import Derived.KernelRfl
namespace Go.Proofs.YtpomiadgghchnaaGreat
/- THE CELL 'sum', in the pinned program and in every row, IS THE sha256 OF THE DUMP (.gsa) THAT YtpomiadgghchnaaGreatProg.lean LOADS. Nothing in Lean hashes anything: it is a label: what it is worth is what the hold of that sum in a sandbox is worth. -/
noncomputable def Tryz.pinned : Pinned := { name := "ytpomiadgghchnaagreat", sum := "510a3f575634a905d92e4831cc205a5ab3845eb6302e882d98cd4cbfd0104f67", checked := Tryz.checked }
namespace Rows
def none {H : Type} : Left H := { results := [], args := [] }

/-- 'tithebarnlaw25.SnapPlays': WHATEVER THE INPUT: true; the input reads as it did. -/
def snapPlaysSpec : ChangeSpec := { name := "snapPlays", fn := fun _ => fun
  | [d] => { results := [.lit (.bool true)], args := [d] }
  | _ => none }
def snapPlaysRow : OpenClaim := { program := "ytpomiadgghchnaagreat", sum := "510a3f575634a905d92e4831cc205a5ab3845eb6302e882d98cd4cbfd0104f67", func := "tithebarn/tithebarnlaw25.SnapPlays", spec := "snapPlays", inPlace := ["internal/abi.NoEscape"], unfollowed := true, recurses := true, plainKeys := false, apart := false }
def SnapPlaysSaid : Prop := snapPlaysRow.holds Tryz.pinned (OpenSpec.ofChange snapPlaysSpec)

/-- ITS FALSE NEIGHBOUR: 'it returns false'. Refute it at one input. -/
def snapPlaysWrong : ChangeSpec := { name := "snapPlays", fn := fun _ => fun
  | [d] => { results := [.lit (.bool false)], args := [d] }
  | _ => none }
def SnapPlaysWrongFalsely : Prop := snapPlaysRow.holds Tryz.pinned (OpenSpec.ofChange snapPlaysWrong)

/-- 'tithebarnlaw28.WatchEvents': WHATEVER THE INPUT: true; the input reads as it did. -/
def watchEventsSpec : ChangeSpec := { name := "watchEvents", fn := fun _ => fun
  | [d1, d2] => { results := [.lit (.bool true)], args := [d1, d2] }
  | _ => none }
def watchEventsRow : OpenClaim := { program := "ytpomiadgghchnaagreat", sum := "510a3f575634a905d92e4831cc205a5ab3845eb6302e882d98cd4cbfd0104f67", func := "tithebarn/tithebarnlaw28.WatchEvents", spec := "watchEvents", inPlace := ["sync/atomic.LoadUint32", "(*internal/sync.Mutex).Lock", "internal/race.Disable", "sync/atomic.CompareAndSwapInt32", "internal/race.Enable", "internal/race.Acquire", "(*internal/sync.Mutex).lockSlow", "internal/sync.runtime_canSpin", "internal/sync.runtime_doSpin", "internal/sync.throw", "internal/sync.runtime_nanotime", "internal/sync.runtime_SemacquireMutex", "sync/atomic.AddInt32", "(*internal/sync.Mutex).Unlock", "internal/race.ReleaseMerge", "(*internal/sync.Mutex).unlockSlow", "internal/sync.fatal", "internal/sync.runtime_Semrelease", "sync/atomic.StoreUint32", "sync/atomic.AddInt64", "sync/atomic.LoadInt64"], unfollowed := true, recurses := true, plainKeys := false, apart := false }
def WatchEventsSaid : Prop := watchEventsRow.holds Tryz.pinned (OpenSpec.ofChange watchEventsSpec)

/-- ITS FALSE NEIGHBOUR: 'it returns false'. Refute it at one input. -/
def watchEventsWrong : ChangeSpec := { name := "watchEvents", fn := fun _ => fun
  | [d1, d2] => { results := [.lit (.bool false)], args := [d1, d2] }
  | _ => none }
def WatchEventsWrongFalsely : Prop := watchEventsRow.holds Tryz.pinned (OpenSpec.ofChange watchEventsWrong)

/-- 'tithebarnlaw28.WatchSteps': WHATEVER THE INPUT: true; the input reads as it did. -/
def watchStepsSpec : ChangeSpec := { name := "watchSteps", fn := fun _ => fun
  | [d1, d2] => { results := [.lit (.bool true)], args := [d1, d2] }
  | _ => none }
def watchStepsRow : OpenClaim := { program := "ytpomiadgghchnaagreat", sum := "510a3f575634a905d92e4831cc205a5ab3845eb6302e882d98cd4cbfd0104f67", func := "tithebarn/tithebarnlaw28.WatchSteps", spec := "watchSteps", inPlace := ["sync/atomic.LoadUint32", "(*internal/sync.Mutex).Lock", "internal/race.Disable", "sync/atomic.CompareAndSwapInt32", "internal/race.Enable", "internal/race.Acquire", "(*internal/sync.Mutex).lockSlow", "internal/sync.runtime_canSpin", "internal/sync.runtime_doSpin", "internal/sync.throw", "internal/sync.runtime_nanotime", "internal/sync.runtime_SemacquireMutex", "sync/atomic.AddInt32", "(*internal/sync.Mutex).Unlock", "internal/race.ReleaseMerge", "(*internal/sync.Mutex).unlockSlow", "internal/sync.fatal", "internal/sync.runtime_Semrelease", "sync/atomic.StoreUint32", "sync/atomic.AddInt64", "sync/atomic.LoadInt64"], unfollowed := true, recurses := true, plainKeys := false, apart := false }
def WatchStepsSaid : Prop := watchStepsRow.holds Tryz.pinned (OpenSpec.ofChange watchStepsSpec)

/-- ITS FALSE NEIGHBOUR: 'it returns false'. Refute it at one input. -/
def watchStepsWrong : ChangeSpec := { name := "watchSteps", fn := fun _ => fun
  | [d1, d2] => { results := [.lit (.bool false)], args := [d1, d2] }
  | _ => none }
def WatchStepsWrongFalsely : Prop := watchStepsRow.holds Tryz.pinned (OpenSpec.ofChange watchStepsWrong)

/-- 'tithebarnlaw28.WatchNone': WHATEVER THE INPUT: true; the input reads as it did. -/
def watchNoneSpec : ChangeSpec := { name := "watchNone", fn := fun _ => fun
  | [d] => { results := [.lit (.bool true)], args := [d] }
  | _ => none }
def watchNoneRow : OpenClaim := { program := "ytpomiadgghchnaagreat", sum := "510a3f575634a905d92e4831cc205a5ab3845eb6302e882d98cd4cbfd0104f67", func := "tithebarn/tithebarnlaw28.WatchNone", spec := "watchNone", inPlace := ["sync/atomic.LoadUint32", "(*internal/sync.Mutex).Lock", "internal/race.Disable", "sync/atomic.CompareAndSwapInt32", "internal/race.Enable", "internal/race.Acquire", "(*internal/sync.Mutex).lockSlow", "internal/sync.runtime_canSpin", "internal/sync.runtime_doSpin", "internal/sync.throw", "internal/sync.runtime_nanotime", "internal/sync.runtime_SemacquireMutex", "sync/atomic.AddInt32", "(*internal/sync.Mutex).Unlock", "internal/race.ReleaseMerge", "(*internal/sync.Mutex).unlockSlow", "internal/sync.fatal", "internal/sync.runtime_Semrelease", "sync/atomic.StoreUint32", "sync/atomic.AddInt64", "sync/atomic.LoadInt64"], unfollowed := true, recurses := true, plainKeys := false, apart := false }
def WatchNoneSaid : Prop := watchNoneRow.holds Tryz.pinned (OpenSpec.ofChange watchNoneSpec)

/-- ITS FALSE NEIGHBOUR: 'it returns false'. Refute it at one input. -/
def watchNoneWrong : ChangeSpec := { name := "watchNone", fn := fun _ => fun
  | [d] => { results := [.lit (.bool false)], args := [d] }
  | _ => none }
def WatchNoneWrongFalsely : Prop := watchNoneRow.holds Tryz.pinned (OpenSpec.ofChange watchNoneWrong)

/-- 'tithebarnlaw24.StateApplies': WHATEVER THE INPUT: true; the input reads as it did. -/
def stateAppliesSpec : ChangeSpec := { name := "stateApplies", fn := fun _ => fun
  | [d1, d2] => { results := [.lit (.bool true)], args := [d1, d2] }
  | _ => none }
def stateAppliesRow : OpenClaim := { program := "ytpomiadgghchnaagreat", sum := "510a3f575634a905d92e4831cc205a5ab3845eb6302e882d98cd4cbfd0104f67", func := "tithebarn/tithebarnlaw24.StateApplies", spec := "stateApplies", inPlace := ["slices.overlaps[tithebarn/api.Pending]", "math/bits.Add64"], unfollowed := true, recurses := true, named := ["math/bits.divideError", "math/bits.overflowError"], plainKeys := false, apart := false }
def StateAppliesSaid : Prop := stateAppliesRow.holds Tryz.pinned (OpenSpec.ofChange stateAppliesSpec)

/-- ITS FALSE NEIGHBOUR: 'it returns false'. Refute it at one input. -/
def stateAppliesWrong : ChangeSpec := { name := "stateApplies", fn := fun _ => fun
  | [d1, d2] => { results := [.lit (.bool false)], args := [d1, d2] }
  | _ => none }
def StateAppliesWrongFalsely : Prop := stateAppliesRow.holds Tryz.pinned (OpenSpec.ofChange stateAppliesWrong)

/-- 'tithebarnlaw24.StatePlays': WHATEVER THE INPUT: true; the input reads as it did. -/
def statePlaysSpec : ChangeSpec := { name := "statePlays", fn := fun _ => fun
  | [d] => { results := [.lit (.bool true)], args := [d] }
  | _ => none }
def statePlaysRow : OpenClaim := { program := "ytpomiadgghchnaagreat", sum := "510a3f575634a905d92e4831cc205a5ab3845eb6302e882d98cd4cbfd0104f67", func := "tithebarn/tithebarnlaw24.StatePlays", spec := "statePlays", inPlace := ["slices.overlaps[tithebarn/api.Pending]", "math/bits.Add64"], unfollowed := true, recurses := true, named := ["math/bits.divideError", "math/bits.overflowError"], plainKeys := false, apart := false }
def StatePlaysSaid : Prop := statePlaysRow.holds Tryz.pinned (OpenSpec.ofChange statePlaysSpec)

/-- ITS FALSE NEIGHBOUR: 'it returns false'. Refute it at one input. -/
def statePlaysWrong : ChangeSpec := { name := "statePlays", fn := fun _ => fun
  | [d] => { results := [.lit (.bool false)], args := [d] }
  | _ => none }
def StatePlaysWrongFalsely : Prop := statePlaysRow.holds Tryz.pinned (OpenSpec.ofChange statePlaysWrong)

/-- 'tithebarnlaw24.StateRefused': WHATEVER THE INPUT: true; the input reads as it did. -/
def stateRefusedSpec : ChangeSpec := { name := "stateRefused", fn := fun _ => fun
  | [d1, d2] => { results := [.lit (.bool true)], args := [d1, d2] }
  | _ => none }
def stateRefusedRow : OpenClaim := { program := "ytpomiadgghchnaagreat", sum := "510a3f575634a905d92e4831cc205a5ab3845eb6302e882d98cd4cbfd0104f67", func := "tithebarn/tithebarnlaw24.StateRefused", spec := "stateRefused", inPlace := ["slices.overlaps[tithebarn/api.Pending]", "math/bits.Add64"], unfollowed := true, recurses := true, named := ["math/bits.divideError", "math/bits.overflowError"], plainKeys := false, apart := false }
def StateRefusedSaid : Prop := stateRefusedRow.holds Tryz.pinned (OpenSpec.ofChange stateRefusedSpec)

/-- ITS FALSE NEIGHBOUR: 'it returns false'. Refute it at one input. -/
def stateRefusedWrong : ChangeSpec := { name := "stateRefused", fn := fun _ => fun
  | [d1, d2] => { results := [.lit (.bool false)], args := [d1, d2] }
  | _ => none }
def StateRefusedWrongFalsely : Prop := stateRefusedRow.holds Tryz.pinned (OpenSpec.ofChange stateRefusedWrong)

/-- 'tithebarnlaw24.StateSafe': WHATEVER THE INPUT: true; the input reads as it did. -/
def stateSafeSpec : ChangeSpec := { name := "stateSafe", fn := fun _ => fun
  | [d] => { results := [.lit (.bool true)], args := [d] }
  | _ => none }
def stateSafeRow : OpenClaim := { program := "ytpomiadgghchnaagreat", sum := "510a3f575634a905d92e4831cc205a5ab3845eb6302e882d98cd4cbfd0104f67", func := "tithebarn/tithebarnlaw24.StateSafe", spec := "stateSafe", inPlace := ["slices.overlaps[tithebarn/api.Pending]", "math/bits.Add64"], unfollowed := true, recurses := true, named := ["math/bits.divideError", "math/bits.overflowError"], plainKeys := false, apart := false }
def StateSafeSaid : Prop := stateSafeRow.holds Tryz.pinned (OpenSpec.ofChange stateSafeSpec)

/-- ITS FALSE NEIGHBOUR: 'it returns false'. Refute it at one input. -/
def stateSafeWrong : ChangeSpec := { name := "stateSafe", fn := fun _ => fun
  | [d] => { results := [.lit (.bool false)], args := [d] }
  | _ => none }
def StateSafeWrongFalsely : Prop := stateSafeRow.holds Tryz.pinned (OpenSpec.ofChange stateSafeWrong)

/-- 'tithebarnlaw24.StateSame': WHATEVER THE INPUT: true; the input reads as it did. -/
def stateSameSpec : ChangeSpec := { name := "stateSame", fn := fun _ => fun
  | [d1, d2] => { results := [.lit (.bool true)], args := [d1, d2] }
  | _ => none }
def stateSameRow : OpenClaim := { program := "ytpomiadgghchnaagreat", sum := "510a3f575634a905d92e4831cc205a5ab3845eb6302e882d98cd4cbfd0104f67", func := "tithebarn/tithebarnlaw24.StateSame", spec := "stateSame", inPlace := ["slices.overlaps[tithebarn/api.Pending]", "math/bits.Add64"], unfollowed := true, recurses := true, named := ["math/bits.divideError", "math/bits.overflowError"], plainKeys := false, apart := false }
def StateSameSaid : Prop := stateSameRow.holds Tryz.pinned (OpenSpec.ofChange stateSameSpec)

/-- ITS FALSE NEIGHBOUR: 'it returns false'. Refute it at one input. -/
def stateSameWrong : ChangeSpec := { name := "stateSame", fn := fun _ => fun
  | [d1, d2] => { results := [.lit (.bool false)], args := [d1, d2] }
  | _ => none }
def StateSameWrongFalsely : Prop := stateSameRow.holds Tryz.pinned (OpenSpec.ofChange stateSameWrong)

/-- 'tithebarnlaw24.StateTicks': WHATEVER THE INPUT: true; the input reads as it did. -/
def stateTicksSpec : ChangeSpec := { name := "stateTicks", fn := fun _ => fun
  | [d1, d2] => { results := [.lit (.bool true)], args := [d1, d2] }
  | _ => none }
def stateTicksRow : OpenClaim := { program := "ytpomiadgghchnaagreat", sum := "510a3f575634a905d92e4831cc205a5ab3845eb6302e882d98cd4cbfd0104f67", func := "tithebarn/tithebarnlaw24.StateTicks", spec := "stateTicks", inPlace := ["slices.overlaps[tithebarn/api.Pending]", "math/bits.Add64"], unfollowed := true, recurses := true, named := ["math/bits.divideError", "math/bits.overflowError"], plainKeys := false, apart := false }
def StateTicksSaid : Prop := stateTicksRow.holds Tryz.pinned (OpenSpec.ofChange stateTicksSpec)

/-- ITS FALSE NEIGHBOUR: 'it returns false'. Refute it at one input. -/
def stateTicksWrong : ChangeSpec := { name := "stateTicks", fn := fun _ => fun
  | [d1, d2] => { results := [.lit (.bool false)], args := [d1, d2] }
  | _ => none }
def StateTicksWrongFalsely : Prop := stateTicksRow.holds Tryz.pinned (OpenSpec.ofChange stateTicksWrong)

/-- 'tithebarnlaw24.StateGoes': WHATEVER THE INPUT: true; the input reads as it did. -/
def stateGoesSpec : ChangeSpec := { name := "stateGoes", fn := fun _ => fun
  | [d1, d2] => { results := [.lit (.bool true)], args := [d1, d2] }
  | _ => none }
def stateGoesRow : OpenClaim := { program := "ytpomiadgghchnaagreat", sum := "510a3f575634a905d92e4831cc205a5ab3845eb6302e882d98cd4cbfd0104f67", func := "tithebarn/tithebarnlaw24.StateGoes", spec := "stateGoes", inPlace := ["slices.overlaps[tithebarn/api.Pending]", "math/bits.Add64"], unfollowed := true, recurses := true, named := ["math/bits.divideError", "math/bits.overflowError"], plainKeys := false, apart := false }
def StateGoesSaid : Prop := stateGoesRow.holds Tryz.pinned (OpenSpec.ofChange stateGoesSpec)

/-- ITS FALSE NEIGHBOUR: 'it returns false'. Refute it at one input. -/
def stateGoesWrong : ChangeSpec := { name := "stateGoes", fn := fun _ => fun
  | [d1, d2] => { results := [.lit (.bool false)], args := [d1, d2] }
  | _ => none }
def StateGoesWrongFalsely : Prop := stateGoesRow.holds Tryz.pinned (OpenSpec.ofChange stateGoesWrong)

/- THE SECOND FORM. 'bulk': how many values and letters a reading holds, each counted each time it is reached (what is shared counts as often as it is met; a slice's spare places count too). A statement '..UptoSaid' is the law's where the arguments, and the package variables that the reading takes, are together of bulk at most 1048576: NARROWER than '..Said'. Prove '..Said' where nothing that the law and all that it calls make is longer than what came in: it says more and counts as full. Else prove '..UptoSaid'. A law counts once. -/
mutual
def uptoBulk {H : Type} : DataW H → Nat
  | .lit (.string bytes) => bytes.length + 1
  | .lit _ => 1
  | .nil => 1
  | .ptr d => uptoBulk d + 1
  | .slice elems spare => uptoBulkAll elems + uptoBulkAll spare + 1
  | .agg parts => uptoBulkAll parts + 1
  | .iface _ d => uptoBulk d + 1
  | .map entries => uptoBulkEntries entries + 1
  | .held _ => 1
def uptoBulkAll {H : Type} : List (DataW H) → Nat
  | [] => 0
  | d :: r => uptoBulk d + uptoBulkAll r
def uptoBulkEntries {H : Type} : List (Lit × DataW H) → Nat
  | [] => 0
  | x :: r => uptoBulkEntry x + uptoBulkEntries r
def uptoBulkEntry {H : Type} : Lit × DataW H → Nat
  | (.string bytes, d) => bytes.length + uptoBulk d + 1
  | (_, d) => uptoBulk d + 1
 end
def uptoSmall : (H : Type) → List (DataW H) → Bool := fun _ ds => decide (uptoBulkAll ds ≤ 1048576)
def OpenSpec.upto (s : _root_.Go.ChangeSpec) : _root_.Go.OpenSpec := { _root_.Go.OpenSpec.ofChange s with cond := some uptoSmall }

/-- 'tithebarnlaw25.SnapPlays', WHERE WHAT IT READS IS OF BULK AT MOST 1048576: true; the input reads as it did. -/
def snapPlaysUptoRow : OpenClaim := { program := "ytpomiadgghchnaagreat", sum := "510a3f575634a905d92e4831cc205a5ab3845eb6302e882d98cd4cbfd0104f67", func := "tithebarn/tithebarnlaw25.SnapPlays", spec := "snapPlays", inPlace := ["internal/abi.NoEscape"], unfollowed := true, recurses := true, plainKeys := false, apart := false, narrowed := true }
def SnapPlaysUptoSaid : Prop := snapPlaysUptoRow.holds Tryz.pinned (OpenSpec.upto snapPlaysSpec)

/-- 'tithebarnlaw28.WatchEvents', WHERE WHAT IT READS IS OF BULK AT MOST 1048576: true; the input reads as it did. -/
def watchEventsUptoRow : OpenClaim := { program := "ytpomiadgghchnaagreat", sum := "510a3f575634a905d92e4831cc205a5ab3845eb6302e882d98cd4cbfd0104f67", func := "tithebarn/tithebarnlaw28.WatchEvents", spec := "watchEvents", inPlace := ["sync/atomic.LoadUint32", "(*internal/sync.Mutex).Lock", "internal/race.Disable", "sync/atomic.CompareAndSwapInt32", "internal/race.Enable", "internal/race.Acquire", "(*internal/sync.Mutex).lockSlow", "internal/sync.runtime_canSpin", "internal/sync.runtime_doSpin", "internal/sync.throw", "internal/sync.runtime_nanotime", "internal/sync.runtime_SemacquireMutex", "sync/atomic.AddInt32", "(*internal/sync.Mutex).Unlock", "internal/race.ReleaseMerge", "(*internal/sync.Mutex).unlockSlow", "internal/sync.fatal", "internal/sync.runtime_Semrelease", "sync/atomic.StoreUint32", "sync/atomic.AddInt64", "sync/atomic.LoadInt64"], unfollowed := true, recurses := true, plainKeys := false, apart := false, narrowed := true }
def WatchEventsUptoSaid : Prop := watchEventsUptoRow.holds Tryz.pinned (OpenSpec.upto watchEventsSpec)

/-- 'tithebarnlaw28.WatchSteps', WHERE WHAT IT READS IS OF BULK AT MOST 1048576: true; the input reads as it did. -/
def watchStepsUptoRow : OpenClaim := { program := "ytpomiadgghchnaagreat", sum := "510a3f575634a905d92e4831cc205a5ab3845eb6302e882d98cd4cbfd0104f67", func := "tithebarn/tithebarnlaw28.WatchSteps", spec := "watchSteps", inPlace := ["sync/atomic.LoadUint32", "(*internal/sync.Mutex).Lock", "internal/race.Disable", "sync/atomic.CompareAndSwapInt32", "internal/race.Enable", "internal/race.Acquire", "(*internal/sync.Mutex).lockSlow", "internal/sync.runtime_canSpin", "internal/sync.runtime_doSpin", "internal/sync.throw", "internal/sync.runtime_nanotime", "internal/sync.runtime_SemacquireMutex", "sync/atomic.AddInt32", "(*internal/sync.Mutex).Unlock", "internal/race.ReleaseMerge", "(*internal/sync.Mutex).unlockSlow", "internal/sync.fatal", "internal/sync.runtime_Semrelease", "sync/atomic.StoreUint32", "sync/atomic.AddInt64", "sync/atomic.LoadInt64"], unfollowed := true, recurses := true, plainKeys := false, apart := false, narrowed := true }
def WatchStepsUptoSaid : Prop := watchStepsUptoRow.holds Tryz.pinned (OpenSpec.upto watchStepsSpec)

/-- 'tithebarnlaw28.WatchNone', WHERE WHAT IT READS IS OF BULK AT MOST 1048576: true; the input reads as it did. -/
def watchNoneUptoRow : OpenClaim := { program := "ytpomiadgghchnaagreat", sum := "510a3f575634a905d92e4831cc205a5ab3845eb6302e882d98cd4cbfd0104f67", func := "tithebarn/tithebarnlaw28.WatchNone", spec := "watchNone", inPlace := ["sync/atomic.LoadUint32", "(*internal/sync.Mutex).Lock", "internal/race.Disable", "sync/atomic.CompareAndSwapInt32", "internal/race.Enable", "internal/race.Acquire", "(*internal/sync.Mutex).lockSlow", "internal/sync.runtime_canSpin", "internal/sync.runtime_doSpin", "internal/sync.throw", "internal/sync.runtime_nanotime", "internal/sync.runtime_SemacquireMutex", "sync/atomic.AddInt32", "(*internal/sync.Mutex).Unlock", "internal/race.ReleaseMerge", "(*internal/sync.Mutex).unlockSlow", "internal/sync.fatal", "internal/sync.runtime_Semrelease", "sync/atomic.StoreUint32", "sync/atomic.AddInt64", "sync/atomic.LoadInt64"], unfollowed := true, recurses := true, plainKeys := false, apart := false, narrowed := true }
def WatchNoneUptoSaid : Prop := watchNoneUptoRow.holds Tryz.pinned (OpenSpec.upto watchNoneSpec)

/-- 'tithebarnlaw24.StateApplies', WHERE WHAT IT READS IS OF BULK AT MOST 1048576: true; the input reads as it did. -/
def stateAppliesUptoRow : OpenClaim := { program := "ytpomiadgghchnaagreat", sum := "510a3f575634a905d92e4831cc205a5ab3845eb6302e882d98cd4cbfd0104f67", func := "tithebarn/tithebarnlaw24.StateApplies", spec := "stateApplies", inPlace := ["slices.overlaps[tithebarn/api.Pending]", "math/bits.Add64"], unfollowed := true, recurses := true, named := ["math/bits.divideError", "math/bits.overflowError"], plainKeys := false, apart := false, narrowed := true }
def StateAppliesUptoSaid : Prop := stateAppliesUptoRow.holds Tryz.pinned (OpenSpec.upto stateAppliesSpec)

/-- 'tithebarnlaw24.StatePlays', WHERE WHAT IT READS IS OF BULK AT MOST 1048576: true; the input reads as it did. -/
def statePlaysUptoRow : OpenClaim := { program := "ytpomiadgghchnaagreat", sum := "510a3f575634a905d92e4831cc205a5ab3845eb6302e882d98cd4cbfd0104f67", func := "tithebarn/tithebarnlaw24.StatePlays", spec := "statePlays", inPlace := ["slices.overlaps[tithebarn/api.Pending]", "math/bits.Add64"], unfollowed := true, recurses := true, named := ["math/bits.divideError", "math/bits.overflowError"], plainKeys := false, apart := false, narrowed := true }
def StatePlaysUptoSaid : Prop := statePlaysUptoRow.holds Tryz.pinned (OpenSpec.upto statePlaysSpec)

/-- 'tithebarnlaw24.StateRefused', WHERE WHAT IT READS IS OF BULK AT MOST 1048576: true; the input reads as it did. -/
def stateRefusedUptoRow : OpenClaim := { program := "ytpomiadgghchnaagreat", sum := "510a3f575634a905d92e4831cc205a5ab3845eb6302e882d98cd4cbfd0104f67", func := "tithebarn/tithebarnlaw24.StateRefused", spec := "stateRefused", inPlace := ["slices.overlaps[tithebarn/api.Pending]", "math/bits.Add64"], unfollowed := true, recurses := true, named := ["math/bits.divideError", "math/bits.overflowError"], plainKeys := false, apart := false, narrowed := true }
def StateRefusedUptoSaid : Prop := stateRefusedUptoRow.holds Tryz.pinned (OpenSpec.upto stateRefusedSpec)

/-- 'tithebarnlaw24.StateSafe', WHERE WHAT IT READS IS OF BULK AT MOST 1048576: true; the input reads as it did. -/
def stateSafeUptoRow : OpenClaim := { program := "ytpomiadgghchnaagreat", sum := "510a3f575634a905d92e4831cc205a5ab3845eb6302e882d98cd4cbfd0104f67", func := "tithebarn/tithebarnlaw24.StateSafe", spec := "stateSafe", inPlace := ["slices.overlaps[tithebarn/api.Pending]", "math/bits.Add64"], unfollowed := true, recurses := true, named := ["math/bits.divideError", "math/bits.overflowError"], plainKeys := false, apart := false, narrowed := true }
def StateSafeUptoSaid : Prop := stateSafeUptoRow.holds Tryz.pinned (OpenSpec.upto stateSafeSpec)

/-- 'tithebarnlaw24.StateSame', WHERE WHAT IT READS IS OF BULK AT MOST 1048576: true; the input reads as it did. -/
def stateSameUptoRow : OpenClaim := { program := "ytpomiadgghchnaagreat", sum := "510a3f575634a905d92e4831cc205a5ab3845eb6302e882d98cd4cbfd0104f67", func := "tithebarn/tithebarnlaw24.StateSame", spec := "stateSame", inPlace := ["slices.overlaps[tithebarn/api.Pending]", "math/bits.Add64"], unfollowed := true, recurses := true, named := ["math/bits.divideError", "math/bits.overflowError"], plainKeys := false, apart := false, narrowed := true }
def StateSameUptoSaid : Prop := stateSameUptoRow.holds Tryz.pinned (OpenSpec.upto stateSameSpec)

/-- 'tithebarnlaw24.StateTicks', WHERE WHAT IT READS IS OF BULK AT MOST 1048576: true; the input reads as it did. -/
def stateTicksUptoRow : OpenClaim := { program := "ytpomiadgghchnaagreat", sum := "510a3f575634a905d92e4831cc205a5ab3845eb6302e882d98cd4cbfd0104f67", func := "tithebarn/tithebarnlaw24.StateTicks", spec := "stateTicks", inPlace := ["slices.overlaps[tithebarn/api.Pending]", "math/bits.Add64"], unfollowed := true, recurses := true, named := ["math/bits.divideError", "math/bits.overflowError"], plainKeys := false, apart := false, narrowed := true }
def StateTicksUptoSaid : Prop := stateTicksUptoRow.holds Tryz.pinned (OpenSpec.upto stateTicksSpec)

/-- 'tithebarnlaw24.StateGoes', WHERE WHAT IT READS IS OF BULK AT MOST 1048576: true; the input reads as it did. -/
def stateGoesUptoRow : OpenClaim := { program := "ytpomiadgghchnaagreat", sum := "510a3f575634a905d92e4831cc205a5ab3845eb6302e882d98cd4cbfd0104f67", func := "tithebarn/tithebarnlaw24.StateGoes", spec := "stateGoes", inPlace := ["slices.overlaps[tithebarn/api.Pending]", "math/bits.Add64"], unfollowed := true, recurses := true, named := ["math/bits.divideError", "math/bits.overflowError"], plainKeys := false, apart := false, narrowed := true }
def StateGoesUptoSaid : Prop := stateGoesUptoRow.holds Tryz.pinned (OpenSpec.upto stateGoesSpec)

end Rows
end Go.Proofs.YtpomiadgghchnaaGreat
