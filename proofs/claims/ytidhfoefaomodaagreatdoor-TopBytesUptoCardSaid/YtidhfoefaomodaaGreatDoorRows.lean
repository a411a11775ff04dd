/-
  NARROWER THAN 'FOR EVERY INPUT', by the rows' own cells (each row's printed sentence says how): TopOrder: laid · TopSnaps: laid · StoreKeeps: laid · StoreNone: laid · DriverWhole: laid · DriverCrashes: laid · DriverNone: laid · TopSafe: laid · TopBytes: laid.
  DERIVED. THE GIVEN ROWS OF THIS SEAT. 9 by the template 'for every input the law returns true; each argument reads behind the call as it read before'; 0 by the template 'total and deterministic' (their statements: YtidhfoefaomodaaGreatDoorTotals.lean).
  GIVEN WITH THE SEED: the statements are not yours to turn. If you find one false, say at which input.
  Laid BY PROGRAM, IN A SANDBOX (cutbox-rows.mjs): the forced cells as the released guide's own fill.sh prints them over the translation d02c465390201597… (all of the seat's roots in one cut). By AI agents, Wed Nov 11 2026. No macro, syntax, notation, axiom, sorry.
-/
import Derived.Test.YtidhfoefaomodaaGreatDoorChecked
import GoSem.Claim
import GoSem.ClaimJoined
import GoSem.ClaimMapViews
import Derived.JoinedTies
import Derived.KernelRfl
namespace Go.Proofs.YtidhfoefaomodaaGreatDoor
/- THE CELL 'sum', in the pinned program and in every row, IS THE sha256 OF THE DUMP (.gsa) THAT YtidhfoefaomodaaGreatDoorProg.lean LOADS. Nothing in Lean hashes anything: it is a label: what it is worth is what the hold of that sum in a sandbox is worth. -/
noncomputable def Tryz.pinned : Pinned := { name := "ytidhfoefaomodaagreatdoor", sum := "d02c46539020159708af7dfd190dd4ed0c87f328487ee1b1d1a270678795594c", checked := Tryz.checked }
namespace Rows
def none {H : Type} : Left H := { results := [], args := [] }

/- WHAT THE LISTED PACKAGE-LEVEL VARIABLES READ AS WHEN THE CALL BEGINS. Each datum BY PROGRAM (the guide's laid-datum.mjs) off the statement by which the dump's own 'gosem.cut.vars' lays the variable. In a bare row this is a premise. The card (YtidhfoefaomodaaGreatDoorCards.lean) ties it to the program's text. -/
def laid_tithebarn_store_errBad {H : Type} : DataW H := .iface "*errors.errorString" (.ptr (.agg [.lit (.string [115, 116, 111, 114, 101, 58, 32, 110, 111, 32, 114, 101, 99, 111, 114, 100])]))

/-- 'tithebarntop.TopOrder': WHATEVER THE INPUT: true; the input reads as it did. -/
def topOrderSpec : ChangeSpec := { name := "topOrder", fn := fun _ => fun
  | [d] => { results := [.lit (.bool true)], args := [d] }
  | _ => none }
def topOrderRow : OpenClaim := { program := "ytidhfoefaomodaagreatdoor", sum := "d02c46539020159708af7dfd190dd4ed0c87f328487ee1b1d1a270678795594c", func := "tithebarn/tithebarntop.TopOrder", spec := "topOrder", inPlace := ["slices.overlaps[tithebarn/api.Pending]", "math/bits.Add64", "internal/reflectlite.TypeOf", "internal/abi.NoEscape"], unfollowed := true, recurses := true, named := ["math/bits.divideError", "math/bits.overflowError", "tithebarn/store.errBad"], plainKeys := false, apart := false, laid := [("tithebarn/store.errBad", laid_tithebarn_store_errBad)] }
def TopOrderSaid : Prop := topOrderRow.holds Tryz.pinned (OpenSpec.ofChange topOrderSpec)

/-- ITS FALSE NEIGHBOUR: 'it returns false'. Refute it at one input. -/
def topOrderWrong : ChangeSpec := { name := "topOrder", fn := fun _ => fun
  | [d] => { results := [.lit (.bool false)], args := [d] }
  | _ => none }
def TopOrderWrongFalsely : Prop := topOrderRow.holds Tryz.pinned (OpenSpec.ofChange topOrderWrong)

/-- 'tithebarntop.TopSnaps': WHATEVER THE INPUT: true; the input reads as it did. -/
def topSnapsSpec : ChangeSpec := { name := "topSnaps", fn := fun _ => fun
  | [d] => { results := [.lit (.bool true)], args := [d] }
  | _ => none }
def topSnapsRow : OpenClaim := { program := "ytidhfoefaomodaagreatdoor", sum := "d02c46539020159708af7dfd190dd4ed0c87f328487ee1b1d1a270678795594c", func := "tithebarn/tithebarntop.TopSnaps", spec := "topSnaps", inPlace := ["slices.overlaps[tithebarn/api.Pending]", "math/bits.Add64", "internal/reflectlite.TypeOf", "internal/abi.NoEscape"], unfollowed := true, recurses := true, named := ["tithebarn/store.errBad", "math/bits.divideError", "math/bits.overflowError"], plainKeys := false, apart := false, laid := [("tithebarn/store.errBad", laid_tithebarn_store_errBad)] }
def TopSnapsSaid : Prop := topSnapsRow.holds Tryz.pinned (OpenSpec.ofChange topSnapsSpec)

/-- ITS FALSE NEIGHBOUR: 'it returns false'. Refute it at one input. -/
def topSnapsWrong : ChangeSpec := { name := "topSnaps", fn := fun _ => fun
  | [d] => { results := [.lit (.bool false)], args := [d] }
  | _ => none }
def TopSnapsWrongFalsely : Prop := topSnapsRow.holds Tryz.pinned (OpenSpec.ofChange topSnapsWrong)

/-- 'tithebarnlaw26.StoreKeeps': WHATEVER THE INPUT: true; the input reads as it did. -/
def storeKeepsSpec : ChangeSpec := { name := "storeKeeps", fn := fun _ => fun
  | [d1, d2] => { results := [.lit (.bool true)], args := [d1, d2] }
  | _ => none }
def storeKeepsRow : OpenClaim := { program := "ytidhfoefaomodaagreatdoor", sum := "d02c46539020159708af7dfd190dd4ed0c87f328487ee1b1d1a270678795594c", func := "tithebarn/tithebarnlaw26.StoreKeeps", spec := "storeKeeps", inPlace := ["slices.overlaps[tithebarn/api.Pending]", "math/bits.Add64", "internal/reflectlite.TypeOf", "internal/abi.NoEscape"], unfollowed := true, recurses := true, named := ["tithebarn/store.errBad", "math/bits.divideError", "math/bits.overflowError"], plainKeys := false, apart := false, laid := [("tithebarn/store.errBad", laid_tithebarn_store_errBad)] }
def StoreKeepsSaid : Prop := storeKeepsRow.holds Tryz.pinned (OpenSpec.ofChange storeKeepsSpec)

/-- ITS FALSE NEIGHBOUR: 'it returns false'. Refute it at one input. -/
def storeKeepsWrong : ChangeSpec := { name := "storeKeeps", fn := fun _ => fun
  | [d1, d2] => { results := [.lit (.bool false)], args := [d1, d2] }
  | _ => none }
def StoreKeepsWrongFalsely : Prop := storeKeepsRow.holds Tryz.pinned (OpenSpec.ofChange storeKeepsWrong)

/-- 'tithebarnlaw26.StoreNone': WHATEVER THE INPUT: true; the input reads as it did. -/
def storeNoneSpec : ChangeSpec := { name := "storeNone", fn := fun _ => fun
  | [d] => { results := [.lit (.bool true)], args := [d] }
  | _ => none }
def storeNoneRow : OpenClaim := { program := "ytidhfoefaomodaagreatdoor", sum := "d02c46539020159708af7dfd190dd4ed0c87f328487ee1b1d1a270678795594c", func := "tithebarn/tithebarnlaw26.StoreNone", spec := "storeNone", inPlace := ["slices.overlaps[tithebarn/api.Pending]", "math/bits.Add64", "internal/abi.NoEscape", "internal/reflectlite.TypeOf"], unfollowed := true, recurses := true, named := ["math/bits.divideError", "math/bits.overflowError", "tithebarn/store.errBad"], plainKeys := false, apart := false, laid := [("tithebarn/store.errBad", laid_tithebarn_store_errBad)] }
def StoreNoneSaid : Prop := storeNoneRow.holds Tryz.pinned (OpenSpec.ofChange storeNoneSpec)

/-- ITS FALSE NEIGHBOUR: 'it returns false'. Refute it at one input. -/
def storeNoneWrong : ChangeSpec := { name := "storeNone", fn := fun _ => fun
  | [d] => { results := [.lit (.bool false)], args := [d] }
  | _ => none }
def StoreNoneWrongFalsely : Prop := storeNoneRow.holds Tryz.pinned (OpenSpec.ofChange storeNoneWrong)

/-- 'tithebarnlaw27.DriverWhole': WHATEVER THE INPUT: true; the input reads as it did. -/
def driverWholeSpec : ChangeSpec := { name := "driverWhole", fn := fun _ => fun
  | [d1, d2] => { results := [.lit (.bool true)], args := [d1, d2] }
  | _ => none }
def driverWholeRow : OpenClaim := { program := "ytidhfoefaomodaagreatdoor", sum := "d02c46539020159708af7dfd190dd4ed0c87f328487ee1b1d1a270678795594c", func := "tithebarn/tithebarnlaw27.DriverWhole", spec := "driverWhole", inPlace := ["slices.overlaps[tithebarn/api.Pending]", "math/bits.Add64", "internal/reflectlite.TypeOf", "internal/abi.NoEscape"], unfollowed := true, recurses := true, named := ["tithebarn/store.errBad", "math/bits.divideError", "math/bits.overflowError"], plainKeys := false, apart := false, laid := [("tithebarn/store.errBad", laid_tithebarn_store_errBad)] }
def DriverWholeSaid : Prop := driverWholeRow.holds Tryz.pinned (OpenSpec.ofChange driverWholeSpec)

/-- ITS FALSE NEIGHBOUR: 'it returns false'. Refute it at one input. -/
def driverWholeWrong : ChangeSpec := { name := "driverWhole", fn := fun _ => fun
  | [d1, d2] => { results := [.lit (.bool false)], args := [d1, d2] }
  | _ => none }
def DriverWholeWrongFalsely : Prop := driverWholeRow.holds Tryz.pinned (OpenSpec.ofChange driverWholeWrong)

/-- 'tithebarnlaw27.DriverCrashes': WHATEVER THE INPUT: true; the input reads as it did. -/
def driverCrashesSpec : ChangeSpec := { name := "driverCrashes", fn := fun _ => fun
  | [d1, d2] => { results := [.lit (.bool true)], args := [d1, d2] }
  | _ => none }
def driverCrashesRow : OpenClaim := { program := "ytidhfoefaomodaagreatdoor", sum := "d02c46539020159708af7dfd190dd4ed0c87f328487ee1b1d1a270678795594c", func := "tithebarn/tithebarnlaw27.DriverCrashes", spec := "driverCrashes", inPlace := ["slices.overlaps[tithebarn/api.Pending]", "math/bits.Add64", "internal/reflectlite.TypeOf", "internal/abi.NoEscape"], unfollowed := true, recurses := true, named := ["tithebarn/store.errBad", "math/bits.divideError", "math/bits.overflowError"], plainKeys := false, apart := false, laid := [("tithebarn/store.errBad", laid_tithebarn_store_errBad)] }
def DriverCrashesSaid : Prop := driverCrashesRow.holds Tryz.pinned (OpenSpec.ofChange driverCrashesSpec)

/-- ITS FALSE NEIGHBOUR: 'it returns false'. Refute it at one input. -/
def driverCrashesWrong : ChangeSpec := { name := "driverCrashes", fn := fun _ => fun
  | [d1, d2] => { results := [.lit (.bool false)], args := [d1, d2] }
  | _ => none }
def DriverCrashesWrongFalsely : Prop := driverCrashesRow.holds Tryz.pinned (OpenSpec.ofChange driverCrashesWrong)

/-- 'tithebarnlaw27.DriverNone': WHATEVER THE INPUT: true; the input reads as it did. -/
def driverNoneSpec : ChangeSpec := { name := "driverNone", fn := fun _ => fun
  | [d] => { results := [.lit (.bool true)], args := [d] }
  | _ => none }
def driverNoneRow : OpenClaim := { program := "ytidhfoefaomodaagreatdoor", sum := "d02c46539020159708af7dfd190dd4ed0c87f328487ee1b1d1a270678795594c", func := "tithebarn/tithebarnlaw27.DriverNone", spec := "driverNone", inPlace := ["slices.overlaps[tithebarn/api.Pending]", "math/bits.Add64", "internal/abi.NoEscape", "internal/reflectlite.TypeOf"], unfollowed := true, recurses := true, named := ["math/bits.divideError", "math/bits.overflowError", "tithebarn/store.errBad"], plainKeys := false, apart := false, laid := [("tithebarn/store.errBad", laid_tithebarn_store_errBad)] }
def DriverNoneSaid : Prop := driverNoneRow.holds Tryz.pinned (OpenSpec.ofChange driverNoneSpec)

/-- ITS FALSE NEIGHBOUR: 'it returns false'. Refute it at one input. -/
def driverNoneWrong : ChangeSpec := { name := "driverNone", fn := fun _ => fun
  | [d] => { results := [.lit (.bool false)], args := [d] }
  | _ => none }
def DriverNoneWrongFalsely : Prop := driverNoneRow.holds Tryz.pinned (OpenSpec.ofChange driverNoneWrong)

/-- 'tithebarntop.TopSafe': WHATEVER THE INPUT: true; the input reads as it did. -/
def topSafeSpec : ChangeSpec := { name := "topSafe", fn := fun _ => fun
  | [d1, d2] => { results := [.lit (.bool true)], args := [d1, d2] }
  | _ => none }
def topSafeRow : OpenClaim := { program := "ytidhfoefaomodaagreatdoor", sum := "d02c46539020159708af7dfd190dd4ed0c87f328487ee1b1d1a270678795594c", func := "tithebarn/tithebarntop.TopSafe", spec := "topSafe", inPlace := ["slices.overlaps[tithebarn/api.Pending]", "math/bits.Add64", "internal/reflectlite.TypeOf", "internal/abi.NoEscape"], unfollowed := true, recurses := true, named := ["tithebarn/store.errBad", "math/bits.divideError", "math/bits.overflowError"], plainKeys := false, apart := false, laid := [("tithebarn/store.errBad", laid_tithebarn_store_errBad)] }
def TopSafeSaid : Prop := topSafeRow.holds Tryz.pinned (OpenSpec.ofChange topSafeSpec)

/-- ITS FALSE NEIGHBOUR: 'it returns false'. Refute it at one input. -/
def topSafeWrong : ChangeSpec := { name := "topSafe", fn := fun _ => fun
  | [d1, d2] => { results := [.lit (.bool false)], args := [d1, d2] }
  | _ => none }
def TopSafeWrongFalsely : Prop := topSafeRow.holds Tryz.pinned (OpenSpec.ofChange topSafeWrong)

/-- 'tithebarntop.TopBytes': WHATEVER THE INPUT: true; the input reads as it did. -/
def topBytesSpec : ChangeSpec := { name := "topBytes", fn := fun _ => fun
  | [d] => { results := [.lit (.bool true)], args := [d] }
  | _ => none }
def topBytesRow : OpenClaim := { program := "ytidhfoefaomodaagreatdoor", sum := "d02c46539020159708af7dfd190dd4ed0c87f328487ee1b1d1a270678795594c", func := "tithebarn/tithebarntop.TopBytes", spec := "topBytes", inPlace := ["slices.overlaps[tithebarn/api.Pending]", "math/bits.Add64", "internal/reflectlite.TypeOf", "internal/abi.NoEscape"], unfollowed := true, recurses := true, named := ["tithebarn/store.errBad", "math/bits.divideError", "math/bits.overflowError"], plainKeys := false, apart := false, laid := [("tithebarn/store.errBad", laid_tithebarn_store_errBad)] }
def TopBytesSaid : Prop := topBytesRow.holds Tryz.pinned (OpenSpec.ofChange topBytesSpec)

/-- ITS FALSE NEIGHBOUR: 'it returns false'. Refute it at one input. -/
def topBytesWrong : ChangeSpec := { name := "topBytes", fn := fun _ => fun
  | [d] => { results := [.lit (.bool false)], args := [d] }
  | _ => none }
def TopBytesWrongFalsely : Prop := topBytesRow.holds Tryz.pinned (OpenSpec.ofChange topBytesWrong)

/- THE SECOND FORM. 'bulk': how many values and letters a reading holds, each counted each time it is reached (what is shared counts as often as it is met; a slice's spare places count too). A statement '..UptoSaid' is the law's where the arguments, and the package variables that the reading takes, are together of bulk at most 1048576: NARROWER than '..Said'. Prove '..Said' where nothing that the law and all that it calls make is longer than what came in: it says more and counts as full. Else prove '..UptoSaid'. A law counts once. -/
mutual
def uptoBulk {H : Type} : DataW H → Nat
  | .lit (.string bytes) => bytes.length + 1
  | .lit _ => 1
  | .nil => 1
  | .ptr d => uptoBulk d + 1
  | .slice elems spare => uptoBulkAll elems + uptoBulkAll spare + 1
  | .agg parts => uptoBulkAll parts + 1
  | .iface _ d => uptoBulk d + 1
  | .map entries => uptoBulkEntries entries + 1
  | .held _ => 1
def uptoBulkAll {H : Type} : List (DataW H) → Nat
  | [] => 0
  | d :: r => uptoBulk d + uptoBulkAll r
def uptoBulkEntries {H : Type} : List (Lit × DataW H) → Nat
  | [] => 0
  | x :: r => uptoBulkEntry x + uptoBulkEntries r
def uptoBulkEntry {H : Type} : Lit × DataW H → Nat
  | (.string bytes, d) => bytes.length + uptoBulk d + 1
  | (_, d) => uptoBulk d + 1
 end
def uptoSmall : (H : Type) → List (DataW H) → Bool := fun _ ds => decide (uptoBulkAll ds ≤ 1048576)
def OpenSpec.upto (s : _root_.Go.ChangeSpec) : _root_.Go.OpenSpec := { _root_.Go.OpenSpec.ofChange s with cond := some uptoSmall }

/-- 'tithebarntop.TopOrder', WHERE WHAT IT READS IS OF BULK AT MOST 1048576: true; the input reads as it did. -/
def topOrderUptoRow : OpenClaim := { program := "ytidhfoefaomodaagreatdoor", sum := "d02c46539020159708af7dfd190dd4ed0c87f328487ee1b1d1a270678795594c", func := "tithebarn/tithebarntop.TopOrder", spec := "topOrder", inPlace := ["slices.overlaps[tithebarn/api.Pending]", "math/bits.Add64", "internal/reflectlite.TypeOf", "internal/abi.NoEscape"], unfollowed := true, recurses := true, named := ["math/bits.divideError", "math/bits.overflowError", "tithebarn/store.errBad"], plainKeys := false, apart := false, laid := [("tithebarn/store.errBad", laid_tithebarn_store_errBad)], narrowed := true }
def TopOrderUptoSaid : Prop := topOrderUptoRow.holds Tryz.pinned (OpenSpec.upto topOrderSpec)

/-- 'tithebarntop.TopSnaps', WHERE WHAT IT READS IS OF BULK AT MOST 1048576: true; the input reads as it did. -/
def topSnapsUptoRow : OpenClaim := { program := "ytidhfoefaomodaagreatdoor", sum := "d02c46539020159708af7dfd190dd4ed0c87f328487ee1b1d1a270678795594c", func := "tithebarn/tithebarntop.TopSnaps", spec := "topSnaps", inPlace := ["slices.overlaps[tithebarn/api.Pending]", "math/bits.Add64", "internal/reflectlite.TypeOf", "internal/abi.NoEscape"], unfollowed := true, recurses := true, named := ["tithebarn/store.errBad", "math/bits.divideError", "math/bits.overflowError"], plainKeys := false, apart := false, laid := [("tithebarn/store.errBad", laid_tithebarn_store_errBad)], narrowed := true }
def TopSnapsUptoSaid : Prop := topSnapsUptoRow.holds Tryz.pinned (OpenSpec.upto topSnapsSpec)

/-- 'tithebarnlaw26.StoreKeeps', WHERE WHAT IT READS IS OF BULK AT MOST 1048576: true; the input reads as it did. -/
def storeKeepsUptoRow : OpenClaim := { program := "ytidhfoefaomodaagreatdoor", sum := "d02c46539020159708af7dfd190dd4ed0c87f328487ee1b1d1a270678795594c", func := "tithebarn/tithebarnlaw26.StoreKeeps", spec := "storeKeeps", inPlace := ["slices.overlaps[tithebarn/api.Pending]", "math/bits.Add64", "internal/reflectlite.TypeOf", "internal/abi.NoEscape"], unfollowed := true, recurses := true, named := ["tithebarn/store.errBad", "math/bits.divideError", "math/bits.overflowError"], plainKeys := false, apart := false, laid := [("tithebarn/store.errBad", laid_tithebarn_store_errBad)], narrowed := true }
def StoreKeepsUptoSaid : Prop := storeKeepsUptoRow.holds Tryz.pinned (OpenSpec.upto storeKeepsSpec)

/-- 'tithebarnlaw26.StoreNone', WHERE WHAT IT READS IS OF BULK AT MOST 1048576: true; the input reads as it did. -/
def storeNoneUptoRow : OpenClaim := { program := "ytidhfoefaomodaagreatdoor", sum := "d02c46539020159708af7dfd190dd4ed0c87f328487ee1b1d1a270678795594c", func := "tithebarn/tithebarnlaw26.StoreNone", spec := "storeNone", inPlace := ["slices.overlaps[tithebarn/api.Pending]", "math/bits.Add64", "internal/abi.NoEscape", "internal/reflectlite.TypeOf"], unfollowed := true, recurses := true, named := ["math/bits.divideError", "math/bits.overflowError", "tithebarn/store.errBad"], plainKeys := false, apart := false, laid := [("tithebarn/store.errBad", laid_tithebarn_store_errBad)], narrowed := true }
def StoreNoneUptoSaid : Prop := storeNoneUptoRow.holds Tryz.pinned (OpenSpec.upto storeNoneSpec)

/-- 'tithebarnlaw27.DriverWhole', WHERE WHAT IT READS IS OF BULK AT MOST 1048576: true; the input reads as it did. -/
def driverWholeUptoRow : OpenClaim := { program := "ytidhfoefaomodaagreatdoor", sum := "d02c46539020159708af7dfd190dd4ed0c87f328487ee1b1d1a270678795594c", func := "tithebarn/tithebarnlaw27.DriverWhole", spec := "driverWhole", inPlace := ["slices.overlaps[tithebarn/api.Pending]", "math/bits.Add64", "internal/reflectlite.TypeOf", "internal/abi.NoEscape"], unfollowed := true, recurses := true, named := ["tithebarn/store.errBad", "math/bits.divideError", "math/bits.overflowError"], plainKeys := false, apart := false, laid := [("tithebarn/store.errBad", laid_tithebarn_store_errBad)], narrowed := true }
def DriverWholeUptoSaid : Prop := driverWholeUptoRow.holds Tryz.pinned (OpenSpec.upto driverWholeSpec)

/-- 'tithebarnlaw27.DriverCrashes', WHERE WHAT IT READS IS OF BULK AT MOST 1048576: true; the input reads as it did. -/
def driverCrashesUptoRow : OpenClaim := { program := "ytidhfoefaomodaagreatdoor", sum := "d02c46539020159708af7dfd190dd4ed0c87f328487ee1b1d1a270678795594c", func := "tithebarn/tithebarnlaw27.DriverCrashes", spec := "driverCrashes", inPlace := ["slices.overlaps[tithebarn/api.Pending]", "math/bits.Add64", "internal/reflectlite.TypeOf", "internal/abi.NoEscape"], unfollowed := true, recurses := true, named := ["tithebarn/store.errBad", "math/bits.divideError", "math/bits.overflowError"], plainKeys := false, apart := false, laid := [("tithebarn/store.errBad", laid_tithebarn_store_errBad)], narrowed := true }
def DriverCrashesUptoSaid : Prop := driverCrashesUptoRow.holds Tryz.pinned (OpenSpec.upto driverCrashesSpec)

/-- 'tithebarnlaw27.DriverNone', WHERE WHAT IT READS IS OF BULK AT MOST 1048576: true; the input reads as it did. -/
def driverNoneUptoRow : OpenClaim := { program := "ytidhfoefaomodaagreatdoor", sum := "d02c46539020159708af7dfd190dd4ed0c87f328487ee1b1d1a270678795594c", func := "tithebarn/tithebarnlaw27.DriverNone", spec := "driverNone", inPlace := ["slices.overlaps[tithebarn/api.Pending]", "math/bits.Add64", "internal/abi.NoEscape", "internal/reflectlite.TypeOf"], unfollowed := true, recurses := true, named := ["math/bits.divideError", "math/bits.overflowError", "tithebarn/store.errBad"], plainKeys := false, apart := false, laid := [("tithebarn/store.errBad", laid_tithebarn_store_errBad)], narrowed := true }
def DriverNoneUptoSaid : Prop := driverNoneUptoRow.holds Tryz.pinned (OpenSpec.upto driverNoneSpec)

/-- 'tithebarntop.TopSafe', WHERE WHAT IT READS IS OF BULK AT MOST 1048576: true; the input reads as it did. -/
def topSafeUptoRow : OpenClaim := { program := "ytidhfoefaomodaagreatdoor", sum := "d02c46539020159708af7dfd190dd4ed0c87f328487ee1b1d1a270678795594c", func := "tithebarn/tithebarntop.TopSafe", spec := "topSafe", inPlace := ["slices.overlaps[tithebarn/api.Pending]", "math/bits.Add64", "internal/reflectlite.TypeOf", "internal/abi.NoEscape"], unfollowed := true, recurses := true, named := ["tithebarn/store.errBad", "math/bits.divideError", "math/bits.overflowError"], plainKeys := false, apart := false, laid := [("tithebarn/store.errBad", laid_tithebarn_store_errBad)], narrowed := true }
def TopSafeUptoSaid : Prop := topSafeUptoRow.holds Tryz.pinned (OpenSpec.upto topSafeSpec)

/-- 'tithebarntop.TopBytes', WHERE WHAT IT READS IS OF BULK AT MOST 1048576: true; the input reads as it did. -/
def topBytesUptoRow : OpenClaim := { program := "ytidhfoefaomodaagreatdoor", sum := "d02c46539020159708af7dfd190dd4ed0c87f328487ee1b1d1a270678795594c", func := "tithebarn/tithebarntop.TopBytes", spec := "topBytes", inPlace := ["slices.overlaps[tithebarn/api.Pending]", "math/bits.Add64", "internal/reflectlite.TypeOf", "internal/abi.NoEscape"], unfollowed := true, recurses := true, named := ["tithebarn/store.errBad", "math/bits.divideError", "math/bits.overflowError"], plainKeys := false, apart := false, laid := [("tithebarn/store.errBad", laid_tithebarn_store_errBad)], narrowed := true }
def TopBytesUptoSaid : Prop := topBytesUptoRow.holds Tryz.pinned (OpenSpec.upto topBytesSpec)

end Rows
end Go.Proofs.YtidhfoefaomodaaGreatDoor
