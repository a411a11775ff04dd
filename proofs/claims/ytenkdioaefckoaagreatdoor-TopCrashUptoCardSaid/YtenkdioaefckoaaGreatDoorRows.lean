/-
  NARROWER THAN 'FOR EVERY INPUT', by the rows' own cells (each row's printed sentence says how): TopCrash: laid · StoreFull: laid · StoreTorn: laid · DriverTorn: laid.
  DERIVED. THE GIVEN ROWS OF THIS SEAT. 4 by the template 'for every input the law returns true; each argument reads behind the call as it read before'; 0 by the template 'total and deterministic' (their statements: YtenkdioaefckoaaGreatDoorTotals.lean).
  GIVEN WITH THE SEED: the statements are not yours to turn. If you find one false, say at which input.
  Laid BY PROGRAM, IN A SANDBOX (cutbox-rows.mjs): the forced cells as the released guide's own fill.sh prints them over the translation 44359b364a33c65f… (all of the seat's roots in one cut). By AI agents, Wed Nov 11 2026. No macro, syntax, notation, axiom, sorry.
-/
import Derived.Test.YtenkdioaefckoaaGreatDoorChecked
import GoSem.Claim
import GoSem.ClaimJoined
import GoSem.ClaimMapViews
import Derived.JoinedTies
import Derived.KernelRfl
namespace Go.Proofs.YtenkdioaefckoaaGreatDoor
/- THE CELL 'sum', in the pinned program and in every row, IS THE sha256 OF THE DUMP (.gsa) THAT YtenkdioaefckoaaGreatDoorProg.lean LOADS. Nothing in Lean hashes anything: it is a label: what it is worth is what the hold of that sum in a sandbox is worth. -/
noncomputable def Tryz.pinned : Pinned := { name := "ytenkdioaefckoaagreatdoor", sum := "44359b364a33c65fe147a6eb9c34bb61f3dd4c6231e10d85ef031b27064be1b8", checked := Tryz.checked }
namespace Rows
def none {H : Type} : Left H := { results := [], args := [] }

/- WHAT THE LISTED PACKAGE-LEVEL VARIABLES READ AS WHEN THE CALL BEGINS. Each datum BY PROGRAM (the guide's laid-datum.mjs) off the statement by which the dump's own 'gosem.cut.vars' lays the variable. In a bare row this is a premise. The card (YtenkdioaefckoaaGreatDoorCards.lean) ties it to the program's text. -/
def laid_tithebarn_store_errBad {H : Type} : DataW H := .iface "*errors.errorString" (.ptr (.agg [.lit (.string [115, 116, 111, 114, 101, 58, 32, 110, 111, 32, 114, 101, 99, 111, 114, 100])]))

/-- 'tithebarntop.TopCrash': WHATEVER THE INPUT: true; the input reads as it did. -/
def topCrashSpec : ChangeSpec := { name := "topCrash", fn := fun _ => fun
  | [d] => { results := [.lit (.bool true)], args := [d] }
  | _ => none }
def topCrashRow : OpenClaim := { program := "ytenkdioaefckoaagreatdoor", sum := "44359b364a33c65fe147a6eb9c34bb61f3dd4c6231e10d85ef031b27064be1b8", func := "tithebarn/tithebarntop.TopCrash", spec := "topCrash", inPlace := ["slices.overlaps[tithebarn/api.Pending]", "math/bits.Add64", "internal/reflectlite.TypeOf", "internal/abi.NoEscape"], unfollowed := true, recurses := true, named := ["tithebarn/store.errBad", "math/bits.divideError", "math/bits.overflowError"], plainKeys := false, apart := false, laid := [("tithebarn/store.errBad", laid_tithebarn_store_errBad)] }
def TopCrashSaid : Prop := topCrashRow.holds Tryz.pinned (OpenSpec.ofChange topCrashSpec)

/-- ITS FALSE NEIGHBOUR: 'it returns false'. Refute it at one input. -/
def topCrashWrong : ChangeSpec := { name := "topCrash", fn := fun _ => fun
  | [d] => { results := [.lit (.bool false)], args := [d] }
  | _ => none }
def TopCrashWrongFalsely : Prop := topCrashRow.holds Tryz.pinned (OpenSpec.ofChange topCrashWrong)

/-- 'tithebarnlaw26.StoreFull': WHATEVER THE INPUT: true; the input reads as it did. -/
def storeFullSpec : ChangeSpec := { name := "storeFull", fn := fun _ => fun
  | [d1, d2] => { results := [.lit (.bool true)], args := [d1, d2] }
  | _ => none }
def storeFullRow : OpenClaim := { program := "ytenkdioaefckoaagreatdoor", sum := "44359b364a33c65fe147a6eb9c34bb61f3dd4c6231e10d85ef031b27064be1b8", func := "tithebarn/tithebarnlaw26.StoreFull", spec := "storeFull", inPlace := ["slices.overlaps[tithebarn/api.Pending]", "math/bits.Add64", "internal/reflectlite.TypeOf", "internal/abi.NoEscape"], unfollowed := true, recurses := true, named := ["tithebarn/store.errBad", "math/bits.divideError", "math/bits.overflowError"], plainKeys := false, apart := false, laid := [("tithebarn/store.errBad", laid_tithebarn_store_errBad)] }
def StoreFullSaid : Prop := storeFullRow.holds Tryz.pinned (OpenSpec.ofChange storeFullSpec)

/-- ITS FALSE NEIGHBOUR: 'it returns false'. Refute it at one input. -/
def storeFullWrong : ChangeSpec := { name := "storeFull", fn := fun _ => fun
  | [d1, d2] => { results := [.lit (.bool false)], args := [d1, d2] }
  | _ => none }
def StoreFullWrongFalsely : Prop := storeFullRow.holds Tryz.pinned (OpenSpec.ofChange storeFullWrong)

/-- 'tithebarnlaw26.StoreTorn': WHATEVER THE INPUT: true; the input reads as it did. -/
def storeTornSpec : ChangeSpec := { name := "storeTorn", fn := fun _ => fun
  | [d1, d2, d3] => { results := [.lit (.bool true)], args := [d1, d2, d3] }
  | _ => none }
def storeTornRow : OpenClaim := { program := "ytenkdioaefckoaagreatdoor", sum := "44359b364a33c65fe147a6eb9c34bb61f3dd4c6231e10d85ef031b27064be1b8", func := "tithebarn/tithebarnlaw26.StoreTorn", spec := "storeTorn", inPlace := ["slices.overlaps[tithebarn/api.Pending]", "math/bits.Add64", "internal/reflectlite.TypeOf", "internal/abi.NoEscape"], unfollowed := true, recurses := true, named := ["tithebarn/store.errBad", "math/bits.divideError", "math/bits.overflowError"], plainKeys := false, apart := false, laid := [("tithebarn/store.errBad", laid_tithebarn_store_errBad)] }
def StoreTornSaid : Prop := storeTornRow.holds Tryz.pinned (OpenSpec.ofChange storeTornSpec)

/-- ITS FALSE NEIGHBOUR: 'it returns false'. Refute it at one input. -/
def storeTornWrong : ChangeSpec := { name := "storeTorn", fn := fun _ => fun
  | [d1, d2, d3] => { results := [.lit (.bool false)], args := [d1, d2, d3] }
  | _ => none }
def StoreTornWrongFalsely : Prop := storeTornRow.holds Tryz.pinned (OpenSpec.ofChange storeTornWrong)

/-- 'tithebarnlaw27.DriverTorn': WHATEVER THE INPUT: true; the input reads as it did. -/
def driverTornSpec : ChangeSpec := { name := "driverTorn", fn := fun _ => fun
  | [d] => { results := [.lit (.bool true)], args := [d] }
  | _ => none }
def driverTornRow : OpenClaim := { program := "ytenkdioaefckoaagreatdoor", sum := "44359b364a33c65fe147a6eb9c34bb61f3dd4c6231e10d85ef031b27064be1b8", func := "tithebarn/tithebarnlaw27.DriverTorn", spec := "driverTorn", inPlace := ["slices.overlaps[tithebarn/api.Pending]", "math/bits.Add64", "internal/reflectlite.TypeOf", "internal/abi.NoEscape"], unfollowed := true, recurses := true, named := ["tithebarn/store.errBad", "math/bits.divideError", "math/bits.overflowError"], plainKeys := false, apart := false, laid := [("tithebarn/store.errBad", laid_tithebarn_store_errBad)] }
def DriverTornSaid : Prop := driverTornRow.holds Tryz.pinned (OpenSpec.ofChange driverTornSpec)

/-- ITS FALSE NEIGHBOUR: 'it returns false'. Refute it at one input. -/
def driverTornWrong : ChangeSpec := { name := "driverTorn", fn := fun _ => fun
  | [d] => { results := [.lit (.bool false)], args := [d] }
  | _ => none }
def DriverTornWrongFalsely : Prop := driverTornRow.holds Tryz.pinned (OpenSpec.ofChange driverTornWrong)

/- THE SECOND FORM. 'bulk': how many values and letters a reading holds, each counted each time it is reached (what is shared counts as often as it is met; a slice's spare places count too). A statement '..UptoSaid' is the law's where the arguments, and the package variables that the reading takes, are together of bulk at most 1048576: NARROWER than '..Said'. Prove '..Said' where nothing that the law and all that it calls make is longer than what came in: it says more and counts as full. Else prove '..UptoSaid'. A law counts once. -/
mutual
def uptoBulk {H : Type} : DataW H → Nat
  | .lit (.string bytes) => bytes.length + 1
  | .lit _ => 1
  | .nil => 1
  | .ptr d => uptoBulk d + 1
  | .slice elems spare => uptoBulkAll elems + uptoBulkAll spare + 1
  | .agg parts => uptoBulkAll parts + 1
  | .iface _ d => uptoBulk d + 1
  | .map entries => uptoBulkEntries entries + 1
  | .held _ => 1
def uptoBulkAll {H : Type} : List (DataW H) → Nat
  | [] => 0
  | d :: r => uptoBulk d + uptoBulkAll r
def uptoBulkEntries {H : Type} : List (Lit × DataW H) → Nat
  | [] => 0
  | x :: r => uptoBulkEntry x + uptoBulkEntries r
def uptoBulkEntry {H : Type} : Lit × DataW H → Nat
  | (.string bytes, d) => bytes.length + uptoBulk d + 1
  | (_, d) => uptoBulk d + 1
 end
def uptoSmall : (H : Type) → List (DataW H) → Bool := fun _ ds => decide (uptoBulkAll ds ≤ 1048576)
def OpenSpec.upto (s : _root_.Go.ChangeSpec) : _root_.Go.OpenSpec := { _root_.Go.OpenSpec.ofChange s with cond := some uptoSmall }

/-- 'tithebarntop.TopCrash', WHERE WHAT IT READS IS OF BULK AT MOST 1048576: true; the input reads as it did. -/
def topCrashUptoRow : OpenClaim := { program := "ytenkdioaefckoaagreatdoor", sum := "44359b364a33c65fe147a6eb9c34bb61f3dd4c6231e10d85ef031b27064be1b8", func := "tithebarn/tithebarntop.TopCrash", spec := "topCrash", inPlace := ["slices.overlaps[tithebarn/api.Pending]", "math/bits.Add64", "internal/reflectlite.TypeOf", "internal/abi.NoEscape"], unfollowed := true, recurses := true, named := ["tithebarn/store.errBad", "math/bits.divideError", "math/bits.overflowError"], plainKeys := false, apart := false, laid := [("tithebarn/store.errBad", laid_tithebarn_store_errBad)], narrowed := true }
def TopCrashUptoSaid : Prop := topCrashUptoRow.holds Tryz.pinned (OpenSpec.upto topCrashSpec)

/-- 'tithebarnlaw26.StoreFull', WHERE WHAT IT READS IS OF BULK AT MOST 1048576: true; the input reads as it did. -/
def storeFullUptoRow : OpenClaim := { program := "ytenkdioaefckoaagreatdoor", sum := "44359b364a33c65fe147a6eb9c34bb61f3dd4c6231e10d85ef031b27064be1b8", func := "tithebarn/tithebarnlaw26.StoreFull", spec := "storeFull", inPlace := ["slices.overlaps[tithebarn/api.Pending]", "math/bits.Add64", "internal/reflectlite.TypeOf", "internal/abi.NoEscape"], unfollowed := true, recurses := true, named := ["tithebarn/store.errBad", "math/bits.divideError", "math/bits.overflowError"], plainKeys := false, apart := false, laid := [("tithebarn/store.errBad", laid_tithebarn_store_errBad)], narrowed := true }
def StoreFullUptoSaid : Prop := storeFullUptoRow.holds Tryz.pinned (OpenSpec.upto storeFullSpec)

/-- 'tithebarnlaw26.StoreTorn', WHERE WHAT IT READS IS OF BULK AT MOST 1048576: true; the input reads as it did. -/
def storeTornUptoRow : OpenClaim := { program := "ytenkdioaefckoaagreatdoor", sum := "44359b364a33c65fe147a6eb9c34bb61f3dd4c6231e10d85ef031b27064be1b8", func := "tithebarn/tithebarnlaw26.StoreTorn", spec := "storeTorn", inPlace := ["slices.overlaps[tithebarn/api.Pending]", "math/bits.Add64", "internal/reflectlite.TypeOf", "internal/abi.NoEscape"], unfollowed := true, recurses := true, named := ["tithebarn/store.errBad", "math/bits.divideError", "math/bits.overflowError"], plainKeys := false, apart := false, laid := [("tithebarn/store.errBad", laid_tithebarn_store_errBad)], narrowed := true }
def StoreTornUptoSaid : Prop := storeTornUptoRow.holds Tryz.pinned (OpenSpec.upto storeTornSpec)

/-- 'tithebarnlaw27.DriverTorn', WHERE WHAT IT READS IS OF BULK AT MOST 1048576: true; the input reads as it did. -/
def driverTornUptoRow : OpenClaim := { program := "ytenkdioaefckoaagreatdoor", sum := "44359b364a33c65fe147a6eb9c34bb61f3dd4c6231e10d85ef031b27064be1b8", func := "tithebarn/tithebarnlaw27.DriverTorn", spec := "driverTorn", inPlace := ["slices.overlaps[tithebarn/api.Pending]", "math/bits.Add64", "internal/reflectlite.TypeOf", "internal/abi.NoEscape"], unfollowed := true, recurses := true, named := ["tithebarn/store.errBad", "math/bits.divideError", "math/bits.overflowError"], plainKeys := false, apart := false, laid := [("tithebarn/store.errBad", laid_tithebarn_store_errBad)], narrowed := true }
def DriverTornUptoSaid : Prop := driverTornUptoRow.holds Tryz.pinned (OpenSpec.upto driverTornSpec)

end Rows
end Go.Proofs.YtenkdioaefckoaaGreatDoor
