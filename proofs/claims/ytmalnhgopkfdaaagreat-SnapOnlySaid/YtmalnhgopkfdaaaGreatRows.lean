/-
  No cell of these rows narrows 'for every input' (looked for: loops, veiled, ifaces, maps, wideKeys, modest, calm, conditions, laid).
  DERIVED. THE GIVEN ROWS OF THIS SEAT. 4 by the template 'for every input the law returns true; each argument reads behind the call as it read before'; 0 by the template 'total and deterministic' (their statements: YtmalnhgopkfdaaaGreatTotals.lean).
  GIVEN WITH THE SEED: the statements are not yours to turn. If you find one false, say at which input.
  Laid BY PROGRAM, IN A SANDBOX (cutbox-rows.mjs): the forced cells as the released guide's own fill.sh prints them over the translation 0a3d38a87c384187… (all of the seat's roots in one cut). By AI agents, Wed Nov 11 2026. No macro, syntax, notation, axiom, sorry.
-/
import Derived.Test.YtmalnhgopkfdaaaGreatChecked
import GoSem.Claim
import GoSem.ClaimJoined
import GoSem.ClaimMapViews
import Derived.JoinedTies
import Derived.KernelRfl
namespace Go.Proofs.YtmalnhgopkfdaaaGreat
/- THE CELL 'sum', in the pinned program and in every row, IS THE sha256 OF THE DUMP (.gsa) THAT YtmalnhgopkfdaaaGreatProg.lean LOADS. Nothing in Lean hashes anything: it is a label: what it is worth is what the hold of that sum in a sandbox is worth. -/
noncomputable def Tryz.pinned : Pinned := { name := "ytmalnhgopkfdaaagreat", sum := "0a3d38a87c3841872a22b835162713f06b289e73e11b746b17158e5eea9b0f9f", checked := Tryz.checked }
namespace Rows
def none {H : Type} : Left H := { results := [], args := [] }

/-- 'tithebarnlaw25.SnapDecodes': WHATEVER THE INPUT: true; the input reads as it did. -/
def snapDecodesSpec : ChangeSpec := { name := "snapDecodes", fn := fun _ => fun
  | [d] => { results := [.lit (.bool true)], args := [d] }
  | _ => none }
def snapDecodesRow : OpenClaim := { program := "ytmalnhgopkfdaaagreat", sum := "0a3d38a87c3841872a22b835162713f06b289e73e11b746b17158e5eea9b0f9f", func := "tithebarn/tithebarnlaw25.SnapDecodes", spec := "snapDecodes", inPlace := ["internal/abi.NoEscape"], unfollowed := true, recurses := true, plainKeys := false, apart := false }
def SnapDecodesSaid : Prop := snapDecodesRow.holds Tryz.pinned (OpenSpec.ofChange snapDecodesSpec)

/-- ITS FALSE NEIGHBOUR: 'it returns false'. Refute it at one input. -/
def snapDecodesWrong : ChangeSpec := { name := "snapDecodes", fn := fun _ => fun
  | [d] => { results := [.lit (.bool false)], args := [d] }
  | _ => none }
def SnapDecodesWrongFalsely : Prop := snapDecodesRow.holds Tryz.pinned (OpenSpec.ofChange snapDecodesWrong)

/-- 'tithebarnlaw25.SnapBack': WHATEVER THE INPUT: true; the input reads as it did. -/
def snapBackSpec : ChangeSpec := { name := "snapBack", fn := fun _ => fun
  | [d] => { results := [.lit (.bool true)], args := [d] }
  | _ => none }
def snapBackRow : OpenClaim := { program := "ytmalnhgopkfdaaagreat", sum := "0a3d38a87c3841872a22b835162713f06b289e73e11b746b17158e5eea9b0f9f", func := "tithebarn/tithebarnlaw25.SnapBack", spec := "snapBack", inPlace := ["internal/abi.NoEscape"], unfollowed := true, recurses := true, plainKeys := false, apart := false }
def SnapBackSaid : Prop := snapBackRow.holds Tryz.pinned (OpenSpec.ofChange snapBackSpec)

/-- ITS FALSE NEIGHBOUR: 'it returns false'. Refute it at one input. -/
def snapBackWrong : ChangeSpec := { name := "snapBack", fn := fun _ => fun
  | [d] => { results := [.lit (.bool false)], args := [d] }
  | _ => none }
def SnapBackWrongFalsely : Prop := snapBackRow.holds Tryz.pinned (OpenSpec.ofChange snapBackWrong)

/-- 'tithebarnlaw25.SnapOnly': WHATEVER THE INPUT: true; the input reads as it did. -/
def snapOnlySpec : ChangeSpec := { name := "snapOnly", fn := fun _ => fun
  | [d] => { results := [.lit (.bool true)], args := [d] }
  | _ => none }
def snapOnlyRow : OpenClaim := { program := "ytmalnhgopkfdaaagreat", sum := "0a3d38a87c3841872a22b835162713f06b289e73e11b746b17158e5eea9b0f9f", func := "tithebarn/tithebarnlaw25.SnapOnly", spec := "snapOnly", inPlace := ["internal/abi.NoEscape"], unfollowed := true, recurses := true, plainKeys := false, apart := false }
def SnapOnlySaid : Prop := snapOnlyRow.holds Tryz.pinned (OpenSpec.ofChange snapOnlySpec)

/-- ITS FALSE NEIGHBOUR: 'it returns false'. Refute it at one input. -/
def snapOnlyWrong : ChangeSpec := { name := "snapOnly", fn := fun _ => fun
  | [d] => { results := [.lit (.bool false)], args := [d] }
  | _ => none }
def SnapOnlyWrongFalsely : Prop := snapOnlyRow.holds Tryz.pinned (OpenSpec.ofChange snapOnlyWrong)

/-- 'tithebarnlaw25.SnapSafe': WHATEVER THE INPUT: true; the input reads as it did. -/
def snapSafeSpec : ChangeSpec := { name := "snapSafe", fn := fun _ => fun
  | [d] => { results := [.lit (.bool true)], args := [d] }
  | _ => none }
def snapSafeRow : OpenClaim := { program := "ytmalnhgopkfdaaagreat", sum := "0a3d38a87c3841872a22b835162713f06b289e73e11b746b17158e5eea9b0f9f", func := "tithebarn/tithebarnlaw25.SnapSafe", spec := "snapSafe", inPlace := ["internal/abi.NoEscape"], unfollowed := true, recurses := true, plainKeys := false, apart := false }
def SnapSafeSaid : Prop := snapSafeRow.holds Tryz.pinned (OpenSpec.ofChange snapSafeSpec)

/-- ITS FALSE NEIGHBOUR: 'it returns false'. Refute it at one input. -/
def snapSafeWrong : ChangeSpec := { name := "snapSafe", fn := fun _ => fun
  | [d] => { results := [.lit (.bool false)], args := [d] }
  | _ => none }
def SnapSafeWrongFalsely : Prop := snapSafeRow.holds Tryz.pinned (OpenSpec.ofChange snapSafeWrong)

/- THE SECOND FORM. 'bulk': how many values and letters a reading holds, each counted each time it is reached (what is shared counts as often as it is met; a slice's spare places count too). A statement '..UptoSaid' is the law's where the arguments, and the package variables that the reading takes, are together of bulk at most 1048576: NARROWER than '..Said'. Prove '..Said' where nothing that the law and all that it calls make is longer than what came in: it says more and counts as full. Else prove '..UptoSaid'. A law counts once. -/
mutual
def uptoBulk {H : Type} : DataW H → Nat
  | .lit (.string bytes) => bytes.length + 1
  | .lit _ => 1
  | .nil => 1
  | .ptr d => uptoBulk d + 1
  | .slice elems spare => uptoBulkAll elems + uptoBulkAll spare + 1
  | .agg parts => uptoBulkAll parts + 1
  | .iface _ d => uptoBulk d + 1
  | .map entries => uptoBulkEntries entries + 1
  | .held _ => 1
def uptoBulkAll {H : Type} : List (DataW H) → Nat
  | [] => 0
  | d :: r => uptoBulk d + uptoBulkAll r
def uptoBulkEntries {H : Type} : List (Lit × DataW H) → Nat
  | [] => 0
  | x :: r => uptoBulkEntry x + uptoBulkEntries r
def uptoBulkEntry {H : Type} : Lit × DataW H → Nat
  | (.string bytes, d) => bytes.length + uptoBulk d + 1
  | (_, d) => uptoBulk d + 1
 end
def uptoSmall : (H : Type) → List (DataW H) → Bool := fun _ ds => decide (uptoBulkAll ds ≤ 1048576)
def OpenSpec.upto (s : _root_.Go.ChangeSpec) : _root_.Go.OpenSpec := { _root_.Go.OpenSpec.ofChange s with cond := some uptoSmall }

/-- 'tithebarnlaw25.SnapDecodes', WHERE WHAT IT READS IS OF BULK AT MOST 1048576: true; the input reads as it did. -/
def snapDecodesUptoRow : OpenClaim := { program := "ytmalnhgopkfdaaagreat", sum := "0a3d38a87c3841872a22b835162713f06b289e73e11b746b17158e5eea9b0f9f", func := "tithebarn/tithebarnlaw25.SnapDecodes", spec := "snapDecodes", inPlace := ["internal/abi.NoEscape"], unfollowed := true, recurses := true, plainKeys := false, apart := false, narrowed := true }
def SnapDecodesUptoSaid : Prop := snapDecodesUptoRow.holds Tryz.pinned (OpenSpec.upto snapDecodesSpec)

/-- 'tithebarnlaw25.SnapBack', WHERE WHAT IT READS IS OF BULK AT MOST 1048576: true; the input reads as it did. -/
def snapBackUptoRow : OpenClaim := { program := "ytmalnhgopkfdaaagreat", sum := "0a3d38a87c3841872a22b835162713f06b289e73e11b746b17158e5eea9b0f9f", func := "tithebarn/tithebarnlaw25.SnapBack", spec := "snapBack", inPlace := ["internal/abi.NoEscape"], unfollowed := true, recurses := true, plainKeys := false, apart := false, narrowed := true }
def SnapBackUptoSaid : Prop := snapBackUptoRow.holds Tryz.pinned (OpenSpec.upto snapBackSpec)

/-- 'tithebarnlaw25.SnapOnly', WHERE WHAT IT READS IS OF BULK AT MOST 1048576: true; the input reads as it did. -/
def snapOnlyUptoRow : OpenClaim := { program := "ytmalnhgopkfdaaagreat", sum := "0a3d38a87c3841872a22b835162713f06b289e73e11b746b17158e5eea9b0f9f", func := "tithebarn/tithebarnlaw25.SnapOnly", spec := "snapOnly", inPlace := ["internal/abi.NoEscape"], unfollowed := true, recurses := true, plainKeys := false, apart := false, narrowed := true }
def SnapOnlyUptoSaid : Prop := snapOnlyUptoRow.holds Tryz.pinned (OpenSpec.upto snapOnlySpec)

/-- 'tithebarnlaw25.SnapSafe', WHERE WHAT IT READS IS OF BULK AT MOST 1048576: true; the input reads as it did. -/
def snapSafeUptoRow : OpenClaim := { program := "ytmalnhgopkfdaaagreat", sum := "0a3d38a87c3841872a22b835162713f06b289e73e11b746b17158e5eea9b0f9f", func := "tithebarn/tithebarnlaw25.SnapSafe", spec := "snapSafe", inPlace := ["internal/abi.NoEscape"], unfollowed := true, recurses := true, plainKeys := false, apart := false, narrowed := true }
def SnapSafeUptoSaid : Prop := snapSafeUptoRow.holds Tryz.pinned (OpenSpec.upto snapSafeSpec)

end Rows
end Go.Proofs.YtmalnhgopkfdaaaGreat
