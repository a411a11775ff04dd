/-
  No cell of these rows narrows 'for every input' (looked for: loops, veiled, ifaces, maps, wideKeys, modest, calm, conditions, laid).
  DERIVED. THE GIVEN ROWS OF THIS SEAT. 9 by the template 'for every input the law returns true; each argument reads behind the call as it read before'; 0 by the template 'total and deterministic' (their statements: YtmodiilfjfmdcaaTotals.lean).
  GIVEN WITH THE SEED: the statements are not yours to turn. If you find one false, say at which input.
  Laid BY PROGRAM, IN A SANDBOX (cutbox-rows.mjs): the forced cells as the released guide's own fill.sh prints them over the translation cd150a4e32d3583e… (all of the seat's roots in one cut). By AI agents, Wed Nov 11 2026. No macro, syntax, notation, axiom, sorry.
-/
import Derived.Test.YtmodiilfjfmdcaaChecked
import GoSem.Claim
import GoSem.ClaimJoined
import GoSem.ClaimMapViews
import Derived.JoinedTies
import Derived.KernelRfl
namespace Go.Proofs.Ytmodiilfjfmdcaa
/- THE CELL 'sum', in the pinned program and in every row, IS THE sha256 OF THE DUMP (.gsa) THAT YtmodiilfjfmdcaaProg.lean LOADS. Nothing in Lean hashes anything: it is a label: what it is worth is what the hold of that sum in a sandbox is worth. -/
noncomputable def Try.pinned : Pinned := { name := "ytmodiilfjfmdcaa", sum := "cd150a4e32d3583e35d0fffbd1a3da1f2bdf67a8b35f7ab50e787fd103a19a20", checked := Try.checked }
namespace Rows
def none {H : Type} : Left H := { results := [], args := [] }

/-- 'tithebarnlaw08.CmdsChecks': WHATEVER THE INPUT: true; the input reads as it did. -/
def cmdsChecksSpec : ChangeSpec := { name := "cmdsChecks", fn := fun _ => fun
  | [d] => { results := [.lit (.bool true)], args := [d] }
  | _ => none }
def cmdsChecksRow : OpenClaim := { program := "ytmodiilfjfmdcaa", sum := "cd150a4e32d3583e35d0fffbd1a3da1f2bdf67a8b35f7ab50e787fd103a19a20", func := "tithebarn/tithebarnlaw08.CmdsChecks", spec := "cmdsChecks", inPlace := ["internal/abi.NoEscape"], unfollowed := true, recurses := true, apart := false }
def CmdsChecksSaid : Prop := cmdsChecksRow.holds Try.pinned (OpenSpec.ofChange cmdsChecksSpec)

/-- ITS FALSE NEIGHBOUR: 'it returns false'. Refute it at one input. -/
def cmdsChecksWrong : ChangeSpec := { name := "cmdsChecks", fn := fun _ => fun
  | [d] => { results := [.lit (.bool false)], args := [d] }
  | _ => none }
def CmdsChecksWrongFalsely : Prop := cmdsChecksRow.holds Try.pinned (OpenSpec.ofChange cmdsChecksWrong)

/-- 'tithebarnlaw08.CmdsDecodes': WHATEVER THE INPUT: true; the input reads as it did. -/
def cmdsDecodesSpec : ChangeSpec := { name := "cmdsDecodes", fn := fun _ => fun
  | [d] => { results := [.lit (.bool true)], args := [d] }
  | _ => none }
def cmdsDecodesRow : OpenClaim := { program := "ytmodiilfjfmdcaa", sum := "cd150a4e32d3583e35d0fffbd1a3da1f2bdf67a8b35f7ab50e787fd103a19a20", func := "tithebarn/tithebarnlaw08.CmdsDecodes", spec := "cmdsDecodes", inPlace := ["internal/abi.NoEscape"], unfollowed := true, recurses := true, apart := false }
def CmdsDecodesSaid : Prop := cmdsDecodesRow.holds Try.pinned (OpenSpec.ofChange cmdsDecodesSpec)

/-- ITS FALSE NEIGHBOUR: 'it returns false'. Refute it at one input. -/
def cmdsDecodesWrong : ChangeSpec := { name := "cmdsDecodes", fn := fun _ => fun
  | [d] => { results := [.lit (.bool false)], args := [d] }
  | _ => none }
def CmdsDecodesWrongFalsely : Prop := cmdsDecodesRow.holds Try.pinned (OpenSpec.ofChange cmdsDecodesWrong)

/-- 'tithebarnlaw08.CmdsBack': WHATEVER THE INPUT: true; the input reads as it did. -/
def cmdsBackSpec : ChangeSpec := { name := "cmdsBack", fn := fun _ => fun
  | [d] => { results := [.lit (.bool true)], args := [d] }
  | _ => none }
def cmdsBackRow : OpenClaim := { program := "ytmodiilfjfmdcaa", sum := "cd150a4e32d3583e35d0fffbd1a3da1f2bdf67a8b35f7ab50e787fd103a19a20", func := "tithebarn/tithebarnlaw08.CmdsBack", spec := "cmdsBack", inPlace := ["internal/abi.NoEscape"], unfollowed := true, recurses := true, apart := false }
def CmdsBackSaid : Prop := cmdsBackRow.holds Try.pinned (OpenSpec.ofChange cmdsBackSpec)

/-- ITS FALSE NEIGHBOUR: 'it returns false'. Refute it at one input. -/
def cmdsBackWrong : ChangeSpec := { name := "cmdsBack", fn := fun _ => fun
  | [d] => { results := [.lit (.bool false)], args := [d] }
  | _ => none }
def CmdsBackWrongFalsely : Prop := cmdsBackRow.holds Try.pinned (OpenSpec.ofChange cmdsBackWrong)

/-- 'tithebarnlaw08.CmdsOnly': WHATEVER THE INPUT: true; the input reads as it did. -/
def cmdsOnlySpec : ChangeSpec := { name := "cmdsOnly", fn := fun _ => fun
  | [d] => { results := [.lit (.bool true)], args := [d] }
  | _ => none }
def cmdsOnlyRow : OpenClaim := { program := "ytmodiilfjfmdcaa", sum := "cd150a4e32d3583e35d0fffbd1a3da1f2bdf67a8b35f7ab50e787fd103a19a20", func := "tithebarn/tithebarnlaw08.CmdsOnly", spec := "cmdsOnly", inPlace := ["internal/abi.NoEscape"], unfollowed := true, recurses := true, apart := false }
def CmdsOnlySaid : Prop := cmdsOnlyRow.holds Try.pinned (OpenSpec.ofChange cmdsOnlySpec)

/-- ITS FALSE NEIGHBOUR: 'it returns false'. Refute it at one input. -/
def cmdsOnlyWrong : ChangeSpec := { name := "cmdsOnly", fn := fun _ => fun
  | [d] => { results := [.lit (.bool false)], args := [d] }
  | _ => none }
def CmdsOnlyWrongFalsely : Prop := cmdsOnlyRow.holds Try.pinned (OpenSpec.ofChange cmdsOnlyWrong)

/-- 'tithebarnlaw08.CmdsSame': WHATEVER THE INPUT: true; the input reads as it did. -/
def cmdsSameSpec : ChangeSpec := { name := "cmdsSame", fn := fun _ => fun
  | [d1, d2] => { results := [.lit (.bool true)], args := [d1, d2] }
  | _ => none }
def cmdsSameRow : OpenClaim := { program := "ytmodiilfjfmdcaa", sum := "cd150a4e32d3583e35d0fffbd1a3da1f2bdf67a8b35f7ab50e787fd103a19a20", func := "tithebarn/tithebarnlaw08.CmdsSame", spec := "cmdsSame", inPlace := ["internal/abi.NoEscape"], unfollowed := true, recurses := true, apart := false }
def CmdsSameSaid : Prop := cmdsSameRow.holds Try.pinned (OpenSpec.ofChange cmdsSameSpec)

/-- ITS FALSE NEIGHBOUR: 'it returns false'. Refute it at one input. -/
def cmdsSameWrong : ChangeSpec := { name := "cmdsSame", fn := fun _ => fun
  | [d1, d2] => { results := [.lit (.bool false)], args := [d1, d2] }
  | _ => none }
def CmdsSameWrongFalsely : Prop := cmdsSameRow.holds Try.pinned (OpenSpec.ofChange cmdsSameWrong)

/-- 'tithebarnlaw18.ProfileEnds': WHATEVER THE INPUT: true; the input reads as it did. -/
def profileEndsSpec : ChangeSpec := { name := "profileEnds", fn := fun _ => fun
  | [d1, d2] => { results := [.lit (.bool true)], args := [d1, d2] }
  | _ => none }
def profileEndsRow : OpenClaim := { program := "ytmodiilfjfmdcaa", sum := "cd150a4e32d3583e35d0fffbd1a3da1f2bdf67a8b35f7ab50e787fd103a19a20", func := "tithebarn/tithebarnlaw18.ProfileEnds", spec := "profileEnds", unfollowed := true, recurses := true, apart := false }
def ProfileEndsSaid : Prop := profileEndsRow.holds Try.pinned (OpenSpec.ofChange profileEndsSpec)

/-- ITS FALSE NEIGHBOUR: 'it returns false'. Refute it at one input. -/
def profileEndsWrong : ChangeSpec := { name := "profileEnds", fn := fun _ => fun
  | [d1, d2] => { results := [.lit (.bool false)], args := [d1, d2] }
  | _ => none }
def ProfileEndsWrongFalsely : Prop := profileEndsRow.holds Try.pinned (OpenSpec.ofChange profileEndsWrong)

/-- 'tithebarnlaw18.ProfileAts': WHATEVER THE INPUT: true; the input reads as it did. -/
def profileAtsSpec : ChangeSpec := { name := "profileAts", fn := fun _ => fun
  | [d1, d2] => { results := [.lit (.bool true)], args := [d1, d2] }
  | _ => none }
def profileAtsRow : OpenClaim := { program := "ytmodiilfjfmdcaa", sum := "cd150a4e32d3583e35d0fffbd1a3da1f2bdf67a8b35f7ab50e787fd103a19a20", func := "tithebarn/tithebarnlaw18.ProfileAts", spec := "profileAts", unfollowed := true, recurses := true, apart := false }
def ProfileAtsSaid : Prop := profileAtsRow.holds Try.pinned (OpenSpec.ofChange profileAtsSpec)

/-- ITS FALSE NEIGHBOUR: 'it returns false'. Refute it at one input. -/
def profileAtsWrong : ChangeSpec := { name := "profileAts", fn := fun _ => fun
  | [d1, d2] => { results := [.lit (.bool false)], args := [d1, d2] }
  | _ => none }
def ProfileAtsWrongFalsely : Prop := profileAtsRow.holds Try.pinned (OpenSpec.ofChange profileAtsWrong)

/-- 'tithebarnlaw18.ProfileFewer': WHATEVER THE INPUT: true; the input reads as it did. -/
def profileFewerSpec : ChangeSpec := { name := "profileFewer", fn := fun _ => fun
  | [d1, d2, d3] => { results := [.lit (.bool true)], args := [d1, d2, d3] }
  | _ => none }
def profileFewerRow : OpenClaim := { program := "ytmodiilfjfmdcaa", sum := "cd150a4e32d3583e35d0fffbd1a3da1f2bdf67a8b35f7ab50e787fd103a19a20", func := "tithebarn/tithebarnlaw18.ProfileFewer", spec := "profileFewer", unfollowed := true, recurses := true, apart := false }
def ProfileFewerSaid : Prop := profileFewerRow.holds Try.pinned (OpenSpec.ofChange profileFewerSpec)

/-- ITS FALSE NEIGHBOUR: 'it returns false'. Refute it at one input. -/
def profileFewerWrong : ChangeSpec := { name := "profileFewer", fn := fun _ => fun
  | [d1, d2, d3] => { results := [.lit (.bool false)], args := [d1, d2, d3] }
  | _ => none }
def ProfileFewerWrongFalsely : Prop := profileFewerRow.holds Try.pinned (OpenSpec.ofChange profileFewerWrong)

/-- 'tithebarnlaw18.ProfileBetween': WHATEVER THE INPUT: true; the input reads as it did. -/
def profileBetweenSpec : ChangeSpec := { name := "profileBetween", fn := fun _ => fun
  | [d1, d2, d3] => { results := [.lit (.bool true)], args := [d1, d2, d3] }
  | _ => none }
def profileBetweenRow : OpenClaim := { program := "ytmodiilfjfmdcaa", sum := "cd150a4e32d3583e35d0fffbd1a3da1f2bdf67a8b35f7ab50e787fd103a19a20", func := "tithebarn/tithebarnlaw18.ProfileBetween", spec := "profileBetween", unfollowed := true, recurses := true, apart := false }
def ProfileBetweenSaid : Prop := profileBetweenRow.holds Try.pinned (OpenSpec.ofChange profileBetweenSpec)

/-- ITS FALSE NEIGHBOUR: 'it returns false'. Refute it at one input. -/
def profileBetweenWrong : ChangeSpec := { name := "profileBetween", fn := fun _ => fun
  | [d1, d2, d3] => { results := [.lit (.bool false)], args := [d1, d2, d3] }
  | _ => none }
def ProfileBetweenWrongFalsely : Prop := profileBetweenRow.holds Try.pinned (OpenSpec.ofChange profileBetweenWrong)

/- THE SECOND FORM. 'bulk': how many values and letters a reading holds, each counted each time it is reached (what is shared counts as often as it is met; a slice's spare places count too). A statement '..UptoSaid' is the law's where the arguments, and the package variables that the reading takes, are together of bulk at most 1048576: NARROWER than '..Said'. Prove '..Said' where nothing that the law and all that it calls make is longer than what came in: it says more and counts as full. Else prove '..UptoSaid'. A law counts once. -/
mutual
def uptoBulk {H : Type} : DataW H → Nat
  | .lit (.string bytes) => bytes.length + 1
  | .lit _ => 1
  | .nil => 1
  | .ptr d => uptoBulk d + 1
  | .slice elems spare => uptoBulkAll elems + uptoBulkAll spare + 1
  | .agg parts => uptoBulkAll parts + 1
  | .iface _ d => uptoBulk d + 1
  | .map entries => uptoBulkEntries entries + 1
  | .held _ => 1
def uptoBulkAll {H : Type} : List (DataW H) → Nat
  | [] => 0
  | d :: r => uptoBulk d + uptoBulkAll r
def uptoBulkEntries {H : Type} : List (Lit × DataW H) → Nat
  | [] => 0
  | x :: r => uptoBulkEntry x + uptoBulkEntries r
def uptoBulkEntry {H : Type} : Lit × DataW H → Nat
  | (.string bytes, d) => bytes.length + uptoBulk d + 1
  | (_, d) => uptoBulk d + 1
 end
def uptoSmall : (H : Type) → List (DataW H) → Bool := fun _ ds => decide (uptoBulkAll ds ≤ 1048576)
def OpenSpec.upto (s : _root_.Go.ChangeSpec) : _root_.Go.OpenSpec := { _root_.Go.OpenSpec.ofChange s with cond := some uptoSmall }

/-- 'tithebarnlaw08.CmdsChecks', WHERE WHAT IT READS IS OF BULK AT MOST 1048576: true; the input reads as it did. -/
def cmdsChecksUptoRow : OpenClaim := { program := "ytmodiilfjfmdcaa", sum := "cd150a4e32d3583e35d0fffbd1a3da1f2bdf67a8b35f7ab50e787fd103a19a20", func := "tithebarn/tithebarnlaw08.CmdsChecks", spec := "cmdsChecks", inPlace := ["internal/abi.NoEscape"], unfollowed := true, recurses := true, apart := false, narrowed := true }
def CmdsChecksUptoSaid : Prop := cmdsChecksUptoRow.holds Try.pinned (OpenSpec.upto cmdsChecksSpec)

/-- 'tithebarnlaw08.CmdsDecodes', WHERE WHAT IT READS IS OF BULK AT MOST 1048576: true; the input reads as it did. -/
def cmdsDecodesUptoRow : OpenClaim := { program := "ytmodiilfjfmdcaa", sum := "cd150a4e32d3583e35d0fffbd1a3da1f2bdf67a8b35f7ab50e787fd103a19a20", func := "tithebarn/tithebarnlaw08.CmdsDecodes", spec := "cmdsDecodes", inPlace := ["internal/abi.NoEscape"], unfollowed := true, recurses := true, apart := false, narrowed := true }
def CmdsDecodesUptoSaid : Prop := cmdsDecodesUptoRow.holds Try.pinned (OpenSpec.upto cmdsDecodesSpec)

/-- 'tithebarnlaw08.CmdsBack', WHERE WHAT IT READS IS OF BULK AT MOST 1048576: true; the input reads as it did. -/
def cmdsBackUptoRow : OpenClaim := { program := "ytmodiilfjfmdcaa", sum := "cd150a4e32d3583e35d0fffbd1a3da1f2bdf67a8b35f7ab50e787fd103a19a20", func := "tithebarn/tithebarnlaw08.CmdsBack", spec := "cmdsBack", inPlace := ["internal/abi.NoEscape"], unfollowed := true, recurses := true, apart := false, narrowed := true }
def CmdsBackUptoSaid : Prop := cmdsBackUptoRow.holds Try.pinned (OpenSpec.upto cmdsBackSpec)

/-- 'tithebarnlaw08.CmdsOnly', WHERE WHAT IT READS IS OF BULK AT MOST 1048576: true; the input reads as it did. -/
def cmdsOnlyUptoRow : OpenClaim := { program := "ytmodiilfjfmdcaa", sum := "cd150a4e32d3583e35d0fffbd1a3da1f2bdf67a8b35f7ab50e787fd103a19a20", func := "tithebarn/tithebarnlaw08.CmdsOnly", spec := "cmdsOnly", inPlace := ["internal/abi.NoEscape"], unfollowed := true, recurses := true, apart := false, narrowed := true }
def CmdsOnlyUptoSaid : Prop := cmdsOnlyUptoRow.holds Try.pinned (OpenSpec.upto cmdsOnlySpec)

/-- 'tithebarnlaw08.CmdsSame', WHERE WHAT IT READS IS OF BULK AT MOST 1048576: true; the input reads as it did. -/
def cmdsSameUptoRow : OpenClaim := { program := "ytmodiilfjfmdcaa", sum := "cd150a4e32d3583e35d0fffbd1a3da1f2bdf67a8b35f7ab50e787fd103a19a20", func := "tithebarn/tithebarnlaw08.CmdsSame", spec := "cmdsSame", inPlace := ["internal/abi.NoEscape"], unfollowed := true, recurses := true, apart := false, narrowed := true }
def CmdsSameUptoSaid : Prop := cmdsSameUptoRow.holds Try.pinned (OpenSpec.upto cmdsSameSpec)

/-- 'tithebarnlaw18.ProfileEnds', WHERE WHAT IT READS IS OF BULK AT MOST 1048576: true; the input reads as it did. -/
def profileEndsUptoRow : OpenClaim := { program := "ytmodiilfjfmdcaa", sum := "cd150a4e32d3583e35d0fffbd1a3da1f2bdf67a8b35f7ab50e787fd103a19a20", func := "tithebarn/tithebarnlaw18.ProfileEnds", spec := "profileEnds", unfollowed := true, recurses := true, apart := false, narrowed := true }
def ProfileEndsUptoSaid : Prop := profileEndsUptoRow.holds Try.pinned (OpenSpec.upto profileEndsSpec)

/-- 'tithebarnlaw18.ProfileAts', WHERE WHAT IT READS IS OF BULK AT MOST 1048576: true; the input reads as it did. -/
def profileAtsUptoRow : OpenClaim := { program := "ytmodiilfjfmdcaa", sum := "cd150a4e32d3583e35d0fffbd1a3da1f2bdf67a8b35f7ab50e787fd103a19a20", func := "tithebarn/tithebarnlaw18.ProfileAts", spec := "profileAts", unfollowed := true, recurses := true, apart := false, narrowed := true }
def ProfileAtsUptoSaid : Prop := profileAtsUptoRow.holds Try.pinned (OpenSpec.upto profileAtsSpec)

/-- 'tithebarnlaw18.ProfileFewer', WHERE WHAT IT READS IS OF BULK AT MOST 1048576: true; the input reads as it did. -/
def profileFewerUptoRow : OpenClaim := { program := "ytmodiilfjfmdcaa", sum := "cd150a4e32d3583e35d0fffbd1a3da1f2bdf67a8b35f7ab50e787fd103a19a20", func := "tithebarn/tithebarnlaw18.ProfileFewer", spec := "profileFewer", unfollowed := true, recurses := true, apart := false, narrowed := true }
def ProfileFewerUptoSaid : Prop := profileFewerUptoRow.holds Try.pinned (OpenSpec.upto profileFewerSpec)

/-- 'tithebarnlaw18.ProfileBetween', WHERE WHAT IT READS IS OF BULK AT MOST 1048576: true; the input reads as it did. -/
def profileBetweenUptoRow : OpenClaim := { program := "ytmodiilfjfmdcaa", sum := "cd150a4e32d3583e35d0fffbd1a3da1f2bdf67a8b35f7ab50e787fd103a19a20", func := "tithebarn/tithebarnlaw18.ProfileBetween", spec := "profileBetween", unfollowed := true, recurses := true, apart := false, narrowed := true }
def ProfileBetweenUptoSaid : Prop := profileBetweenUptoRow.holds Try.pinned (OpenSpec.upto profileBetweenSpec)

end Rows
end Go.Proofs.Ytmodiilfjfmdcaa
