/-
  No cell of these rows narrows 'for every input' (looked for: loops, veiled, ifaces, maps, wideKeys, modest, calm, conditions, laid).
  DERIVED. THE GIVEN ROWS OF THIS SEAT. 9 by the template 'for every input the law returns true; each argument reads behind the call as it read before'; 0 by the template 'total and deterministic' (their statements: YtgjcojagbgdpnaaTotals.lean).
  GIVEN WITH THE SEED: the statements are not yours to turn. If you find one false, say at which input.
  Laid BY PROGRAM, IN A SANDBOX (cutbox-rows.mjs): the forced cells as the released guide's own fill.sh prints them over the translation b39620049dbb37f0… (all of the seat's roots in one cut). By AI agents, Wed Nov 11 2026. No macro, syntax, notation, axiom, sorry.
-/
import Derived.Test.YtgjcojagbgdpnaaChecked
import GoSem.Claim
import GoSem.ClaimJoined
import GoSem.ClaimMapViews
import Derived.JoinedTies
import Derived.KernelRfl
namespace Go.Proofs.Ytgjcojagbgdpnaa
/- THE CELL 'sum', in the pinned program and in every row, IS THE sha256 OF THE DUMP (.gsa) THAT YtgjcojagbgdpnaaProg.lean LOADS. Nothing in Lean hashes anything: it is a label: what it is worth is what the hold of that sum in a sandbox is worth. -/
noncomputable def Try.pinned : Pinned := { name := "ytgjcojagbgdpnaa", sum := "b39620049dbb37f04d201f6bbf2da758536c4a00bdbc043ff43a9800f0151747", checked := Try.checked }
namespace Rows
def none {H : Type} : Left H := { results := [], args := [] }

/-- 'tithebarnlaw07.NumsOnly': WHATEVER THE INPUT: true; the input reads as it did. -/
def numsOnlySpec : ChangeSpec := { name := "numsOnly", fn := fun _ => fun
  | [d] => { results := [.lit (.bool true)], args := [d] }
  | _ => none }
def numsOnlyRow : OpenClaim := { program := "ytgjcojagbgdpnaa", sum := "b39620049dbb37f04d201f6bbf2da758536c4a00bdbc043ff43a9800f0151747", func := "tithebarn/tithebarnlaw07.NumsOnly", spec := "numsOnly", apart := false }
def NumsOnlySaid : Prop := numsOnlyRow.holds Try.pinned (OpenSpec.ofChange numsOnlySpec)

/-- ITS FALSE NEIGHBOUR: 'it returns false'. Refute it at one input. -/
def numsOnlyWrong : ChangeSpec := { name := "numsOnly", fn := fun _ => fun
  | [d] => { results := [.lit (.bool false)], args := [d] }
  | _ => none }
def NumsOnlyWrongFalsely : Prop := numsOnlyRow.holds Try.pinned (OpenSpec.ofChange numsOnlyWrong)

/-- 'tithebarnlaw07.NumsPuts': WHATEVER THE INPUT: true; the input reads as it did. -/
def numsPutsSpec : ChangeSpec := { name := "numsPuts", fn := fun _ => fun
  | [d1, d2, d3] => { results := [.lit (.bool true)], args := [d1, d2, d3] }
  | _ => none }
def numsPutsRow : OpenClaim := { program := "ytgjcojagbgdpnaa", sum := "b39620049dbb37f04d201f6bbf2da758536c4a00bdbc043ff43a9800f0151747", func := "tithebarn/tithebarnlaw07.NumsPuts", spec := "numsPuts", apart := false }
def NumsPutsSaid : Prop := numsPutsRow.holds Try.pinned (OpenSpec.ofChange numsPutsSpec)

/-- ITS FALSE NEIGHBOUR: 'it returns false'. Refute it at one input. -/
def numsPutsWrong : ChangeSpec := { name := "numsPuts", fn := fun _ => fun
  | [d1, d2, d3] => { results := [.lit (.bool false)], args := [d1, d2, d3] }
  | _ => none }
def NumsPutsWrongFalsely : Prop := numsPutsRow.holds Try.pinned (OpenSpec.ofChange numsPutsWrong)

/-- 'tithebarnlaw07.NumsBack': WHATEVER THE INPUT: true; the input reads as it did. -/
def numsBackSpec : ChangeSpec := { name := "numsBack", fn := fun _ => fun
  | [d1, d2, d3] => { results := [.lit (.bool true)], args := [d1, d2, d3] }
  | _ => none }
def numsBackRow : OpenClaim := { program := "ytgjcojagbgdpnaa", sum := "b39620049dbb37f04d201f6bbf2da758536c4a00bdbc043ff43a9800f0151747", func := "tithebarn/tithebarnlaw07.NumsBack", spec := "numsBack", apart := false }
def NumsBackSaid : Prop := numsBackRow.holds Try.pinned (OpenSpec.ofChange numsBackSpec)

/-- ITS FALSE NEIGHBOUR: 'it returns false'. Refute it at one input. -/
def numsBackWrong : ChangeSpec := { name := "numsBack", fn := fun _ => fun
  | [d1, d2, d3] => { results := [.lit (.bool false)], args := [d1, d2, d3] }
  | _ => none }
def NumsBackWrongFalsely : Prop := numsBackRow.holds Try.pinned (OpenSpec.ofChange numsBackWrong)

/-- 'tithebarnlaw07.NumsVecs': WHATEVER THE INPUT: true; the input reads as it did. -/
def numsVecsSpec : ChangeSpec := { name := "numsVecs", fn := fun _ => fun
  | [d1, d2] => { results := [.lit (.bool true)], args := [d1, d2] }
  | _ => none }
def numsVecsRow : OpenClaim := { program := "ytgjcojagbgdpnaa", sum := "b39620049dbb37f04d201f6bbf2da758536c4a00bdbc043ff43a9800f0151747", func := "tithebarn/tithebarnlaw07.NumsVecs", spec := "numsVecs", apart := false }
def NumsVecsSaid : Prop := numsVecsRow.holds Try.pinned (OpenSpec.ofChange numsVecsSpec)

/-- ITS FALSE NEIGHBOUR: 'it returns false'. Refute it at one input. -/
def numsVecsWrong : ChangeSpec := { name := "numsVecs", fn := fun _ => fun
  | [d1, d2] => { results := [.lit (.bool false)], args := [d1, d2] }
  | _ => none }
def NumsVecsWrongFalsely : Prop := numsVecsRow.holds Try.pinned (OpenSpec.ofChange numsVecsWrong)

/-- 'tithebarnlaw07.NumsGets': WHATEVER THE INPUT: true; the input reads as it did. -/
def numsGetsSpec : ChangeSpec := { name := "numsGets", fn := fun _ => fun
  | [d] => { results := [.lit (.bool true)], args := [d] }
  | _ => none }
def numsGetsRow : OpenClaim := { program := "ytgjcojagbgdpnaa", sum := "b39620049dbb37f04d201f6bbf2da758536c4a00bdbc043ff43a9800f0151747", func := "tithebarn/tithebarnlaw07.NumsGets", spec := "numsGets", apart := false }
def NumsGetsSaid : Prop := numsGetsRow.holds Try.pinned (OpenSpec.ofChange numsGetsSpec)

/-- ITS FALSE NEIGHBOUR: 'it returns false'. Refute it at one input. -/
def numsGetsWrong : ChangeSpec := { name := "numsGets", fn := fun _ => fun
  | [d] => { results := [.lit (.bool false)], args := [d] }
  | _ => none }
def NumsGetsWrongFalsely : Prop := numsGetsRow.holds Try.pinned (OpenSpec.ofChange numsGetsWrong)

/-- 'tithebarnlaw22.QueuePuts': WHATEVER THE INPUT: true; the input reads as it did. -/
def queuePutsSpec : ChangeSpec := { name := "queuePuts", fn := fun _ => fun
  | [d1, d2] => { results := [.lit (.bool true)], args := [d1, d2] }
  | _ => none }
def queuePutsRow : OpenClaim := { program := "ytgjcojagbgdpnaa", sum := "b39620049dbb37f04d201f6bbf2da758536c4a00bdbc043ff43a9800f0151747", func := "tithebarn/tithebarnlaw22.QueuePuts", spec := "queuePuts", inPlace := ["slices.overlaps[tithebarn/api.Pending]"], unfollowed := true, recurses := true, apart := false }
def QueuePutsSaid : Prop := queuePutsRow.holds Try.pinned (OpenSpec.ofChange queuePutsSpec)

/-- ITS FALSE NEIGHBOUR: 'it returns false'. Refute it at one input. -/
def queuePutsWrong : ChangeSpec := { name := "queuePuts", fn := fun _ => fun
  | [d1, d2] => { results := [.lit (.bool false)], args := [d1, d2] }
  | _ => none }
def QueuePutsWrongFalsely : Prop := queuePutsRow.holds Try.pinned (OpenSpec.ofChange queuePutsWrong)

/-- 'tithebarnlaw22.QueueTakes': WHATEVER THE INPUT: true; the input reads as it did. -/
def queueTakesSpec : ChangeSpec := { name := "queueTakes", fn := fun _ => fun
  | [d1, d2] => { results := [.lit (.bool true)], args := [d1, d2] }
  | _ => none }
def queueTakesRow : OpenClaim := { program := "ytgjcojagbgdpnaa", sum := "b39620049dbb37f04d201f6bbf2da758536c4a00bdbc043ff43a9800f0151747", func := "tithebarn/tithebarnlaw22.QueueTakes", spec := "queueTakes", inPlace := ["slices.overlaps[tithebarn/api.Pending]"], unfollowed := true, recurses := true, apart := false }
def QueueTakesSaid : Prop := queueTakesRow.holds Try.pinned (OpenSpec.ofChange queueTakesSpec)

/-- ITS FALSE NEIGHBOUR: 'it returns false'. Refute it at one input. -/
def queueTakesWrong : ChangeSpec := { name := "queueTakes", fn := fun _ => fun
  | [d1, d2] => { results := [.lit (.bool false)], args := [d1, d2] }
  | _ => none }
def QueueTakesWrongFalsely : Prop := queueTakesRow.holds Try.pinned (OpenSpec.ofChange queueTakesWrong)

/-- 'tithebarnlaw22.QueueBack': WHATEVER THE INPUT: true; the input reads as it did. -/
def queueBackSpec : ChangeSpec := { name := "queueBack", fn := fun _ => fun
  | [d1, d2] => { results := [.lit (.bool true)], args := [d1, d2] }
  | _ => none }
def queueBackRow : OpenClaim := { program := "ytgjcojagbgdpnaa", sum := "b39620049dbb37f04d201f6bbf2da758536c4a00bdbc043ff43a9800f0151747", func := "tithebarn/tithebarnlaw22.QueueBack", spec := "queueBack", inPlace := ["slices.overlaps[tithebarn/api.Pending]"], unfollowed := true, recurses := true, apart := false }
def QueueBackSaid : Prop := queueBackRow.holds Try.pinned (OpenSpec.ofChange queueBackSpec)

/-- ITS FALSE NEIGHBOUR: 'it returns false'. Refute it at one input. -/
def queueBackWrong : ChangeSpec := { name := "queueBack", fn := fun _ => fun
  | [d1, d2] => { results := [.lit (.bool false)], args := [d1, d2] }
  | _ => none }
def QueueBackWrongFalsely : Prop := queueBackRow.holds Try.pinned (OpenSpec.ofChange queueBackWrong)

/-- 'tithebarnlaw22.QueueOrder': WHATEVER THE INPUT: true; the input reads as it did. -/
def queueOrderSpec : ChangeSpec := { name := "queueOrder", fn := fun _ => fun
  | [d1, d2] => { results := [.lit (.bool true)], args := [d1, d2] }
  | _ => none }
def queueOrderRow : OpenClaim := { program := "ytgjcojagbgdpnaa", sum := "b39620049dbb37f04d201f6bbf2da758536c4a00bdbc043ff43a9800f0151747", func := "tithebarn/tithebarnlaw22.QueueOrder", spec := "queueOrder", inPlace := ["slices.overlaps[tithebarn/api.Pending]"], unfollowed := true, recurses := true, apart := false }
def QueueOrderSaid : Prop := queueOrderRow.holds Try.pinned (OpenSpec.ofChange queueOrderSpec)

/-- ITS FALSE NEIGHBOUR: 'it returns false'. Refute it at one input. -/
def queueOrderWrong : ChangeSpec := { name := "queueOrder", fn := fun _ => fun
  | [d1, d2] => { results := [.lit (.bool false)], args := [d1, d2] }
  | _ => none }
def QueueOrderWrongFalsely : Prop := queueOrderRow.holds Try.pinned (OpenSpec.ofChange queueOrderWrong)

/- THE SECOND FORM. 'bulk': how many values and letters a reading holds, each counted each time it is reached (what is shared counts as often as it is met; a slice's spare places count too). A statement '..UptoSaid' is the law's where the arguments, and the package variables that the reading takes, are together of bulk at most 1048576: NARROWER than '..Said'. Prove '..Said' where nothing that the law and all that it calls make is longer than what came in: it says more and counts as full. Else prove '..UptoSaid'. A law counts once. -/
mutual
def uptoBulk {H : Type} : DataW H → Nat
  | .lit (.string bytes) => bytes.length + 1
  | .lit _ => 1
  | .nil => 1
  | .ptr d => uptoBulk d + 1
  | .slice elems spare => uptoBulkAll elems + uptoBulkAll spare + 1
  | .agg parts => uptoBulkAll parts + 1
  | .iface _ d => uptoBulk d + 1
  | .map entries => uptoBulkEntries entries + 1
  | .held _ => 1
def uptoBulkAll {H : Type} : List (DataW H) → Nat
  | [] => 0
  | d :: r => uptoBulk d + uptoBulkAll r
def uptoBulkEntries {H : Type} : List (Lit × DataW H) → Nat
  | [] => 0
  | x :: r => uptoBulkEntry x + uptoBulkEntries r
def uptoBulkEntry {H : Type} : Lit × DataW H → Nat
  | (.string bytes, d) => bytes.length + uptoBulk d + 1
  | (_, d) => uptoBulk d + 1
 end
def uptoSmall : (H : Type) → List (DataW H) → Bool := fun _ ds => decide (uptoBulkAll ds ≤ 1048576)
def OpenSpec.upto (s : _root_.Go.ChangeSpec) : _root_.Go.OpenSpec := { _root_.Go.OpenSpec.ofChange s with cond := some uptoSmall }

/-- 'tithebarnlaw07.NumsOnly', WHERE WHAT IT READS IS OF BULK AT MOST 1048576: true; the input reads as it did. -/
def numsOnlyUptoRow : OpenClaim := { program := "ytgjcojagbgdpnaa", sum := "b39620049dbb37f04d201f6bbf2da758536c4a00bdbc043ff43a9800f0151747", func := "tithebarn/tithebarnlaw07.NumsOnly", spec := "numsOnly", apart := false, narrowed := true }
def NumsOnlyUptoSaid : Prop := numsOnlyUptoRow.holds Try.pinned (OpenSpec.upto numsOnlySpec)

/-- 'tithebarnlaw07.NumsPuts', WHERE WHAT IT READS IS OF BULK AT MOST 1048576: true; the input reads as it did. -/
def numsPutsUptoRow : OpenClaim := { program := "ytgjcojagbgdpnaa", sum := "b39620049dbb37f04d201f6bbf2da758536c4a00bdbc043ff43a9800f0151747", func := "tithebarn/tithebarnlaw07.NumsPuts", spec := "numsPuts", apart := false, narrowed := true }
def NumsPutsUptoSaid : Prop := numsPutsUptoRow.holds Try.pinned (OpenSpec.upto numsPutsSpec)

/-- 'tithebarnlaw07.NumsBack', WHERE WHAT IT READS IS OF BULK AT MOST 1048576: true; the input reads as it did. -/
def numsBackUptoRow : OpenClaim := { program := "ytgjcojagbgdpnaa", sum := "b39620049dbb37f04d201f6bbf2da758536c4a00bdbc043ff43a9800f0151747", func := "tithebarn/tithebarnlaw07.NumsBack", spec := "numsBack", apart := false, narrowed := true }
def NumsBackUptoSaid : Prop := numsBackUptoRow.holds Try.pinned (OpenSpec.upto numsBackSpec)

/-- 'tithebarnlaw07.NumsVecs', WHERE WHAT IT READS IS OF BULK AT MOST 1048576: true; the input reads as it did. -/
def numsVecsUptoRow : OpenClaim := { program := "ytgjcojagbgdpnaa", sum := "b39620049dbb37f04d201f6bbf2da758536c4a00bdbc043ff43a9800f0151747", func := "tithebarn/tithebarnlaw07.NumsVecs", spec := "numsVecs", apart := false, narrowed := true }
def NumsVecsUptoSaid : Prop := numsVecsUptoRow.holds Try.pinned (OpenSpec.upto numsVecsSpec)

/-- 'tithebarnlaw07.NumsGets', WHERE WHAT IT READS IS OF BULK AT MOST 1048576: true; the input reads as it did. -/
def numsGetsUptoRow : OpenClaim := { program := "ytgjcojagbgdpnaa", sum := "b39620049dbb37f04d201f6bbf2da758536c4a00bdbc043ff43a9800f0151747", func := "tithebarn/tithebarnlaw07.NumsGets", spec := "numsGets", apart := false, narrowed := true }
def NumsGetsUptoSaid : Prop := numsGetsUptoRow.holds Try.pinned (OpenSpec.upto numsGetsSpec)

/-- 'tithebarnlaw22.QueuePuts', WHERE WHAT IT READS IS OF BULK AT MOST 1048576: true; the input reads as it did. -/
def queuePutsUptoRow : OpenClaim := { program := "ytgjcojagbgdpnaa", sum := "b39620049dbb37f04d201f6bbf2da758536c4a00bdbc043ff43a9800f0151747", func := "tithebarn/tithebarnlaw22.QueuePuts", spec := "queuePuts", inPlace := ["slices.overlaps[tithebarn/api.Pending]"], unfollowed := true, recurses := true, apart := false, narrowed := true }
def QueuePutsUptoSaid : Prop := queuePutsUptoRow.holds Try.pinned (OpenSpec.upto queuePutsSpec)

/-- 'tithebarnlaw22.QueueTakes', WHERE WHAT IT READS IS OF BULK AT MOST 1048576: true; the input reads as it did. -/
def queueTakesUptoRow : OpenClaim := { program := "ytgjcojagbgdpnaa", sum := "b39620049dbb37f04d201f6bbf2da758536c4a00bdbc043ff43a9800f0151747", func := "tithebarn/tithebarnlaw22.QueueTakes", spec := "queueTakes", inPlace := ["slices.overlaps[tithebarn/api.Pending]"], unfollowed := true, recurses := true, apart := false, narrowed := true }
def QueueTakesUptoSaid : Prop := queueTakesUptoRow.holds Try.pinned (OpenSpec.upto queueTakesSpec)

/-- 'tithebarnlaw22.QueueBack', WHERE WHAT IT READS IS OF BULK AT MOST 1048576: true; the input reads as it did. -/
def queueBackUptoRow : OpenClaim := { program := "ytgjcojagbgdpnaa", sum := "b39620049dbb37f04d201f6bbf2da758536c4a00bdbc043ff43a9800f0151747", func := "tithebarn/tithebarnlaw22.QueueBack", spec := "queueBack", inPlace := ["slices.overlaps[tithebarn/api.Pending]"], unfollowed := true, recurses := true, apart := false, narrowed := true }
def QueueBackUptoSaid : Prop := queueBackUptoRow.holds Try.pinned (OpenSpec.upto queueBackSpec)

/-- 'tithebarnlaw22.QueueOrder', WHERE WHAT IT READS IS OF BULK AT MOST 1048576: true; the input reads as it did. -/
def queueOrderUptoRow : OpenClaim := { program := "ytgjcojagbgdpnaa", sum := "b39620049dbb37f04d201f6bbf2da758536c4a00bdbc043ff43a9800f0151747", func := "tithebarn/tithebarnlaw22.QueueOrder", spec := "queueOrder", inPlace := ["slices.overlaps[tithebarn/api.Pending]"], unfollowed := true, recurses := true, apart := false, narrowed := true }
def QueueOrderUptoSaid : Prop := queueOrderUptoRow.holds Try.pinned (OpenSpec.upto queueOrderSpec)

end Rows
end Go.Proofs.Ytgjcojagbgdpnaa
