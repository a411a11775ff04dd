/-
  No cell of these rows narrows 'for every input' (looked for: loops, veiled, ifaces, maps, wideKeys, modest, calm, conditions, laid).
  DERIVED. THE GIVEN ROWS OF THIS SEAT. 6 by the template 'for every input the law returns true; each argument reads behind the call as it read before'; 0 by the template 'total and deterministic' (their statements: YtlalcoklkafnnaaTotals.lean).
  GIVEN WITH THE SEED: the statements are not yours to turn. If you find one false, say at which input.
  Laid BY PROGRAM, IN A SANDBOX (cutbox-rows.mjs): the forced cells as the released guide's own fill.sh prints them over the translation 5dbdd6faf701887b… (all of the seat's roots in one cut). By AI agents, Wed Nov 11 2026. No macro, syntax, notation, axiom, sorry.
-/
import Derived.Test.YtlalcoklkafnnaaChecked
import GoSem.Claim
import GoSem.ClaimJoined
import GoSem.ClaimMapViews
import Derived.JoinedTies
import Derived.KernelRfl
namespace Go.Proofs.Ytlalcoklkafnnaa
/- THE CELL 'sum', in the pinned program and in every row, IS THE sha256 OF THE DUMP (.gsa) THAT YtlalcoklkafnnaaProg.lean LOADS. Nothing in Lean hashes anything: it is a label: what it is worth is what the hold of that sum in a sandbox is worth. -/
noncomputable def Try.pinned : Pinned := { name := "ytlalcoklkafnnaa", sum := "5dbdd6faf701887b646f1ab922344d8b91fe84ca76476801c1e57b4b4e3ef712", checked := Try.checked }
namespace Rows
def none {H : Type} : Left H := { results := [], args := [] }

/-- 'tithebarnlaw21.VictimsOrder': WHATEVER THE INPUT: true; the input reads as it did. -/
def victimsOrderSpec : ChangeSpec := { name := "victimsOrder", fn := fun _ => fun
  | [d1, d2] => { results := [.lit (.bool true)], args := [d1, d2] }
  | _ => none }
def victimsOrderRow : OpenClaim := { program := "ytlalcoklkafnnaa", sum := "5dbdd6faf701887b646f1ab922344d8b91fe84ca76476801c1e57b4b4e3ef712", func := "tithebarn/tithebarnlaw21.VictimsOrder", spec := "victimsOrder", unfollowed := true, recurses := true, plainKeys := false, apart := false }
def VictimsOrderSaid : Prop := victimsOrderRow.holds Try.pinned (OpenSpec.ofChange victimsOrderSpec)

/-- ITS FALSE NEIGHBOUR: 'it returns false'. Refute it at one input. -/
def victimsOrderWrong : ChangeSpec := { name := "victimsOrder", fn := fun _ => fun
  | [d1, d2] => { results := [.lit (.bool false)], args := [d1, d2] }
  | _ => none }
def VictimsOrderWrongFalsely : Prop := victimsOrderRow.holds Try.pinned (OpenSpec.ofChange victimsOrderWrong)

/-- 'tithebarnlaw21.VictimsBorrow': WHATEVER THE INPUT: true; the input reads as it did. -/
def victimsBorrowSpec : ChangeSpec := { name := "victimsBorrow", fn := fun _ => fun
  | [d1, d2] => { results := [.lit (.bool true)], args := [d1, d2] }
  | _ => none }
def victimsBorrowRow : OpenClaim := { program := "ytlalcoklkafnnaa", sum := "5dbdd6faf701887b646f1ab922344d8b91fe84ca76476801c1e57b4b4e3ef712", func := "tithebarn/tithebarnlaw21.VictimsBorrow", spec := "victimsBorrow", unfollowed := true, recurses := true, plainKeys := false, apart := false }
def VictimsBorrowSaid : Prop := victimsBorrowRow.holds Try.pinned (OpenSpec.ofChange victimsBorrowSpec)

/-- ITS FALSE NEIGHBOUR: 'it returns false'. Refute it at one input. -/
def victimsBorrowWrong : ChangeSpec := { name := "victimsBorrow", fn := fun _ => fun
  | [d1, d2] => { results := [.lit (.bool false)], args := [d1, d2] }
  | _ => none }
def VictimsBorrowWrongFalsely : Prop := victimsBorrowRow.holds Try.pinned (OpenSpec.ofChange victimsBorrowWrong)

/-- 'tithebarnlaw19.ReserveSome': WHATEVER THE INPUT: true; the input reads as it did. -/
def reserveSomeSpec : ChangeSpec := { name := "reserveSome", fn := fun _ => fun
  | [d1, d2] => { results := [.lit (.bool true)], args := [d1, d2] }
  | _ => none }
def reserveSomeRow : OpenClaim := { program := "ytlalcoklkafnnaa", sum := "5dbdd6faf701887b646f1ab922344d8b91fe84ca76476801c1e57b4b4e3ef712", func := "tithebarn/tithebarnlaw19.ReserveSome", spec := "reserveSome", unfollowed := true, recurses := true, plainKeys := false, apart := false }
def ReserveSomeSaid : Prop := reserveSomeRow.holds Try.pinned (OpenSpec.ofChange reserveSomeSpec)

/-- ITS FALSE NEIGHBOUR: 'it returns false'. Refute it at one input. -/
def reserveSomeWrong : ChangeSpec := { name := "reserveSome", fn := fun _ => fun
  | [d1, d2] => { results := [.lit (.bool false)], args := [d1, d2] }
  | _ => none }
def ReserveSomeWrongFalsely : Prop := reserveSomeRow.holds Try.pinned (OpenSpec.ofChange reserveSomeWrong)

/-- 'tithebarnlaw19.ReserveFirst': WHATEVER THE INPUT: true; the input reads as it did. -/
def reserveFirstSpec : ChangeSpec := { name := "reserveFirst", fn := fun _ => fun
  | [d1, d2, d3] => { results := [.lit (.bool true)], args := [d1, d2, d3] }
  | _ => none }
def reserveFirstRow : OpenClaim := { program := "ytlalcoklkafnnaa", sum := "5dbdd6faf701887b646f1ab922344d8b91fe84ca76476801c1e57b4b4e3ef712", func := "tithebarn/tithebarnlaw19.ReserveFirst", spec := "reserveFirst", unfollowed := true, recurses := true, plainKeys := false, apart := false }
def ReserveFirstSaid : Prop := reserveFirstRow.holds Try.pinned (OpenSpec.ofChange reserveFirstSpec)

/-- ITS FALSE NEIGHBOUR: 'it returns false'. Refute it at one input. -/
def reserveFirstWrong : ChangeSpec := { name := "reserveFirst", fn := fun _ => fun
  | [d1, d2, d3] => { results := [.lit (.bool false)], args := [d1, d2, d3] }
  | _ => none }
def ReserveFirstWrongFalsely : Prop := reserveFirstRow.holds Try.pinned (OpenSpec.ofChange reserveFirstWrong)

/-- 'tithebarnlaw20.BackfillMays': WHATEVER THE INPUT: true; the input reads as it did. -/
def backfillMaysSpec : ChangeSpec := { name := "backfillMays", fn := fun _ => fun
  | [d1, d2, d3] => { results := [.lit (.bool true)], args := [d1, d2, d3] }
  | _ => none }
def backfillMaysRow : OpenClaim := { program := "ytlalcoklkafnnaa", sum := "5dbdd6faf701887b646f1ab922344d8b91fe84ca76476801c1e57b4b4e3ef712", func := "tithebarn/tithebarnlaw20.BackfillMays", spec := "backfillMays", unfollowed := true, recurses := true, plainKeys := false, apart := false }
def BackfillMaysSaid : Prop := backfillMaysRow.holds Try.pinned (OpenSpec.ofChange backfillMaysSpec)

/-- ITS FALSE NEIGHBOUR: 'it returns false'. Refute it at one input. -/
def backfillMaysWrong : ChangeSpec := { name := "backfillMays", fn := fun _ => fun
  | [d1, d2, d3] => { results := [.lit (.bool false)], args := [d1, d2, d3] }
  | _ => none }
def BackfillMaysWrongFalsely : Prop := backfillMaysRow.holds Try.pinned (OpenSpec.ofChange backfillMaysWrong)

/-- 'tithebarnlaw20.BackfillShorter': WHATEVER THE INPUT: true; the input reads as it did. -/
def backfillShorterSpec : ChangeSpec := { name := "backfillShorter", fn := fun _ => fun
  | [d1, d2, d3] => { results := [.lit (.bool true)], args := [d1, d2, d3] }
  | _ => none }
def backfillShorterRow : OpenClaim := { program := "ytlalcoklkafnnaa", sum := "5dbdd6faf701887b646f1ab922344d8b91fe84ca76476801c1e57b4b4e3ef712", func := "tithebarn/tithebarnlaw20.BackfillShorter", spec := "backfillShorter", unfollowed := true, recurses := true, plainKeys := false, apart := false }
def BackfillShorterSaid : Prop := backfillShorterRow.holds Try.pinned (OpenSpec.ofChange backfillShorterSpec)

/-- ITS FALSE NEIGHBOUR: 'it returns false'. Refute it at one input. -/
def backfillShorterWrong : ChangeSpec := { name := "backfillShorter", fn := fun _ => fun
  | [d1, d2, d3] => { results := [.lit (.bool false)], args := [d1, d2, d3] }
  | _ => none }
def BackfillShorterWrongFalsely : Prop := backfillShorterRow.holds Try.pinned (OpenSpec.ofChange backfillShorterWrong)

/- THE SECOND FORM. 'bulk': how many values and letters a reading holds, each counted each time it is reached (what is shared counts as often as it is met; a slice's spare places count too). A statement '..UptoSaid' is the law's where the arguments, and the package variables that the reading takes, are together of bulk at most 1048576: NARROWER than '..Said'. Prove '..Said' where nothing that the law and all that it calls make is longer than what came in: it says more and counts as full. Else prove '..UptoSaid'. A law counts once. -/
mutual
def uptoBulk {H : Type} : DataW H → Nat
  | .lit (.string bytes) => bytes.length + 1
  | .lit _ => 1
  | .nil => 1
  | .ptr d => uptoBulk d + 1
  | .slice elems spare => uptoBulkAll elems + uptoBulkAll spare + 1
  | .agg parts => uptoBulkAll parts + 1
  | .iface _ d => uptoBulk d + 1
  | .map entries => uptoBulkEntries entries + 1
  | .held _ => 1
def uptoBulkAll {H : Type} : List (DataW H) → Nat
  | [] => 0
  | d :: r => uptoBulk d + uptoBulkAll r
def uptoBulkEntries {H : Type} : List (Lit × DataW H) → Nat
  | [] => 0
  | x :: r => uptoBulkEntry x + uptoBulkEntries r
def uptoBulkEntry {H : Type} : Lit × DataW H → Nat
  | (.string bytes, d) => bytes.length + uptoBulk d + 1
  | (_, d) => uptoBulk d + 1
 end
def uptoSmall : (H : Type) → List (DataW H) → Bool := fun _ ds => decide (uptoBulkAll ds ≤ 1048576)
def OpenSpec.upto (s : _root_.Go.ChangeSpec) : _root_.Go.OpenSpec := { _root_.Go.OpenSpec.ofChange s with cond := some uptoSmall }

/-- 'tithebarnlaw21.VictimsOrder', WHERE WHAT IT READS IS OF BULK AT MOST 1048576: true; the input reads as it did. -/
def victimsOrderUptoRow : OpenClaim := { program := "ytlalcoklkafnnaa", sum := "5dbdd6faf701887b646f1ab922344d8b91fe84ca76476801c1e57b4b4e3ef712", func := "tithebarn/tithebarnlaw21.VictimsOrder", spec := "victimsOrder", unfollowed := true, recurses := true, plainKeys := false, apart := false, narrowed := true }
def VictimsOrderUptoSaid : Prop := victimsOrderUptoRow.holds Try.pinned (OpenSpec.upto victimsOrderSpec)

/-- 'tithebarnlaw21.VictimsBorrow', WHERE WHAT IT READS IS OF BULK AT MOST 1048576: true; the input reads as it did. -/
def victimsBorrowUptoRow : OpenClaim := { program := "ytlalcoklkafnnaa", sum := "5dbdd6faf701887b646f1ab922344d8b91fe84ca76476801c1e57b4b4e3ef712", func := "tithebarn/tithebarnlaw21.VictimsBorrow", spec := "victimsBorrow", unfollowed := true, recurses := true, plainKeys := false, apart := false, narrowed := true }
def VictimsBorrowUptoSaid : Prop := victimsBorrowUptoRow.holds Try.pinned (OpenSpec.upto victimsBorrowSpec)

/-- 'tithebarnlaw19.ReserveSome', WHERE WHAT IT READS IS OF BULK AT MOST 1048576: true; the input reads as it did. -/
def reserveSomeUptoRow : OpenClaim := { program := "ytlalcoklkafnnaa", sum := "5dbdd6faf701887b646f1ab922344d8b91fe84ca76476801c1e57b4b4e3ef712", func := "tithebarn/tithebarnlaw19.ReserveSome", spec := "reserveSome", unfollowed := true, recurses := true, plainKeys := false, apart := false, narrowed := true }
def ReserveSomeUptoSaid : Prop := reserveSomeUptoRow.holds Try.pinned (OpenSpec.upto reserveSomeSpec)

/-- 'tithebarnlaw19.ReserveFirst', WHERE WHAT IT READS IS OF BULK AT MOST 1048576: true; the input reads as it did. -/
def reserveFirstUptoRow : OpenClaim := { program := "ytlalcoklkafnnaa", sum := "5dbdd6faf701887b646f1ab922344d8b91fe84ca76476801c1e57b4b4e3ef712", func := "tithebarn/tithebarnlaw19.ReserveFirst", spec := "reserveFirst", unfollowed := true, recurses := true, plainKeys := false, apart := false, narrowed := true }
def ReserveFirstUptoSaid : Prop := reserveFirstUptoRow.holds Try.pinned (OpenSpec.upto reserveFirstSpec)

/-- 'tithebarnlaw20.BackfillMays', WHERE WHAT IT READS IS OF BULK AT MOST 1048576: true; the input reads as it did. -/
def backfillMaysUptoRow : OpenClaim := { program := "ytlalcoklkafnnaa", sum := "5dbdd6faf701887b646f1ab922344d8b91fe84ca76476801c1e57b4b4e3ef712", func := "tithebarn/tithebarnlaw20.BackfillMays", spec := "backfillMays", unfollowed := true, recurses := true, plainKeys := false, apart := false, narrowed := true }
def BackfillMaysUptoSaid : Prop := backfillMaysUptoRow.holds Try.pinned (OpenSpec.upto backfillMaysSpec)

/-- 'tithebarnlaw20.BackfillShorter', WHERE WHAT IT READS IS OF BULK AT MOST 1048576: true; the input reads as it did. -/
def backfillShorterUptoRow : OpenClaim := { program := "ytlalcoklkafnnaa", sum := "5dbdd6faf701887b646f1ab922344d8b91fe84ca76476801c1e57b4b4e3ef712", func := "tithebarn/tithebarnlaw20.BackfillShorter", spec := "backfillShorter", unfollowed := true, recurses := true, plainKeys := false, apart := false, narrowed := true }
def BackfillShorterUptoSaid : Prop := backfillShorterUptoRow.holds Try.pinned (OpenSpec.upto backfillShorterSpec)

end Rows
end Go.Proofs.Ytlalcoklkafnnaa
