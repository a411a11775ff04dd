/-
  No cell of these rows narrows 'for every input' (looked for: loops, veiled, ifaces, maps, wideKeys, modest, calm, conditions, laid).
  DERIVED. THE GIVEN ROWS OF THIS SEAT. 8 by the template 'for every input the law returns true; each argument reads behind the call as it read before'; 0 by the template 'total and deterministic' (their statements: YtlalcoklkafnnaaGreatTotals.lean).
  GIVEN WITH THE SEED: the statements are not yours to turn. If you find one false, say at which input.
  Laid BY PROGRAM, IN A SANDBOX (cutbox-rows.mjs): the forced cells as the released guide's own fill.sh prints them over the translation bbf04091c79b8b25… (all of the seat's roots in one cut). By AI agents, Wed Nov 11 2026. No macro, syntax, notation, axiom, sorry.
-/
import Derived.Test.YtlalcoklkafnnaaGreatChecked
import GoSem.Claim
import GoSem.ClaimJoined
import GoSem.ClaimMapViews
import Derived.JoinedTies
import Derived.KernelRfl
namespace Go.Proofs.YtlalcoklkafnnaaGreat
/- THE CELL 'sum', in the pinned program and in every row, IS THE sha256 OF THE DUMP (.gsa) THAT YtlalcoklkafnnaaGreatProg.lean LOADS. Nothing in Lean hashes anything: it is a label: what it is worth is what the hold of that sum in a sandbox is worth. -/
noncomputable def Tryz.pinned : Pinned := { name := "ytlalcoklkafnnaagreat", sum := "bbf04091c79b8b25b132788fa63a6cb8cc6bec13b3614047b55e0bf154dc25a3", checked := Tryz.checked }
namespace Rows
def none {H : Type} : Left H := { results := [], args := [] }

/-- 'tithebarnlaw21.VictimsChosen': WHATEVER THE INPUT: true; the input reads as it did. -/
def victimsChosenSpec : ChangeSpec := { name := "victimsChosen", fn := fun _ => fun
  | [d1, d2] => { results := [.lit (.bool true)], args := [d1, d2] }
  | _ => none }
def victimsChosenRow : OpenClaim := { program := "ytlalcoklkafnnaagreat", sum := "bbf04091c79b8b25b132788fa63a6cb8cc6bec13b3614047b55e0bf154dc25a3", func := "tithebarn/tithebarnlaw21.VictimsChosen", spec := "victimsChosen", unfollowed := true, recurses := true, plainKeys := false, apart := false }
def VictimsChosenSaid : Prop := victimsChosenRow.holds Tryz.pinned (OpenSpec.ofChange victimsChosenSpec)

/-- ITS FALSE NEIGHBOUR: 'it returns false'. Refute it at one input. -/
def victimsChosenWrong : ChangeSpec := { name := "victimsChosen", fn := fun _ => fun
  | [d1, d2] => { results := [.lit (.bool false)], args := [d1, d2] }
  | _ => none }
def VictimsChosenWrongFalsely : Prop := victimsChosenRow.holds Tryz.pinned (OpenSpec.ofChange victimsChosenWrong)

/-- 'tithebarnlaw21.VictimsFit': WHATEVER THE INPUT: true; the input reads as it did. -/
def victimsFitSpec : ChangeSpec := { name := "victimsFit", fn := fun _ => fun
  | [d1, d2] => { results := [.lit (.bool true)], args := [d1, d2] }
  | _ => none }
def victimsFitRow : OpenClaim := { program := "ytlalcoklkafnnaagreat", sum := "bbf04091c79b8b25b132788fa63a6cb8cc6bec13b3614047b55e0bf154dc25a3", func := "tithebarn/tithebarnlaw21.VictimsFit", spec := "victimsFit", unfollowed := true, recurses := true, plainKeys := false, apart := false }
def VictimsFitSaid : Prop := victimsFitRow.holds Tryz.pinned (OpenSpec.ofChange victimsFitSpec)

/-- ITS FALSE NEIGHBOUR: 'it returns false'. Refute it at one input. -/
def victimsFitWrong : ChangeSpec := { name := "victimsFit", fn := fun _ => fun
  | [d1, d2] => { results := [.lit (.bool false)], args := [d1, d2] }
  | _ => none }
def VictimsFitWrongFalsely : Prop := victimsFitRow.holds Tryz.pinned (OpenSpec.ofChange victimsFitWrong)

/-- 'tithebarnlaw21.VictimsNeeded': WHATEVER THE INPUT: true; the input reads as it did. -/
def victimsNeededSpec : ChangeSpec := { name := "victimsNeeded", fn := fun _ => fun
  | [d1, d2] => { results := [.lit (.bool true)], args := [d1, d2] }
  | _ => none }
def victimsNeededRow : OpenClaim := { program := "ytlalcoklkafnnaagreat", sum := "bbf04091c79b8b25b132788fa63a6cb8cc6bec13b3614047b55e0bf154dc25a3", func := "tithebarn/tithebarnlaw21.VictimsNeeded", spec := "victimsNeeded", unfollowed := true, recurses := true, plainKeys := false, apart := false }
def VictimsNeededSaid : Prop := victimsNeededRow.holds Tryz.pinned (OpenSpec.ofChange victimsNeededSpec)

/-- ITS FALSE NEIGHBOUR: 'it returns false'. Refute it at one input. -/
def victimsNeededWrong : ChangeSpec := { name := "victimsNeeded", fn := fun _ => fun
  | [d1, d2] => { results := [.lit (.bool false)], args := [d1, d2] }
  | _ => none }
def VictimsNeededWrongFalsely : Prop := victimsNeededRow.holds Tryz.pinned (OpenSpec.ofChange victimsNeededWrong)

/-- 'tithebarnlaw19.ReserveFits': WHATEVER THE INPUT: true; the input reads as it did. -/
def reserveFitsSpec : ChangeSpec := { name := "reserveFits", fn := fun _ => fun
  | [d1, d2] => { results := [.lit (.bool true)], args := [d1, d2] }
  | _ => none }
def reserveFitsRow : OpenClaim := { program := "ytlalcoklkafnnaagreat", sum := "bbf04091c79b8b25b132788fa63a6cb8cc6bec13b3614047b55e0bf154dc25a3", func := "tithebarn/tithebarnlaw19.ReserveFits", spec := "reserveFits", unfollowed := true, recurses := true, plainKeys := false, apart := false }
def ReserveFitsSaid : Prop := reserveFitsRow.holds Tryz.pinned (OpenSpec.ofChange reserveFitsSpec)

/-- ITS FALSE NEIGHBOUR: 'it returns false'. Refute it at one input. -/
def reserveFitsWrong : ChangeSpec := { name := "reserveFits", fn := fun _ => fun
  | [d1, d2] => { results := [.lit (.bool false)], args := [d1, d2] }
  | _ => none }
def ReserveFitsWrongFalsely : Prop := reserveFitsRow.holds Tryz.pinned (OpenSpec.ofChange reserveFitsWrong)

/-- 'tithebarnlaw19.ReserveStarts': WHATEVER THE INPUT: true; the input reads as it did. -/
def reserveStartsSpec : ChangeSpec := { name := "reserveStarts", fn := fun _ => fun
  | [d1, d2] => { results := [.lit (.bool true)], args := [d1, d2] }
  | _ => none }
def reserveStartsRow : OpenClaim := { program := "ytlalcoklkafnnaagreat", sum := "bbf04091c79b8b25b132788fa63a6cb8cc6bec13b3614047b55e0bf154dc25a3", func := "tithebarn/tithebarnlaw19.ReserveStarts", spec := "reserveStarts", unfollowed := true, recurses := true, plainKeys := false, apart := false }
def ReserveStartsSaid : Prop := reserveStartsRow.holds Tryz.pinned (OpenSpec.ofChange reserveStartsSpec)

/-- ITS FALSE NEIGHBOUR: 'it returns false'. Refute it at one input. -/
def reserveStartsWrong : ChangeSpec := { name := "reserveStarts", fn := fun _ => fun
  | [d1, d2] => { results := [.lit (.bool false)], args := [d1, d2] }
  | _ => none }
def ReserveStartsWrongFalsely : Prop := reserveStartsRow.holds Tryz.pinned (OpenSpec.ofChange reserveStartsWrong)

/-- 'tithebarnlaw19.ReserveSafe': WHATEVER THE INPUT: true; the input reads as it did. -/
def reserveSafeSpec : ChangeSpec := { name := "reserveSafe", fn := fun _ => fun
  | [d1, d2] => { results := [.lit (.bool true)], args := [d1, d2] }
  | _ => none }
def reserveSafeRow : OpenClaim := { program := "ytlalcoklkafnnaagreat", sum := "bbf04091c79b8b25b132788fa63a6cb8cc6bec13b3614047b55e0bf154dc25a3", func := "tithebarn/tithebarnlaw19.ReserveSafe", spec := "reserveSafe", unfollowed := true, recurses := true, plainKeys := false, apart := false }
def ReserveSafeSaid : Prop := reserveSafeRow.holds Tryz.pinned (OpenSpec.ofChange reserveSafeSpec)

/-- ITS FALSE NEIGHBOUR: 'it returns false'. Refute it at one input. -/
def reserveSafeWrong : ChangeSpec := { name := "reserveSafe", fn := fun _ => fun
  | [d1, d2] => { results := [.lit (.bool false)], args := [d1, d2] }
  | _ => none }
def ReserveSafeWrongFalsely : Prop := reserveSafeRow.holds Tryz.pinned (OpenSpec.ofChange reserveSafeWrong)

/-- 'tithebarnlaw20.BackfillLaters': WHATEVER THE INPUT: true; the input reads as it did. -/
def backfillLatersSpec : ChangeSpec := { name := "backfillLaters", fn := fun _ => fun
  | [d1, d2, d3] => { results := [.lit (.bool true)], args := [d1, d2, d3] }
  | _ => none }
def backfillLatersRow : OpenClaim := { program := "ytlalcoklkafnnaagreat", sum := "bbf04091c79b8b25b132788fa63a6cb8cc6bec13b3614047b55e0bf154dc25a3", func := "tithebarn/tithebarnlaw20.BackfillLaters", spec := "backfillLaters", unfollowed := true, recurses := true, plainKeys := false, apart := false }
def BackfillLatersSaid : Prop := backfillLatersRow.holds Tryz.pinned (OpenSpec.ofChange backfillLatersSpec)

/-- ITS FALSE NEIGHBOUR: 'it returns false'. Refute it at one input. -/
def backfillLatersWrong : ChangeSpec := { name := "backfillLaters", fn := fun _ => fun
  | [d1, d2, d3] => { results := [.lit (.bool false)], args := [d1, d2, d3] }
  | _ => none }
def BackfillLatersWrongFalsely : Prop := backfillLatersRow.holds Tryz.pinned (OpenSpec.ofChange backfillLatersWrong)

/-- 'tithebarnlaw20.BackfillSafe': WHATEVER THE INPUT: true; the input reads as it did. -/
def backfillSafeSpec : ChangeSpec := { name := "backfillSafe", fn := fun _ => fun
  | [d1, d2, d3] => { results := [.lit (.bool true)], args := [d1, d2, d3] }
  | _ => none }
def backfillSafeRow : OpenClaim := { program := "ytlalcoklkafnnaagreat", sum := "bbf04091c79b8b25b132788fa63a6cb8cc6bec13b3614047b55e0bf154dc25a3", func := "tithebarn/tithebarnlaw20.BackfillSafe", spec := "backfillSafe", unfollowed := true, recurses := true, plainKeys := false, apart := false }
def BackfillSafeSaid : Prop := backfillSafeRow.holds Tryz.pinned (OpenSpec.ofChange backfillSafeSpec)

/-- ITS FALSE NEIGHBOUR: 'it returns false'. Refute it at one input. -/
def backfillSafeWrong : ChangeSpec := { name := "backfillSafe", fn := fun _ => fun
  | [d1, d2, d3] => { results := [.lit (.bool false)], args := [d1, d2, d3] }
  | _ => none }
def BackfillSafeWrongFalsely : Prop := backfillSafeRow.holds Tryz.pinned (OpenSpec.ofChange backfillSafeWrong)

/- THE SECOND FORM. 'bulk': how many values and letters a reading holds, each counted each time it is reached (what is shared counts as often as it is met; a slice's spare places count too). A statement '..UptoSaid' is the law's where the arguments, and the package variables that the reading takes, are together of bulk at most 1048576: NARROWER than '..Said'. Prove '..Said' where nothing that the law and all that it calls make is longer than what came in: it says more and counts as full. Else prove '..UptoSaid'. A law counts once. -/
mutual
def uptoBulk {H : Type} : DataW H → Nat
  | .lit (.string bytes) => bytes.length + 1
  | .lit _ => 1
  | .nil => 1
  | .ptr d => uptoBulk d + 1
  | .slice elems spare => uptoBulkAll elems + uptoBulkAll spare + 1
  | .agg parts => uptoBulkAll parts + 1
  | .iface _ d => uptoBulk d + 1
  | .map entries => uptoBulkEntries entries + 1
  | .held _ => 1
def uptoBulkAll {H : Type} : List (DataW H) → Nat
  | [] => 0
  | d :: r => uptoBulk d + uptoBulkAll r
def uptoBulkEntries {H : Type} : List (Lit × DataW H) → Nat
  | [] => 0
  | x :: r => uptoBulkEntry x + uptoBulkEntries r
def uptoBulkEntry {H : Type} : Lit × DataW H → Nat
  | (.string bytes, d) => bytes.length + uptoBulk d + 1
  | (_, d) => uptoBulk d + 1
 end
def uptoSmall : (H : Type) → List (DataW H) → Bool := fun _ ds => decide (uptoBulkAll ds ≤ 1048576)
def OpenSpec.upto (s : _root_.Go.ChangeSpec) : _root_.Go.OpenSpec := { _root_.Go.OpenSpec.ofChange s with cond := some uptoSmall }

/-- 'tithebarnlaw21.VictimsChosen', WHERE WHAT IT READS IS OF BULK AT MOST 1048576: true; the input reads as it did. -/
def victimsChosenUptoRow : OpenClaim := { program := "ytlalcoklkafnnaagreat", sum := "bbf04091c79b8b25b132788fa63a6cb8cc6bec13b3614047b55e0bf154dc25a3", func := "tithebarn/tithebarnlaw21.VictimsChosen", spec := "victimsChosen", unfollowed := true, recurses := true, plainKeys := false, apart := false, narrowed := true }
def VictimsChosenUptoSaid : Prop := victimsChosenUptoRow.holds Tryz.pinned (OpenSpec.upto victimsChosenSpec)

/-- 'tithebarnlaw21.VictimsFit', WHERE WHAT IT READS IS OF BULK AT MOST 1048576: true; the input reads as it did. -/
def victimsFitUptoRow : OpenClaim := { program := "ytlalcoklkafnnaagreat", sum := "bbf04091c79b8b25b132788fa63a6cb8cc6bec13b3614047b55e0bf154dc25a3", func := "tithebarn/tithebarnlaw21.VictimsFit", spec := "victimsFit", unfollowed := true, recurses := true, plainKeys := false, apart := false, narrowed := true }
def VictimsFitUptoSaid : Prop := victimsFitUptoRow.holds Tryz.pinned (OpenSpec.upto victimsFitSpec)

/-- 'tithebarnlaw21.VictimsNeeded', WHERE WHAT IT READS IS OF BULK AT MOST 1048576: true; the input reads as it did. -/
def victimsNeededUptoRow : OpenClaim := { program := "ytlalcoklkafnnaagreat", sum := "bbf04091c79b8b25b132788fa63a6cb8cc6bec13b3614047b55e0bf154dc25a3", func := "tithebarn/tithebarnlaw21.VictimsNeeded", spec := "victimsNeeded", unfollowed := true, recurses := true, plainKeys := false, apart := false, narrowed := true }
def VictimsNeededUptoSaid : Prop := victimsNeededUptoRow.holds Tryz.pinned (OpenSpec.upto victimsNeededSpec)

/-- 'tithebarnlaw19.ReserveFits', WHERE WHAT IT READS IS OF BULK AT MOST 1048576: true; the input reads as it did. -/
def reserveFitsUptoRow : OpenClaim := { program := "ytlalcoklkafnnaagreat", sum := "bbf04091c79b8b25b132788fa63a6cb8cc6bec13b3614047b55e0bf154dc25a3", func := "tithebarn/tithebarnlaw19.ReserveFits", spec := "reserveFits", unfollowed := true, recurses := true, plainKeys := false, apart := false, narrowed := true }
def ReserveFitsUptoSaid : Prop := reserveFitsUptoRow.holds Tryz.pinned (OpenSpec.upto reserveFitsSpec)

/-- 'tithebarnlaw19.ReserveStarts', WHERE WHAT IT READS IS OF BULK AT MOST 1048576: true; the input reads as it did. -/
def reserveStartsUptoRow : OpenClaim := { program := "ytlalcoklkafnnaagreat", sum := "bbf04091c79b8b25b132788fa63a6cb8cc6bec13b3614047b55e0bf154dc25a3", func := "tithebarn/tithebarnlaw19.ReserveStarts", spec := "reserveStarts", unfollowed := true, recurses := true, plainKeys := false, apart := false, narrowed := true }
def ReserveStartsUptoSaid : Prop := reserveStartsUptoRow.holds Tryz.pinned (OpenSpec.upto reserveStartsSpec)

/-- 'tithebarnlaw19.ReserveSafe', WHERE WHAT IT READS IS OF BULK AT MOST 1048576: true; the input reads as it did. -/
def reserveSafeUptoRow : OpenClaim := { program := "ytlalcoklkafnnaagreat", sum := "bbf04091c79b8b25b132788fa63a6cb8cc6bec13b3614047b55e0bf154dc25a3", func := "tithebarn/tithebarnlaw19.ReserveSafe", spec := "reserveSafe", unfollowed := true, recurses := true, plainKeys := false, apart := false, narrowed := true }
def ReserveSafeUptoSaid : Prop := reserveSafeUptoRow.holds Tryz.pinned (OpenSpec.upto reserveSafeSpec)

/-- 'tithebarnlaw20.BackfillLaters', WHERE WHAT IT READS IS OF BULK AT MOST 1048576: true; the input reads as it did. -/
def backfillLatersUptoRow : OpenClaim := { program := "ytlalcoklkafnnaagreat", sum := "bbf04091c79b8b25b132788fa63a6cb8cc6bec13b3614047b55e0bf154dc25a3", func := "tithebarn/tithebarnlaw20.BackfillLaters", spec := "backfillLaters", unfollowed := true, recurses := true, plainKeys := false, apart := false, narrowed := true }
def BackfillLatersUptoSaid : Prop := backfillLatersUptoRow.holds Tryz.pinned (OpenSpec.upto backfillLatersSpec)

/-- 'tithebarnlaw20.BackfillSafe', WHERE WHAT IT READS IS OF BULK AT MOST 1048576: true; the input reads as it did. -/
def backfillSafeUptoRow : OpenClaim := { program := "ytlalcoklkafnnaagreat", sum := "bbf04091c79b8b25b132788fa63a6cb8cc6bec13b3614047b55e0bf154dc25a3", func := "tithebarn/tithebarnlaw20.BackfillSafe", spec := "backfillSafe", unfollowed := true, recurses := true, plainKeys := false, apart := false, narrowed := true }
def BackfillSafeUptoSaid : Prop := backfillSafeUptoRow.holds Tryz.pinned (OpenSpec.upto backfillSafeSpec)

end Rows
end Go.Proofs.YtlalcoklkafnnaaGreat
