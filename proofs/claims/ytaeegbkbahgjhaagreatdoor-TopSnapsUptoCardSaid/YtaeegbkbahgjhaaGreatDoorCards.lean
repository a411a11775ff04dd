/-
  DERIVED. GIVEN WITH THE SEED: THE CARDS: each row of YtaeegbkbahgjhaaGreatDoorRows.lean that lists a variable, with what it lists TIED to the program's text (the seventh form; the later family's looks); each row that meets fmt, with fmt's text TOLD by the authors' own Lean function (tested against real Go, not proved from fmt's source: count such statements apart). THE CARD IS WHAT COUNTS. Prove the row's statement (the work); the ties are given (YtaeegbkbahgjhaaGreatDoorTie.lean); close each card by the builder's one call (the guide's Derived/Test/ToyasCard.lean, 'card_holds'). Laid BY PROGRAM, IN A SANDBOX (cutbox-door.mjs). By AI agents, Wed Nov 11 2026. No macro, syntax, notation, axiom, sorry.
-/
import Derived.Test.YtaeegbkbahgjhaaGreatDoorRows
import GoSem.ClaimSeven
namespace Go.Proofs.YtaeegbkbahgjhaaGreatDoor
namespace Rows

/-- THE TIED CARD OF 'tithebarntop.TopSnaps'. -/
def topSnapsCard : Claim7 := { stood := { row := topSnapsRow, standIns := [], harness := (true, "44783aa8c57e524fc5511a63db5558bf225c466b9385e4a65e598477cea7e3d7"), looks := true }, kinds := [], alts := [], laidByText := true, laidKinds := [.sentinel], laidTests := true, laidLooks := .later }
def TopSnapsCardSaid : Prop := Claim7.holds Tryz.pinned (.plain (OpenSpec.ofChange topSnapsSpec)) topSnapsCard

/-- THE SECOND FORM's CARD OF 'tithebarntop.TopSnaps'. -/
def topSnapsUptoCard : Claim7 := { stood := { row := topSnapsUptoRow, standIns := [], harness := (true, "44783aa8c57e524fc5511a63db5558bf225c466b9385e4a65e598477cea7e3d7"), looks := true }, kinds := [], alts := [], laidByText := true, laidKinds := [.sentinel], laidTests := true, laidLooks := .later }
def TopSnapsUptoCardSaid : Prop := Claim7.holds Tryz.pinned (.plain (OpenSpec.upto topSnapsSpec)) topSnapsUptoCard
end Rows
end Go.Proofs.YtaeegbkbahgjhaaGreatDoor
