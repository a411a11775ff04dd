/-
  DERIVED. GIVEN WITH THE SEED: THE CARDS: each row of YtenkdioaefckoaaGreatDoorRows.lean that lists a variable, with what it lists TIED to the program's text (the seventh form; the later family's looks); each row that meets fmt, with fmt's text TOLD by the authors' own Lean function (tested against real Go, not proved from fmt's source: count such statements apart). THE CARD IS WHAT COUNTS. Prove the row's statement (the work); the ties are given (YtenkdioaefckoaaGreatDoorTie.lean); close each card by the builder's one call (the guide's Derived/Test/ToyasCard.lean, 'card_holds'). Laid BY PROGRAM, IN A SANDBOX (cutbox-door.mjs). By AI agents, Wed Nov 11 2026. No macro, syntax, notation, axiom, sorry.
-/
import Derived.Test.YtenkdioaefckoaaGreatDoorRows
import GoSem.ClaimSeven
namespace Go.Proofs.YtenkdioaefckoaaGreatDoor
namespace Rows

/-- THE TIED CARD OF 'tithebarntop.TopCrash'. -/
def topCrashCard : Claim7 := { stood := { row := topCrashRow, standIns := [], harness := (true, "3f07e718da1cfd418093ab4bd0da5e0ef9104fe244316e3aa256e0899dafeb4e"), looks := true }, kinds := [], alts := [], laidByText := true, laidKinds := [.sentinel], laidTests := true, laidLooks := .later }
def TopCrashCardSaid : Prop := Claim7.holds Tryz.pinned (.plain (OpenSpec.ofChange topCrashSpec)) topCrashCard

/-- THE TIED CARD OF 'tithebarnlaw26.StoreFull'. -/
def storeFullCard : Claim7 := { stood := { row := storeFullRow, standIns := [], harness := (true, "3f07e718da1cfd418093ab4bd0da5e0ef9104fe244316e3aa256e0899dafeb4e"), looks := true }, kinds := [], alts := [], laidByText := true, laidKinds := [.sentinel], laidTests := true, laidLooks := .later }
def StoreFullCardSaid : Prop := Claim7.holds Tryz.pinned (.plain (OpenSpec.ofChange storeFullSpec)) storeFullCard

/-- THE TIED CARD OF 'tithebarnlaw26.StoreTorn'. -/
def storeTornCard : Claim7 := { stood := { row := storeTornRow, standIns := [], harness := (true, "3f07e718da1cfd418093ab4bd0da5e0ef9104fe244316e3aa256e0899dafeb4e"), looks := true }, kinds := [], alts := [], laidByText := true, laidKinds := [.sentinel], laidTests := true, laidLooks := .later }
def StoreTornCardSaid : Prop := Claim7.holds Tryz.pinned (.plain (OpenSpec.ofChange storeTornSpec)) storeTornCard

/-- THE TIED CARD OF 'tithebarnlaw27.DriverTorn'. -/
def driverTornCard : Claim7 := { stood := { row := driverTornRow, standIns := [], harness := (true, "3f07e718da1cfd418093ab4bd0da5e0ef9104fe244316e3aa256e0899dafeb4e"), looks := true }, kinds := [], alts := [], laidByText := true, laidKinds := [.sentinel], laidTests := true, laidLooks := .later }
def DriverTornCardSaid : Prop := Claim7.holds Tryz.pinned (.plain (OpenSpec.ofChange driverTornSpec)) driverTornCard

/-- THE SECOND FORM's CARD OF 'tithebarntop.TopCrash'. -/
def topCrashUptoCard : Claim7 := { stood := { row := topCrashUptoRow, standIns := [], harness := (true, "3f07e718da1cfd418093ab4bd0da5e0ef9104fe244316e3aa256e0899dafeb4e"), looks := true }, kinds := [], alts := [], laidByText := true, laidKinds := [.sentinel], laidTests := true, laidLooks := .later }
def TopCrashUptoCardSaid : Prop := Claim7.holds Tryz.pinned (.plain (OpenSpec.upto topCrashSpec)) topCrashUptoCard

/-- THE SECOND FORM's CARD OF 'tithebarnlaw26.StoreFull'. -/
def storeFullUptoCard : Claim7 := { stood := { row := storeFullUptoRow, standIns := [], harness := (true, "3f07e718da1cfd418093ab4bd0da5e0ef9104fe244316e3aa256e0899dafeb4e"), looks := true }, kinds := [], alts := [], laidByText := true, laidKinds := [.sentinel], laidTests := true, laidLooks := .later }
def StoreFullUptoCardSaid : Prop := Claim7.holds Tryz.pinned (.plain (OpenSpec.upto storeFullSpec)) storeFullUptoCard

/-- THE SECOND FORM's CARD OF 'tithebarnlaw26.StoreTorn'. -/
def storeTornUptoCard : Claim7 := { stood := { row := storeTornUptoRow, standIns := [], harness := (true, "3f07e718da1cfd418093ab4bd0da5e0ef9104fe244316e3aa256e0899dafeb4e"), looks := true }, kinds := [], alts := [], laidByText := true, laidKinds := [.sentinel], laidTests := true, laidLooks := .later }
def StoreTornUptoCardSaid : Prop := Claim7.holds Tryz.pinned (.plain (OpenSpec.upto storeTornSpec)) storeTornUptoCard

/-- THE SECOND FORM's CARD OF 'tithebarnlaw27.DriverTorn'. -/
def driverTornUptoCard : Claim7 := { stood := { row := driverTornUptoRow, standIns := [], harness := (true, "3f07e718da1cfd418093ab4bd0da5e0ef9104fe244316e3aa256e0899dafeb4e"), looks := true }, kinds := [], alts := [], laidByText := true, laidKinds := [.sentinel], laidTests := true, laidLooks := .later }
def DriverTornUptoCardSaid : Prop := Claim7.holds Tryz.pinned (.plain (OpenSpec.upto driverTornSpec)) driverTornUptoCard
end Rows
end Go.Proofs.YtenkdioaefckoaaGreatDoor
