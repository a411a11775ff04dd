/-
  DERIVED. GIVEN WITH THE SEED: THE CARDS: each row of YtidhfoefaomodaaGreatDoorRows.lean that lists a variable, with what it lists TIED to the program's text (the seventh form; the later family's looks); each row that meets fmt, with fmt's text TOLD by the authors' own Lean function (tested against real Go, not proved from fmt's source: count such statements apart). THE CARD IS WHAT COUNTS. Prove the row's statement (the work); the ties are given (YtidhfoefaomodaaGreatDoorTie.lean); close each card by the builder's one call (the guide's Derived/Test/ToyasCard.lean, 'card_holds'). Laid BY PROGRAM, IN A SANDBOX (cutbox-door.mjs). By AI agents, Wed Nov 11 2026. No macro, syntax, notation, axiom, sorry.
-/
import Derived.Test.YtidhfoefaomodaaGreatDoorRows
import GoSem.ClaimSeven
namespace Go.Proofs.YtidhfoefaomodaaGreatDoor
namespace Rows

/-- THE TIED CARD OF 'tithebarntop.TopOrder'. -/
def topOrderCard : Claim7 := { stood := { row := topOrderRow, standIns := [], harness := (true, "642f9ee09654d442e4db0771c6bfa7c53200e8f6f519ff7ffa234aecd4ae053a"), looks := true }, kinds := [], alts := [], laidByText := true, laidKinds := [.sentinel], laidTests := true, laidLooks := .later }
def TopOrderCardSaid : Prop := Claim7.holds Tryz.pinned (.plain (OpenSpec.ofChange topOrderSpec)) topOrderCard

/-- THE TIED CARD OF 'tithebarntop.TopSnaps'. -/
def topSnapsCard : Claim7 := { stood := { row := topSnapsRow, standIns := [], harness := (true, "642f9ee09654d442e4db0771c6bfa7c53200e8f6f519ff7ffa234aecd4ae053a"), looks := true }, kinds := [], alts := [], laidByText := true, laidKinds := [.sentinel], laidTests := true, laidLooks := .later }
def TopSnapsCardSaid : Prop := Claim7.holds Tryz.pinned (.plain (OpenSpec.ofChange topSnapsSpec)) topSnapsCard

/-- THE TIED CARD OF 'tithebarnlaw26.StoreKeeps'. -/
def storeKeepsCard : Claim7 := { stood := { row := storeKeepsRow, standIns := [], harness := (true, "642f9ee09654d442e4db0771c6bfa7c53200e8f6f519ff7ffa234aecd4ae053a"), looks := true }, kinds := [], alts := [], laidByText := true, laidKinds := [.sentinel], laidTests := true, laidLooks := .later }
def StoreKeepsCardSaid : Prop := Claim7.holds Tryz.pinned (.plain (OpenSpec.ofChange storeKeepsSpec)) storeKeepsCard

/-- THE TIED CARD OF 'tithebarnlaw26.StoreNone'. -/
def storeNoneCard : Claim7 := { stood := { row := storeNoneRow, standIns := [], harness := (true, "642f9ee09654d442e4db0771c6bfa7c53200e8f6f519ff7ffa234aecd4ae053a"), looks := true }, kinds := [], alts := [], laidByText := true, laidKinds := [.sentinel], laidTests := true, laidLooks := .later }
def StoreNoneCardSaid : Prop := Claim7.holds Tryz.pinned (.plain (OpenSpec.ofChange storeNoneSpec)) storeNoneCard

/-- THE TIED CARD OF 'tithebarnlaw27.DriverWhole'. -/
def driverWholeCard : Claim7 := { stood := { row := driverWholeRow, standIns := [], harness := (true, "642f9ee09654d442e4db0771c6bfa7c53200e8f6f519ff7ffa234aecd4ae053a"), looks := true }, kinds := [], alts := [], laidByText := true, laidKinds := [.sentinel], laidTests := true, laidLooks := .later }
def DriverWholeCardSaid : Prop := Claim7.holds Tryz.pinned (.plain (OpenSpec.ofChange driverWholeSpec)) driverWholeCard

/-- THE TIED CARD OF 'tithebarnlaw27.DriverCrashes'. -/
def driverCrashesCard : Claim7 := { stood := { row := driverCrashesRow, standIns := [], harness := (true, "642f9ee09654d442e4db0771c6bfa7c53200e8f6f519ff7ffa234aecd4ae053a"), looks := true }, kinds := [], alts := [], laidByText := true, laidKinds := [.sentinel], laidTests := true, laidLooks := .later }
def DriverCrashesCardSaid : Prop := Claim7.holds Tryz.pinned (.plain (OpenSpec.ofChange driverCrashesSpec)) driverCrashesCard

/-- THE TIED CARD OF 'tithebarnlaw27.DriverNone'. -/
def driverNoneCard : Claim7 := { stood := { row := driverNoneRow, standIns := [], harness := (true, "642f9ee09654d442e4db0771c6bfa7c53200e8f6f519ff7ffa234aecd4ae053a"), looks := true }, kinds := [], alts := [], laidByText := true, laidKinds := [.sentinel], laidTests := true, laidLooks := .later }
def DriverNoneCardSaid : Prop := Claim7.holds Tryz.pinned (.plain (OpenSpec.ofChange driverNoneSpec)) driverNoneCard

/-- THE TIED CARD OF 'tithebarntop.TopSafe'. -/
def topSafeCard : Claim7 := { stood := { row := topSafeRow, standIns := [], harness := (true, "642f9ee09654d442e4db0771c6bfa7c53200e8f6f519ff7ffa234aecd4ae053a"), looks := true }, kinds := [], alts := [], laidByText := true, laidKinds := [.sentinel], laidTests := true, laidLooks := .later }
def TopSafeCardSaid : Prop := Claim7.holds Tryz.pinned (.plain (OpenSpec.ofChange topSafeSpec)) topSafeCard

/-- THE TIED CARD OF 'tithebarntop.TopBytes'. -/
def topBytesCard : Claim7 := { stood := { row := topBytesRow, standIns := [], harness := (true, "642f9ee09654d442e4db0771c6bfa7c53200e8f6f519ff7ffa234aecd4ae053a"), looks := true }, kinds := [], alts := [], laidByText := true, laidKinds := [.sentinel], laidTests := true, laidLooks := .later }
def TopBytesCardSaid : Prop := Claim7.holds Tryz.pinned (.plain (OpenSpec.ofChange topBytesSpec)) topBytesCard

/-- THE SECOND FORM's CARD OF 'tithebarntop.TopOrder'. -/
def topOrderUptoCard : Claim7 := { stood := { row := topOrderUptoRow, standIns := [], harness := (true, "642f9ee09654d442e4db0771c6bfa7c53200e8f6f519ff7ffa234aecd4ae053a"), looks := true }, kinds := [], alts := [], laidByText := true, laidKinds := [.sentinel], laidTests := true, laidLooks := .later }
def TopOrderUptoCardSaid : Prop := Claim7.holds Tryz.pinned (.plain (OpenSpec.upto topOrderSpec)) topOrderUptoCard

/-- THE SECOND FORM's CARD OF 'tithebarntop.TopSnaps'. -/
def topSnapsUptoCard : Claim7 := { stood := { row := topSnapsUptoRow, standIns := [], harness := (true, "642f9ee09654d442e4db0771c6bfa7c53200e8f6f519ff7ffa234aecd4ae053a"), looks := true }, kinds := [], alts := [], laidByText := true, laidKinds := [.sentinel], laidTests := true, laidLooks := .later }
def TopSnapsUptoCardSaid : Prop := Claim7.holds Tryz.pinned (.plain (OpenSpec.upto topSnapsSpec)) topSnapsUptoCard

/-- THE SECOND FORM's CARD OF 'tithebarnlaw26.StoreKeeps'. -/
def storeKeepsUptoCard : Claim7 := { stood := { row := storeKeepsUptoRow, standIns := [], harness := (true, "642f9ee09654d442e4db0771c6bfa7c53200e8f6f519ff7ffa234aecd4ae053a"), looks := true }, kinds := [], alts := [], laidByText := true, laidKinds := [.sentinel], laidTests := true, laidLooks := .later }
def StoreKeepsUptoCardSaid : Prop := Claim7.holds Tryz.pinned (.plain (OpenSpec.upto storeKeepsSpec)) storeKeepsUptoCard

/-- THE SECOND FORM's CARD OF 'tithebarnlaw26.StoreNone'. -/
def storeNoneUptoCard : Claim7 := { stood := { row := storeNoneUptoRow, standIns := [], harness := (true, "642f9ee09654d442e4db0771c6bfa7c53200e8f6f519ff7ffa234aecd4ae053a"), looks := true }, kinds := [], alts := [], laidByText := true, laidKinds := [.sentinel], laidTests := true, laidLooks := .later }
def StoreNoneUptoCardSaid : Prop := Claim7.holds Tryz.pinned (.plain (OpenSpec.upto storeNoneSpec)) storeNoneUptoCard

/-- THE SECOND FORM's CARD OF 'tithebarnlaw27.DriverWhole'. -/
def driverWholeUptoCard : Claim7 := { stood := { row := driverWholeUptoRow, standIns := [], harness := (true, "642f9ee09654d442e4db0771c6bfa7c53200e8f6f519ff7ffa234aecd4ae053a"), looks := true }, kinds := [], alts := [], laidByText := true, laidKinds := [.sentinel], laidTests := true, laidLooks := .later }
def DriverWholeUptoCardSaid : Prop := Claim7.holds Tryz.pinned (.plain (OpenSpec.upto driverWholeSpec)) driverWholeUptoCard

/-- THE SECOND FORM's CARD OF 'tithebarnlaw27.DriverCrashes'. -/
def driverCrashesUptoCard : Claim7 := { stood := { row := driverCrashesUptoRow, standIns := [], harness := (true, "642f9ee09654d442e4db0771c6bfa7c53200e8f6f519ff7ffa234aecd4ae053a"), looks := true }, kinds := [], alts := [], laidByText := true, laidKinds := [.sentinel], laidTests := true, laidLooks := .later }
def DriverCrashesUptoCardSaid : Prop := Claim7.holds Tryz.pinned (.plain (OpenSpec.upto driverCrashesSpec)) driverCrashesUptoCard

/-- THE SECOND FORM's CARD OF 'tithebarnlaw27.DriverNone'. -/
def driverNoneUptoCard : Claim7 := { stood := { row := driverNoneUptoRow, standIns := [], harness := (true, "642f9ee09654d442e4db0771c6bfa7c53200e8f6f519ff7ffa234aecd4ae053a"), looks := true }, kinds := [], alts := [], laidByText := true, laidKinds := [.sentinel], laidTests := true, laidLooks := .later }
def DriverNoneUptoCardSaid : Prop := Claim7.holds Tryz.pinned (.plain (OpenSpec.upto driverNoneSpec)) driverNoneUptoCard

/-- THE SECOND FORM's CARD OF 'tithebarntop.TopSafe'. -/
def topSafeUptoCard : Claim7 := { stood := { row := topSafeUptoRow, standIns := [], harness := (true, "642f9ee09654d442e4db0771c6bfa7c53200e8f6f519ff7ffa234aecd4ae053a"), looks := true }, kinds := [], alts := [], laidByText := true, laidKinds := [.sentinel], laidTests := true, laidLooks := .later }
def TopSafeUptoCardSaid : Prop := Claim7.holds Tryz.pinned (.plain (OpenSpec.upto topSafeSpec)) topSafeUptoCard

/-- THE SECOND FORM's CARD OF 'tithebarntop.TopBytes'. -/
def topBytesUptoCard : Claim7 := { stood := { row := topBytesUptoRow, standIns := [], harness := (true, "642f9ee09654d442e4db0771c6bfa7c53200e8f6f519ff7ffa234aecd4ae053a"), looks := true }, kinds := [], alts := [], laidByText := true, laidKinds := [.sentinel], laidTests := true, laidLooks := .later }
def TopBytesUptoCardSaid : Prop := Claim7.holds Tryz.pinned (.plain (OpenSpec.upto topBytesSpec)) topBytesUptoCard
end Rows
end Go.Proofs.YtidhfoefaomodaaGreatDoor
