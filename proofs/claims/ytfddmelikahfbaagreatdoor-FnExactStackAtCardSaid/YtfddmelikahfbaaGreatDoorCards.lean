/-
  DERIVED. GIVEN WITH THE SEED: THE CARDS: each row of YtfddmelikahfbaaGreatDoorRows.lean that lists a variable, with what it lists TIED to the program's text (the seventh form; the later family's looks); each row that meets fmt, with fmt's text TOLD by the authors' own Lean function (tested against real Go, not proved from fmt's source: count such statements apart). THE CARD IS WHAT COUNTS. Prove the row's statement (the work); the ties are given (YtfddmelikahfbaaGreatDoorTie.lean); close each card by the builder's one call (the guide's Derived/Test/ToyasCard.lean, 'card_holds'). Laid BY PROGRAM, IN A SANDBOX (cutbox-door.mjs). By AI agents, Wed Nov 11 2026. No macro, syntax, notation, axiom, sorry.
-/
import Derived.Test.YtfddmelikahfbaaGreatDoorRows
import GoSem.ClaimSeven
namespace Go.Proofs.YtfddmelikahfbaaGreatDoor
namespace Rows

/-- THE TIED CARD OF 'laws.FnExactFaultAt'. -/
def fnExactFaultAtCard : Claim7 := { stood := { row := fnExactFaultAtRow, standIns := [], harness := (true, "2b66ae56c83ed5e5d08c687c91a018f194eb411ec670d2f130dadda31aff4d47"), looks := false }, kinds := [], alts := [], laidByText := true, laidKinds := [.data, .pinned], laidTests := true, laidLooks := .later }
def FnExactFaultAtCardSaid : Prop := Claim7.holds Tryz.pinned (.plain (OpenSpec.ofChange fnExactFaultAtSpec)) fnExactFaultAtCard

/-- THE TIED CARD OF 'laws.FnExactMaxStack'. -/
def fnExactMaxStackCard : Claim7 := { stood := { row := fnExactMaxStackRow, standIns := [], harness := (true, "2b66ae56c83ed5e5d08c687c91a018f194eb411ec670d2f130dadda31aff4d47"), looks := false }, kinds := [], alts := [], laidByText := true, laidKinds := [.data, .pinned], laidTests := true, laidLooks := .later }
def FnExactMaxStackCardSaid : Prop := Claim7.holds Tryz.pinned (.plain (OpenSpec.ofChange fnExactMaxStackSpec)) fnExactMaxStackCard

/-- THE TIED CARD OF 'laws.FnExactModuleOk'. -/
def fnExactModuleOkCard : Claim7 := { stood := { row := fnExactModuleOkRow, standIns := [], harness := (true, "2b66ae56c83ed5e5d08c687c91a018f194eb411ec670d2f130dadda31aff4d47"), looks := false }, kinds := [], alts := [], laidByText := true, laidKinds := [.data, .pinned], laidTests := true, laidLooks := .later }
def FnExactModuleOkCardSaid : Prop := Claim7.holds Tryz.pinned (.plain (OpenSpec.ofChange fnExactModuleOkSpec)) fnExactModuleOkCard

/-- THE TIED CARD OF 'laws.FnExactStackAt'. -/
def fnExactStackAtCard : Claim7 := { stood := { row := fnExactStackAtRow, standIns := [], harness := (true, "2b66ae56c83ed5e5d08c687c91a018f194eb411ec670d2f130dadda31aff4d47"), looks := false }, kinds := [], alts := [], laidByText := true, laidKinds := [.data, .pinned], laidTests := true, laidLooks := .later }
def FnExactStackAtCardSaid : Prop := Claim7.holds Tryz.pinned (.plain (OpenSpec.ofChange fnExactStackAtSpec)) fnExactStackAtCard

/-- THE SECOND FORM's CARD OF 'laws.FnExactFaultAt'. -/
def fnExactFaultAtUptoCard : Claim7 := { stood := { row := fnExactFaultAtUptoRow, standIns := [], harness := (true, "2b66ae56c83ed5e5d08c687c91a018f194eb411ec670d2f130dadda31aff4d47"), looks := false }, kinds := [], alts := [], laidByText := true, laidKinds := [.data, .pinned], laidTests := true, laidLooks := .later }
def FnExactFaultAtUptoCardSaid : Prop := Claim7.holds Tryz.pinned (.plain (OpenSpec.upto fnExactFaultAtSpec)) fnExactFaultAtUptoCard

/-- THE SECOND FORM's CARD OF 'laws.FnExactMaxStack'. -/
def fnExactMaxStackUptoCard : Claim7 := { stood := { row := fnExactMaxStackUptoRow, standIns := [], harness := (true, "2b66ae56c83ed5e5d08c687c91a018f194eb411ec670d2f130dadda31aff4d47"), looks := false }, kinds := [], alts := [], laidByText := true, laidKinds := [.data, .pinned], laidTests := true, laidLooks := .later }
def FnExactMaxStackUptoCardSaid : Prop := Claim7.holds Tryz.pinned (.plain (OpenSpec.upto fnExactMaxStackSpec)) fnExactMaxStackUptoCard

/-- THE SECOND FORM's CARD OF 'laws.FnExactModuleOk'. -/
def fnExactModuleOkUptoCard : Claim7 := { stood := { row := fnExactModuleOkUptoRow, standIns := [], harness := (true, "2b66ae56c83ed5e5d08c687c91a018f194eb411ec670d2f130dadda31aff4d47"), looks := false }, kinds := [], alts := [], laidByText := true, laidKinds := [.data, .pinned], laidTests := true, laidLooks := .later }
def FnExactModuleOkUptoCardSaid : Prop := Claim7.holds Tryz.pinned (.plain (OpenSpec.upto fnExactModuleOkSpec)) fnExactModuleOkUptoCard

/-- THE SECOND FORM's CARD OF 'laws.FnExactStackAt'. -/
def fnExactStackAtUptoCard : Claim7 := { stood := { row := fnExactStackAtUptoRow, standIns := [], harness := (true, "2b66ae56c83ed5e5d08c687c91a018f194eb411ec670d2f130dadda31aff4d47"), looks := false }, kinds := [], alts := [], laidByText := true, laidKinds := [.data, .pinned], laidTests := true, laidLooks := .later }
def FnExactStackAtUptoCardSaid : Prop := Claim7.holds Tryz.pinned (.plain (OpenSpec.upto fnExactStackAtSpec)) fnExactStackAtUptoCard
end Rows
end Go.Proofs.YtfddmelikahfbaaGreatDoor
