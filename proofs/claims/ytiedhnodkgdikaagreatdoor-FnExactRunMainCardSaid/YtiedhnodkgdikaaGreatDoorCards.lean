/-
  DERIVED. GIVEN WITH THE SEED: THE CARDS: each row of YtiedhnodkgdikaaGreatDoorRows.lean that lists a variable, with what it lists TIED to the program's text (the seventh form; the later family's looks); each row that meets fmt, with fmt's text TOLD by the authors' own Lean function (tested against real Go, not proved from fmt's source: count such statements apart). THE CARD IS WHAT COUNTS. Prove the row's statement (the work); the ties are given (YtiedhnodkgdikaaGreatDoorTie.lean); close each card by the builder's one call (the guide's Derived/Test/ToyasCard.lean, 'card_holds'). Laid BY PROGRAM, IN A SANDBOX (cutbox-door.mjs). By AI agents, Wed Nov 11 2026. No macro, syntax, notation, axiom, sorry.
-/
import Derived.Test.YtiedhnodkgdikaaGreatDoorRows
import GoSem.ClaimSeven
namespace Go.Proofs.YtiedhnodkgdikaaGreatDoor
namespace Rows

/-- THE TIED CARD OF 'laws.FnValid'. -/
def fnValidCard : Claim7 := { stood := { row := fnValidRow, standIns := [], harness := (true, "aca96924f716e39d6c52fa09598315850b5e37ea55ee0b7aadf12ca10a66f4d5"), looks := false }, kinds := [], alts := [], laidByText := true, laidKinds := [.data, .data, .pinned], laidTests := true, laidLooks := .later }
def FnValidCardSaid : Prop := Claim7.holds Tryz.pinned (.plain (OpenSpec.ofChange fnValidSpec)) fnValidCard

/-- THE TIED CARD OF 'laws.FnMoreFuel'. -/
def fnMoreFuelCard : Claim7 := { stood := { row := fnMoreFuelRow, standIns := [], harness := (true, "aca96924f716e39d6c52fa09598315850b5e37ea55ee0b7aadf12ca10a66f4d5"), looks := false }, kinds := [], alts := [], laidByText := true, laidKinds := [.data, .data, .pinned], laidTests := true, laidLooks := .later }
def FnMoreFuelCardSaid : Prop := Claim7.holds Tryz.pinned (.plain (OpenSpec.ofChange fnMoreFuelSpec)) fnMoreFuelCard

/-- THE TIED CARD OF 'laws.FnMain'. -/
def fnMainCard : Claim7 := { stood := { row := fnMainRow, standIns := [], harness := (true, "aca96924f716e39d6c52fa09598315850b5e37ea55ee0b7aadf12ca10a66f4d5"), looks := false }, kinds := [], alts := [], laidByText := true, laidKinds := [.data, .data, .pinned], laidTests := true, laidLooks := .later }
def FnMainCardSaid : Prop := Claim7.holds Tryz.pinned (.plain (OpenSpec.ofChange fnMainSpec)) fnMainCard

/-- THE TIED CARD OF 'laws.FnExactRun'. -/
def fnExactRunCard : Claim7 := { stood := { row := fnExactRunRow, standIns := [], harness := (true, "aca96924f716e39d6c52fa09598315850b5e37ea55ee0b7aadf12ca10a66f4d5"), looks := false }, kinds := [], alts := [], laidByText := true, laidKinds := [.data, .data, .pinned], laidTests := true, laidLooks := .later }
def FnExactRunCardSaid : Prop := Claim7.holds Tryz.pinned (.plain (OpenSpec.ofChange fnExactRunSpec)) fnExactRunCard

/-- THE TIED CARD OF 'laws.FnExactRunMain'. -/
def fnExactRunMainCard : Claim7 := { stood := { row := fnExactRunMainRow, standIns := [], harness := (true, "aca96924f716e39d6c52fa09598315850b5e37ea55ee0b7aadf12ca10a66f4d5"), looks := false }, kinds := [], alts := [], laidByText := true, laidKinds := [.data, .data, .pinned], laidTests := true, laidLooks := .later }
def FnExactRunMainCardSaid : Prop := Claim7.holds Tryz.pinned (.plain (OpenSpec.ofChange fnExactRunMainSpec)) fnExactRunMainCard

/-- THE SECOND FORM's CARD OF 'laws.FnValid'. -/
def fnValidUptoCard : Claim7 := { stood := { row := fnValidUptoRow, standIns := [], harness := (true, "aca96924f716e39d6c52fa09598315850b5e37ea55ee0b7aadf12ca10a66f4d5"), looks := false }, kinds := [], alts := [], laidByText := true, laidKinds := [.data, .data, .pinned], laidTests := true, laidLooks := .later }
def FnValidUptoCardSaid : Prop := Claim7.holds Tryz.pinned (.plain (OpenSpec.upto fnValidSpec)) fnValidUptoCard

/-- THE SECOND FORM's CARD OF 'laws.FnMoreFuel'. -/
def fnMoreFuelUptoCard : Claim7 := { stood := { row := fnMoreFuelUptoRow, standIns := [], harness := (true, "aca96924f716e39d6c52fa09598315850b5e37ea55ee0b7aadf12ca10a66f4d5"), looks := false }, kinds := [], alts := [], laidByText := true, laidKinds := [.data, .data, .pinned], laidTests := true, laidLooks := .later }
def FnMoreFuelUptoCardSaid : Prop := Claim7.holds Tryz.pinned (.plain (OpenSpec.upto fnMoreFuelSpec)) fnMoreFuelUptoCard

/-- THE SECOND FORM's CARD OF 'laws.FnMain'. -/
def fnMainUptoCard : Claim7 := { stood := { row := fnMainUptoRow, standIns := [], harness := (true, "aca96924f716e39d6c52fa09598315850b5e37ea55ee0b7aadf12ca10a66f4d5"), looks := false }, kinds := [], alts := [], laidByText := true, laidKinds := [.data, .data, .pinned], laidTests := true, laidLooks := .later }
def FnMainUptoCardSaid : Prop := Claim7.holds Tryz.pinned (.plain (OpenSpec.upto fnMainSpec)) fnMainUptoCard

/-- THE SECOND FORM's CARD OF 'laws.FnExactRun'. -/
def fnExactRunUptoCard : Claim7 := { stood := { row := fnExactRunUptoRow, standIns := [], harness := (true, "aca96924f716e39d6c52fa09598315850b5e37ea55ee0b7aadf12ca10a66f4d5"), looks := false }, kinds := [], alts := [], laidByText := true, laidKinds := [.data, .data, .pinned], laidTests := true, laidLooks := .later }
def FnExactRunUptoCardSaid : Prop := Claim7.holds Tryz.pinned (.plain (OpenSpec.upto fnExactRunSpec)) fnExactRunUptoCard

/-- THE SECOND FORM's CARD OF 'laws.FnExactRunMain'. -/
def fnExactRunMainUptoCard : Claim7 := { stood := { row := fnExactRunMainUptoRow, standIns := [], harness := (true, "aca96924f716e39d6c52fa09598315850b5e37ea55ee0b7aadf12ca10a66f4d5"), looks := false }, kinds := [], alts := [], laidByText := true, laidKinds := [.data, .data, .pinned], laidTests := true, laidLooks := .later }
def FnExactRunMainUptoCardSaid : Prop := Claim7.holds Tryz.pinned (.plain (OpenSpec.upto fnExactRunMainSpec)) fnExactRunMainUptoCard
end Rows
end Go.Proofs.YtiedhnodkgdikaaGreatDoor
