/-
  DERIVED. GIVEN WITH THE SEED: THE CARDS: each row of YtnldaicibnkeoaaGreatDoorRows.lean that lists a variable, with what it lists TIED to the program's text (the seventh form; the later family's looks); each row that meets fmt, with fmt's text TOLD by the authors' own Lean function (tested against real Go, not proved from fmt's source: count such statements apart). THE CARD IS WHAT COUNTS. Prove the row's statement (the work); the ties are given (YtnldaicibnkeoaaGreatDoorTie.lean); close each card by the builder's one call (the guide's Derived/Test/ToyasCard.lean, 'card_holds'). Laid BY PROGRAM, IN A SANDBOX (cutbox-door.mjs). By AI agents, Wed Nov 11 2026. No macro, syntax, notation, axiom, sorry.
-/
import Derived.Test.YtnldaicibnkeoaaGreatDoorRows
import GoSem.ClaimSeven
namespace Go.Proofs.YtnldaicibnkeoaaGreatDoor
namespace Rows

/-- THE TIED CARD OF 'laws.FnExactSaved'. -/
def fnExactSavedCard : Claim7 := { stood := { row := fnExactSavedRow, standIns := [], harness := (true, "082d7621ee3c290631d87cafc0695ae424119291412e7cd7ca6e51757b54e512"), looks := false }, kinds := [], alts := [], laidByText := true, laidKinds := [.data, .data, .pinned], laidTests := true, laidLooks := .later }
def FnExactSavedCardSaid : Prop := Claim7.holds Tryz.pinned (.plain (OpenSpec.ofChange fnExactSavedSpec)) fnExactSavedCard

/-- THE SECOND FORM's CARD OF 'laws.FnExactSaved'. -/
def fnExactSavedUptoCard : Claim7 := { stood := { row := fnExactSavedUptoRow, standIns := [], harness := (true, "082d7621ee3c290631d87cafc0695ae424119291412e7cd7ca6e51757b54e512"), looks := false }, kinds := [], alts := [], laidByText := true, laidKinds := [.data, .data, .pinned], laidTests := true, laidLooks := .later }
def FnExactSavedUptoCardSaid : Prop := Claim7.holds Tryz.pinned (.plain (OpenSpec.upto fnExactSavedSpec)) fnExactSavedUptoCard
end Rows
end Go.Proofs.YtnldaicibnkeoaaGreatDoor
