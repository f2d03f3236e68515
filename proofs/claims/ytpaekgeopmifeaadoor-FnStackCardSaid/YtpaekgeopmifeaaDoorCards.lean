/-
  DERIVED. GIVEN WITH THE SEED: THE CARDS: each row of YtpaekgeopmifeaaDoorRows.lean that lists a variable, with what it lists TIED to the program's text (the seventh form; the later family's looks); each row that meets fmt, with fmt's text TOLD by the authors' own Lean function (tested against real Go, not proved from fmt's source: count such statements apart). THE CARD IS WHAT COUNTS. Prove the row's statement (the work); the ties are given (YtpaekgeopmifeaaDoorTie.lean); close each card by the builder's one call (the guide's Derived/Test/ToyasCard.lean, 'card_holds'). Laid BY PROGRAM, IN A SANDBOX (cutbox-door.mjs). By AI agents, Wed Nov 11 2026. No macro, syntax, notation, axiom, sorry.
-/
import Derived.Test.YtpaekgeopmifeaaDoorRows
import GoSem.ClaimSeven
namespace Go.Proofs.YtpaekgeopmifeaaDoor
namespace Rows

/-- THE TIED CARD OF 'laws.FnStack'. -/
def fnStackCard : Claim7 := { stood := { row := fnStackRow, standIns := [], harness := (true, "f0d3ec472d71affe651656ff63e1d718804d31dee7c108006ad3e373d167fde5"), looks := false }, kinds := [], alts := [], laidByText := true, laidKinds := [.data, .pinned], laidTests := true, laidLooks := .later }
def FnStackCardSaid : Prop := Claim7.holds Tryd.pinned (.plain (OpenSpec.ofChange fnStackSpec)) fnStackCard

/-- THE SECOND FORM's CARD OF 'laws.FnStack'. -/
def fnStackUptoCard : Claim7 := { stood := { row := fnStackUptoRow, standIns := [], harness := (true, "f0d3ec472d71affe651656ff63e1d718804d31dee7c108006ad3e373d167fde5"), looks := false }, kinds := [], alts := [], laidByText := true, laidKinds := [.data, .pinned], laidTests := true, laidLooks := .later }
def FnStackUptoCardSaid : Prop := Claim7.holds Tryd.pinned (.plain (OpenSpec.upto fnStackSpec)) fnStackUptoCard
end Rows
end Go.Proofs.YtpaekgeopmifeaaDoor
