/-
  DERIVED. GIVEN WITH THE SEED: THE CARDS: each row of YtoffaobiikdflaaGreatDoorRows.lean that lists a variable, with what it lists TIED to the program's text (the seventh form; the later family's looks); each row that meets fmt, with fmt's text TOLD by the authors' own Lean function (tested against real Go, not proved from fmt's source: count such statements apart). THE CARD IS WHAT COUNTS. Prove the row's statement (the work); the ties are given (YtoffaobiikdflaaGreatDoorTie.lean); close each card by the builder's one call (the guide's Derived/Test/ToyasCard.lean, 'card_holds'). Laid BY PROGRAM, IN A SANDBOX (cutbox-door.mjs). By AI agents, Wed Nov 11 2026. No macro, syntax, notation, axiom, sorry.
-/
import Derived.Test.YtoffaobiikdflaaGreatDoorRows
import GoSem.ClaimSeven
namespace Go.Proofs.YtoffaobiikdflaaGreatDoor
namespace Rows

/-- THE TIED CARD OF 'laws.FnPeepBody'. -/
def fnPeepBodyCard : Claim7 := { stood := { row := fnPeepBodyRow, standIns := [], harness := (true, "94cbd1909d2d3a12feeae829296ded4058f3a262c05bfa37a1c227be46d75ccc"), looks := true }, kinds := [], alts := [], laidByText := true, laidKinds := [.data, .data, .data, .listed, .data], laidTests := true, laidLooks := .later }
def FnPeepBodyCardSaid : Prop := Claim7.holds Tryz.pinned (.plain (OpenSpec.ofChange fnPeepBodySpec)) fnPeepBodyCard

/-- THE TIED CARD OF 'laws.FnBody'. -/
def fnBodyCard : Claim7 := { stood := { row := fnBodyRow, standIns := [], harness := (true, "94cbd1909d2d3a12feeae829296ded4058f3a262c05bfa37a1c227be46d75ccc"), looks := true }, kinds := [], alts := [], laidByText := true, laidKinds := [.data, .data, .data, .data, .sentinel, .sentinel, .listed, .data, .pinned], laidTests := true, laidLooks := .later }
def FnBodyCardSaid : Prop := Claim7.holds Tryz.pinned (.plain (OpenSpec.ofChange fnBodySpec)) fnBodyCard

/-- THE SECOND FORM's CARD OF 'laws.FnPeepBody'. -/
def fnPeepBodyUptoCard : Claim7 := { stood := { row := fnPeepBodyUptoRow, standIns := [], harness := (true, "94cbd1909d2d3a12feeae829296ded4058f3a262c05bfa37a1c227be46d75ccc"), looks := true }, kinds := [], alts := [], laidByText := true, laidKinds := [.data, .data, .data, .listed, .data], laidTests := true, laidLooks := .later }
def FnPeepBodyUptoCardSaid : Prop := Claim7.holds Tryz.pinned (.plain (OpenSpec.upto fnPeepBodySpec)) fnPeepBodyUptoCard

/-- THE SECOND FORM's CARD OF 'laws.FnBody'. -/
def fnBodyUptoCard : Claim7 := { stood := { row := fnBodyUptoRow, standIns := [], harness := (true, "94cbd1909d2d3a12feeae829296ded4058f3a262c05bfa37a1c227be46d75ccc"), looks := true }, kinds := [], alts := [], laidByText := true, laidKinds := [.data, .data, .data, .data, .sentinel, .sentinel, .listed, .data, .pinned], laidTests := true, laidLooks := .later }
def FnBodyUptoCardSaid : Prop := Claim7.holds Tryz.pinned (.plain (OpenSpec.upto fnBodySpec)) fnBodyUptoCard
end Rows
end Go.Proofs.YtoffaobiikdflaaGreatDoor
