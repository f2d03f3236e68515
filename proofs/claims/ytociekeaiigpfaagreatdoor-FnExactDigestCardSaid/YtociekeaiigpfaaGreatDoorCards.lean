/-
  DERIVED. GIVEN WITH THE SEED: THE CARDS: each row of YtociekeaiigpfaaGreatDoorRows.lean that lists a variable, with what it lists TIED to the program's text (the seventh form; the later family's looks); each row that meets fmt, with fmt's text TOLD by the authors' own Lean function (tested against real Go, not proved from fmt's source: count such statements apart). THE CARD IS WHAT COUNTS. Prove the row's statement (the work); the ties are given (YtociekeaiigpfaaGreatDoorTie.lean); close each card by the builder's one call (the guide's Derived/Test/ToyasCard.lean, 'card_holds'). Laid BY PROGRAM, IN A SANDBOX (cutbox-door.mjs). By AI agents, Wed Nov 11 2026. No macro, syntax, notation, axiom, sorry.
-/
import Derived.Test.YtociekeaiigpfaaGreatDoorRows
import GoSem.ClaimSeven
namespace Go.Proofs.YtociekeaiigpfaaGreatDoor
namespace Rows

/-- THE TIED CARD OF 'laws.FnExactDigest'. -/
def fnExactDigestCard : Claim7 := { stood := { row := fnExactDigestRow, standIns := [], harness := (true, "79856bc51eb161fb1d8ab217b1d6c7821ca8761d8c42eefe7991731fc213ee52"), looks := true }, kinds := [], alts := [], laidByText := true, laidKinds := [.data, .pinned], laidTests := true, laidLooks := .later }
def FnExactDigestCardSaid : Prop := Claim7.holds Tryz.pinned (.plain (OpenSpec.ofChange fnExactDigestSpec)) fnExactDigestCard

/-- THE TIED CARD OF 'laws.FnExactReadSuite'. -/
def fnExactReadSuiteCard : Claim7 := { stood := { row := fnExactReadSuiteRow, standIns := [], harness := (true, "79856bc51eb161fb1d8ab217b1d6c7821ca8761d8c42eefe7991731fc213ee52"), looks := true }, kinds := [], alts := [], laidByText := true, laidKinds := [.data, .data, .data, .data, .sentinel, .sentinel, .listed, .data, .pinned], laidTests := true, laidLooks := .later }
def FnExactReadSuiteCardSaid : Prop := Claim7.holds Tryz.pinned (.plain (OpenSpec.ofChange fnExactReadSuiteSpec)) fnExactReadSuiteCard

/-- THE TIED CARD OF 'laws.FnExactModuleText'. -/
def fnExactModuleTextCard : Claim7 := { stood := { row := fnExactModuleTextRow, standIns := [], harness := (true, "79856bc51eb161fb1d8ab217b1d6c7821ca8761d8c42eefe7991731fc213ee52"), looks := true }, kinds := [], alts := [], laidByText := true, laidKinds := [.data, .data, .data, .data, .listed, .data, .pinned], laidTests := true, laidLooks := .later }
def FnExactModuleTextCardSaid : Prop := Claim7.holds Tryz.pinned (.plain (OpenSpec.ofChange fnExactModuleTextSpec)) fnExactModuleTextCard

/-- THE SECOND FORM's CARD OF 'laws.FnExactDigest'. -/
def fnExactDigestUptoCard : Claim7 := { stood := { row := fnExactDigestUptoRow, standIns := [], harness := (true, "79856bc51eb161fb1d8ab217b1d6c7821ca8761d8c42eefe7991731fc213ee52"), looks := true }, kinds := [], alts := [], laidByText := true, laidKinds := [.data, .pinned], laidTests := true, laidLooks := .later }
def FnExactDigestUptoCardSaid : Prop := Claim7.holds Tryz.pinned (.plain (OpenSpec.upto fnExactDigestSpec)) fnExactDigestUptoCard

/-- THE SECOND FORM's CARD OF 'laws.FnExactReadSuite'. -/
def fnExactReadSuiteUptoCard : Claim7 := { stood := { row := fnExactReadSuiteUptoRow, standIns := [], harness := (true, "79856bc51eb161fb1d8ab217b1d6c7821ca8761d8c42eefe7991731fc213ee52"), looks := true }, kinds := [], alts := [], laidByText := true, laidKinds := [.data, .data, .data, .data, .sentinel, .sentinel, .listed, .data, .pinned], laidTests := true, laidLooks := .later }
def FnExactReadSuiteUptoCardSaid : Prop := Claim7.holds Tryz.pinned (.plain (OpenSpec.upto fnExactReadSuiteSpec)) fnExactReadSuiteUptoCard

/-- THE SECOND FORM's CARD OF 'laws.FnExactModuleText'. -/
def fnExactModuleTextUptoCard : Claim7 := { stood := { row := fnExactModuleTextUptoRow, standIns := [], harness := (true, "79856bc51eb161fb1d8ab217b1d6c7821ca8761d8c42eefe7991731fc213ee52"), looks := true }, kinds := [], alts := [], laidByText := true, laidKinds := [.data, .data, .data, .data, .listed, .data, .pinned], laidTests := true, laidLooks := .later }
def FnExactModuleTextUptoCardSaid : Prop := Claim7.holds Tryz.pinned (.plain (OpenSpec.upto fnExactModuleTextSpec)) fnExactModuleTextUptoCard
end Rows
end Go.Proofs.YtociekeaiigpfaaGreatDoor
