/-
  DERIVED. GIVEN WITH THE SEED: THE CARDS: each row of YtnhpmkokhimfkaaDoorRows.lean that lists a variable, with what it lists TIED to the program's text (the seventh form; the later family's looks); each row that meets fmt, with fmt's text TOLD by the authors' own Lean function (tested against real Go, not proved from fmt's source: count such statements apart). THE CARD IS WHAT COUNTS. Prove the row's statement (the work); the ties are given (YtnhpmkokhimfkaaDoorTie.lean); close each card by the builder's one call (the guide's Derived/Test/ToyasCard.lean, 'card_holds'). Laid BY PROGRAM, IN A SANDBOX (cutbox-door.mjs). By AI agents, Wed Nov 11 2026. No macro, syntax, notation, axiom, sorry.
-/
import Derived.Test.YtnhpmkokhimfkaaDoorRows
import GoSem.ClaimSeven
namespace Go.Proofs.YtnhpmkokhimfkaaDoor
namespace Rows

/-- THE TIED CARD OF 'laws.FnExactOpsOf'. -/
def fnExactOpsOfCard : Claim7 := { stood := { row := fnExactOpsOfRow, standIns := [], harness := (true, "4c6c4738ce20b8f20d5a06c1b5439bc561a69fe205566e4b5ad4dd29a1b960c1"), looks := false }, kinds := [], alts := [], laidByText := true, laidKinds := [.data, .pinned], laidTests := true, laidLooks := .later }
def FnExactOpsOfCardSaid : Prop := Claim7.holds Tryd.pinned (.plain (OpenSpec.ofChange fnExactOpsOfSpec)) fnExactOpsOfCard

/-- THE TIED CARD OF 'laws.FnExactPeepOnce'. -/
def fnExactPeepOnceCard : Claim7 := { stood := { row := fnExactPeepOnceRow, standIns := [], harness := (true, "4c6c4738ce20b8f20d5a06c1b5439bc561a69fe205566e4b5ad4dd29a1b960c1"), looks := false }, kinds := [], alts := [], laidByText := true, laidKinds := [.data], laidTests := true, laidLooks := .later }
def FnExactPeepOnceCardSaid : Prop := Claim7.holds Tryd.pinned (.plain (OpenSpec.ofChange fnExactPeepOnceSpec)) fnExactPeepOnceCard

/-- THE TIED CARD OF 'laws.FnExactPeepBody'. -/
def fnExactPeepBodyCard : Claim7 := { stood := { row := fnExactPeepBodyRow, standIns := [], harness := (true, "4c6c4738ce20b8f20d5a06c1b5439bc561a69fe205566e4b5ad4dd29a1b960c1"), looks := false }, kinds := [], alts := [], laidByText := true, laidKinds := [.data], laidTests := true, laidLooks := .later }
def FnExactPeepBodyCardSaid : Prop := Claim7.holds Tryd.pinned (.plain (OpenSpec.ofChange fnExactPeepBodySpec)) fnExactPeepBodyCard

/-- THE SECOND FORM's CARD OF 'laws.FnExactOpsOf'. -/
def fnExactOpsOfUptoCard : Claim7 := { stood := { row := fnExactOpsOfUptoRow, standIns := [], harness := (true, "4c6c4738ce20b8f20d5a06c1b5439bc561a69fe205566e4b5ad4dd29a1b960c1"), looks := false }, kinds := [], alts := [], laidByText := true, laidKinds := [.data, .pinned], laidTests := true, laidLooks := .later }
def FnExactOpsOfUptoCardSaid : Prop := Claim7.holds Tryd.pinned (.plain (OpenSpec.upto fnExactOpsOfSpec)) fnExactOpsOfUptoCard

/-- THE SECOND FORM's CARD OF 'laws.FnExactPeepOnce'. -/
def fnExactPeepOnceUptoCard : Claim7 := { stood := { row := fnExactPeepOnceUptoRow, standIns := [], harness := (true, "4c6c4738ce20b8f20d5a06c1b5439bc561a69fe205566e4b5ad4dd29a1b960c1"), looks := false }, kinds := [], alts := [], laidByText := true, laidKinds := [.data], laidTests := true, laidLooks := .later }
def FnExactPeepOnceUptoCardSaid : Prop := Claim7.holds Tryd.pinned (.plain (OpenSpec.upto fnExactPeepOnceSpec)) fnExactPeepOnceUptoCard

/-- THE SECOND FORM's CARD OF 'laws.FnExactPeepBody'. -/
def fnExactPeepBodyUptoCard : Claim7 := { stood := { row := fnExactPeepBodyUptoRow, standIns := [], harness := (true, "4c6c4738ce20b8f20d5a06c1b5439bc561a69fe205566e4b5ad4dd29a1b960c1"), looks := false }, kinds := [], alts := [], laidByText := true, laidKinds := [.data], laidTests := true, laidLooks := .later }
def FnExactPeepBodyUptoCardSaid : Prop := Claim7.holds Tryd.pinned (.plain (OpenSpec.upto fnExactPeepBodySpec)) fnExactPeepBodyUptoCard
end Rows
end Go.Proofs.YtnhpmkokhimfkaaDoor
