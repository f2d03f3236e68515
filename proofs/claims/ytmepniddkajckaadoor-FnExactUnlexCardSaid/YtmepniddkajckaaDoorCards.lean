/-
  DERIVED. GIVEN WITH THE SEED: THE CARDS: each row of YtmepniddkajckaaDoorRows.lean that lists a variable, with what it lists TIED to the program's text (the seventh form; the later family's looks); each row that meets fmt, with fmt's text TOLD by the authors' own Lean function (tested against real Go, not proved from fmt's source: count such statements apart). THE CARD IS WHAT COUNTS. Prove the row's statement (the work); the ties are given (YtmepniddkajckaaDoorTie.lean); close each card by the builder's one call (the guide's Derived/Test/ToyasCard.lean, 'card_holds'). Laid BY PROGRAM, IN A SANDBOX (cutbox-door.mjs). By AI agents, Wed Nov 11 2026. No macro, syntax, notation, axiom, sorry.
-/
import Derived.Test.YtmepniddkajckaaDoorRows
import GoSem.ClaimSeven
namespace Go.Proofs.YtmepniddkajckaaDoor
namespace Rows

/-- THE TIED CARD OF 'laws.FnName'. -/
def fnNameCard : Claim7 := { stood := { row := fnNameRow, standIns := [], harness := (true, "b448301cd562785c3cd170b9bb6aacc5746336ce909628db7756685455d826e3"), looks := false }, kinds := [], alts := [], laidByText := true, laidKinds := [.data, .pinned], laidTests := true, laidLooks := .later }
def FnNameCardSaid : Prop := Claim7.holds Tryd.pinned (.plain (OpenSpec.ofChange fnNameSpec)) fnNameCard

/-- THE TIED CARD OF 'laws.FnExactResultText'. -/
def fnExactResultTextCard : Claim7 := { stood := { row := fnExactResultTextRow, standIns := [], harness := (true, "b448301cd562785c3cd170b9bb6aacc5746336ce909628db7756685455d826e3"), looks := false }, kinds := [], alts := [], laidByText := true, laidKinds := [.data, .data, .data], laidTests := true, laidLooks := .later }
def FnExactResultTextCardSaid : Prop := Claim7.holds Tryd.pinned (.plain (OpenSpec.ofChange fnExactResultTextSpec)) fnExactResultTextCard

/-- THE TIED CARD OF 'laws.FnExactCaseOk'. -/
def fnExactCaseOkCard : Claim7 := { stood := { row := fnExactCaseOkRow, standIns := [], harness := (true, "b448301cd562785c3cd170b9bb6aacc5746336ce909628db7756685455d826e3"), looks := false }, kinds := [], alts := [], laidByText := true, laidKinds := [.listed, .data], laidTests := true, laidLooks := .later }
def FnExactCaseOkCardSaid : Prop := Claim7.holds Tryd.pinned (.plain (OpenSpec.ofChange fnExactCaseOkSpec)) fnExactCaseOkCard

/-- THE TIED CARD OF 'laws.FnExactTokText'. -/
def fnExactTokTextCard : Claim7 := { stood := { row := fnExactTokTextRow, standIns := [], harness := (true, "b448301cd562785c3cd170b9bb6aacc5746336ce909628db7756685455d826e3"), looks := false }, kinds := [], alts := [], laidByText := true, laidKinds := [.data, .data, .data, .listed, .data], laidTests := true, laidLooks := .later }
def FnExactTokTextCardSaid : Prop := Claim7.holds Tryd.pinned (.plain (OpenSpec.ofChange fnExactTokTextSpec)) fnExactTokTextCard

/-- THE TIED CARD OF 'laws.FnExactReadBody'. -/
def fnExactReadBodyCard : Claim7 := { stood := { row := fnExactReadBodyRow, standIns := [], harness := (true, "b448301cd562785c3cd170b9bb6aacc5746336ce909628db7756685455d826e3"), looks := false }, kinds := [], alts := [], laidByText := true, laidKinds := [.listed, .data], laidTests := true, laidLooks := .later }
def FnExactReadBodyCardSaid : Prop := Claim7.holds Tryd.pinned (.plain (OpenSpec.ofChange fnExactReadBodySpec)) fnExactReadBodyCard

/-- THE TIED CARD OF 'laws.FnExactUnlex'. -/
def fnExactUnlexCard : Claim7 := { stood := { row := fnExactUnlexRow, standIns := [], harness := (true, "b448301cd562785c3cd170b9bb6aacc5746336ce909628db7756685455d826e3"), looks := false }, kinds := [], alts := [], laidByText := true, laidKinds := [.data, .data, .data, .listed, .data], laidTests := true, laidLooks := .later }
def FnExactUnlexCardSaid : Prop := Claim7.holds Tryd.pinned (.plain (OpenSpec.ofChange fnExactUnlexSpec)) fnExactUnlexCard

/-- THE SECOND FORM's CARD OF 'laws.FnName'. -/
def fnNameUptoCard : Claim7 := { stood := { row := fnNameUptoRow, standIns := [], harness := (true, "b448301cd562785c3cd170b9bb6aacc5746336ce909628db7756685455d826e3"), looks := false }, kinds := [], alts := [], laidByText := true, laidKinds := [.data, .pinned], laidTests := true, laidLooks := .later }
def FnNameUptoCardSaid : Prop := Claim7.holds Tryd.pinned (.plain (OpenSpec.upto fnNameSpec)) fnNameUptoCard

/-- THE SECOND FORM's CARD OF 'laws.FnExactResultText'. -/
def fnExactResultTextUptoCard : Claim7 := { stood := { row := fnExactResultTextUptoRow, standIns := [], harness := (true, "b448301cd562785c3cd170b9bb6aacc5746336ce909628db7756685455d826e3"), looks := false }, kinds := [], alts := [], laidByText := true, laidKinds := [.data, .data, .data], laidTests := true, laidLooks := .later }
def FnExactResultTextUptoCardSaid : Prop := Claim7.holds Tryd.pinned (.plain (OpenSpec.upto fnExactResultTextSpec)) fnExactResultTextUptoCard

/-- THE SECOND FORM's CARD OF 'laws.FnExactCaseOk'. -/
def fnExactCaseOkUptoCard : Claim7 := { stood := { row := fnExactCaseOkUptoRow, standIns := [], harness := (true, "b448301cd562785c3cd170b9bb6aacc5746336ce909628db7756685455d826e3"), looks := false }, kinds := [], alts := [], laidByText := true, laidKinds := [.listed, .data], laidTests := true, laidLooks := .later }
def FnExactCaseOkUptoCardSaid : Prop := Claim7.holds Tryd.pinned (.plain (OpenSpec.upto fnExactCaseOkSpec)) fnExactCaseOkUptoCard

/-- THE SECOND FORM's CARD OF 'laws.FnExactTokText'. -/
def fnExactTokTextUptoCard : Claim7 := { stood := { row := fnExactTokTextUptoRow, standIns := [], harness := (true, "b448301cd562785c3cd170b9bb6aacc5746336ce909628db7756685455d826e3"), looks := false }, kinds := [], alts := [], laidByText := true, laidKinds := [.data, .data, .data, .listed, .data], laidTests := true, laidLooks := .later }
def FnExactTokTextUptoCardSaid : Prop := Claim7.holds Tryd.pinned (.plain (OpenSpec.upto fnExactTokTextSpec)) fnExactTokTextUptoCard

/-- THE SECOND FORM's CARD OF 'laws.FnExactReadBody'. -/
def fnExactReadBodyUptoCard : Claim7 := { stood := { row := fnExactReadBodyUptoRow, standIns := [], harness := (true, "b448301cd562785c3cd170b9bb6aacc5746336ce909628db7756685455d826e3"), looks := false }, kinds := [], alts := [], laidByText := true, laidKinds := [.listed, .data], laidTests := true, laidLooks := .later }
def FnExactReadBodyUptoCardSaid : Prop := Claim7.holds Tryd.pinned (.plain (OpenSpec.upto fnExactReadBodySpec)) fnExactReadBodyUptoCard

/-- THE SECOND FORM's CARD OF 'laws.FnExactUnlex'. -/
def fnExactUnlexUptoCard : Claim7 := { stood := { row := fnExactUnlexUptoRow, standIns := [], harness := (true, "b448301cd562785c3cd170b9bb6aacc5746336ce909628db7756685455d826e3"), looks := false }, kinds := [], alts := [], laidByText := true, laidKinds := [.data, .data, .data, .listed, .data], laidTests := true, laidLooks := .later }
def FnExactUnlexUptoCardSaid : Prop := Claim7.holds Tryd.pinned (.plain (OpenSpec.upto fnExactUnlexSpec)) fnExactUnlexUptoCard
end Rows
end Go.Proofs.YtmepniddkajckaaDoor
