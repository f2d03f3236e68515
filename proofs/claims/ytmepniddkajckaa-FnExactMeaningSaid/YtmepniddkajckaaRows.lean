/-
  No cell of these rows narrows 'for every input' (looked for: loops, veiled, ifaces, maps, wideKeys, modest, calm, conditions, laid).
  DERIVED. THE GIVEN ROWS OF THIS SEAT. 5 by the template 'for every input the law returns true; each argument reads behind the call as it read before'; 0 by the template 'total and deterministic' (their statements: YtmepniddkajckaaTotals.lean).
  GIVEN WITH THE SEED: the statements are not yours to turn. If you find one false, say at which input.
  Laid BY PROGRAM, IN A SANDBOX (cutbox-rows.mjs): the forced cells as the released guide's own fill.sh prints them over the translation 6da9e399d7be2df4… (all of the seat's roots in one cut). By AI agents, Wed Nov 11 2026. No macro, syntax, notation, axiom, sorry.
-/
import Derived.Test.YtmepniddkajckaaChecked
import GoSem.Claim
import GoSem.ClaimJoined
import GoSem.ClaimMapViews
import Derived.JoinedTies
import Derived.KernelRfl
namespace Go.Proofs.Ytmepniddkajckaa
/- THE CELL 'sum', in the pinned program and in every row, IS THE sha256 OF THE DUMP (.gsa) THAT YtmepniddkajckaaProg.lean LOADS. Nothing in Lean hashes anything: it is a label: what it is worth is what the hold of that sum in a sandbox is worth. -/
noncomputable def Try.pinned : Pinned := { name := "ytmepniddkajckaa", sum := "6da9e399d7be2df461b3c5771d6d107f00e18c93cd05eb99ff0b18513879ee9f", checked := Try.checked }
namespace Rows
def none {H : Type} : Left H := { results := [], args := [] }

/-- 'laws.FnExactQuoteName': WHATEVER THE INPUT: true; the input reads as it did. -/
def fnExactQuoteNameSpec : ChangeSpec := { name := "fnExactQuoteName", fn := fun _ => fun
  | [d] => { results := [.lit (.bool true)], args := [d] }
  | _ => none }
def fnExactQuoteNameRow : OpenClaim := { program := "ytmepniddkajckaa", sum := "6da9e399d7be2df461b3c5771d6d107f00e18c93cd05eb99ff0b18513879ee9f", func := "loop.example/g00472/laws.FnExactQuoteName", spec := "fnExactQuoteName", apart := false }
def FnExactQuoteNameSaid : Prop := fnExactQuoteNameRow.holds Try.pinned (OpenSpec.ofChange fnExactQuoteNameSpec)

/-- ITS FALSE NEIGHBOUR: 'it returns false'. Refute it at one input. -/
def fnExactQuoteNameWrong : ChangeSpec := { name := "fnExactQuoteName", fn := fun _ => fun
  | [d] => { results := [.lit (.bool false)], args := [d] }
  | _ => none }
def FnExactQuoteNameWrongFalsely : Prop := fnExactQuoteNameRow.holds Try.pinned (OpenSpec.ofChange fnExactQuoteNameWrong)

/-- 'laws.FnExactUnquoteName': WHATEVER THE INPUT: true; the input reads as it did. -/
def fnExactUnquoteNameSpec : ChangeSpec := { name := "fnExactUnquoteName", fn := fun _ => fun
  | [d] => { results := [.lit (.bool true)], args := [d] }
  | _ => none }
def fnExactUnquoteNameRow : OpenClaim := { program := "ytmepniddkajckaa", sum := "6da9e399d7be2df461b3c5771d6d107f00e18c93cd05eb99ff0b18513879ee9f", func := "loop.example/g00472/laws.FnExactUnquoteName", spec := "fnExactUnquoteName", inPlace := ["internal/bytealg.IndexByteString"], apart := false }
def FnExactUnquoteNameSaid : Prop := fnExactUnquoteNameRow.holds Try.pinned (OpenSpec.ofChange fnExactUnquoteNameSpec)

/-- ITS FALSE NEIGHBOUR: 'it returns false'. Refute it at one input. -/
def fnExactUnquoteNameWrong : ChangeSpec := { name := "fnExactUnquoteName", fn := fun _ => fun
  | [d] => { results := [.lit (.bool false)], args := [d] }
  | _ => none }
def FnExactUnquoteNameWrongFalsely : Prop := fnExactUnquoteNameRow.holds Try.pinned (OpenSpec.ofChange fnExactUnquoteNameWrong)

/-- 'laws.FnExactPrefix': WHATEVER THE INPUT: true; the input reads as it did. -/
def fnExactPrefixSpec : ChangeSpec := { name := "fnExactPrefix", fn := fun _ => fun
  | [d1, d2] => { results := [.lit (.bool true)], args := [d1, d2] }
  | _ => none }
def fnExactPrefixRow : OpenClaim := { program := "ytmepniddkajckaa", sum := "6da9e399d7be2df461b3c5771d6d107f00e18c93cd05eb99ff0b18513879ee9f", func := "loop.example/g00472/laws.FnExactPrefix", spec := "fnExactPrefix", apart := false }
def FnExactPrefixSaid : Prop := fnExactPrefixRow.holds Try.pinned (OpenSpec.ofChange fnExactPrefixSpec)

/-- ITS FALSE NEIGHBOUR: 'it returns false'. Refute it at one input. -/
def fnExactPrefixWrong : ChangeSpec := { name := "fnExactPrefix", fn := fun _ => fun
  | [d1, d2] => { results := [.lit (.bool false)], args := [d1, d2] }
  | _ => none }
def FnExactPrefixWrongFalsely : Prop := fnExactPrefixRow.holds Try.pinned (OpenSpec.ofChange fnExactPrefixWrong)

/-- 'laws.FnExactMeaning': WHATEVER THE INPUT: true; the input reads as it did. -/
def fnExactMeaningSpec : ChangeSpec := { name := "fnExactMeaning", fn := fun _ => fun
  | [d] => { results := [.lit (.bool true)], args := [d] }
  | _ => none }
def fnExactMeaningRow : OpenClaim := { program := "ytmepniddkajckaa", sum := "6da9e399d7be2df461b3c5771d6d107f00e18c93cd05eb99ff0b18513879ee9f", func := "loop.example/g00472/laws.FnExactMeaning", spec := "fnExactMeaning", apart := false }
def FnExactMeaningSaid : Prop := fnExactMeaningRow.holds Try.pinned (OpenSpec.ofChange fnExactMeaningSpec)

/-- ITS FALSE NEIGHBOUR: 'it returns false'. Refute it at one input. -/
def fnExactMeaningWrong : ChangeSpec := { name := "fnExactMeaning", fn := fun _ => fun
  | [d] => { results := [.lit (.bool false)], args := [d] }
  | _ => none }
def FnExactMeaningWrongFalsely : Prop := fnExactMeaningRow.holds Try.pinned (OpenSpec.ofChange fnExactMeaningWrong)

/-- 'laws.FnExactAgree': WHATEVER THE INPUT: true; the input reads as it did. -/
def fnExactAgreeSpec : ChangeSpec := { name := "fnExactAgree", fn := fun _ => fun
  | [d1, d2] => { results := [.lit (.bool true)], args := [d1, d2] }
  | _ => none }
def fnExactAgreeRow : OpenClaim := { program := "ytmepniddkajckaa", sum := "6da9e399d7be2df461b3c5771d6d107f00e18c93cd05eb99ff0b18513879ee9f", func := "loop.example/g00472/laws.FnExactAgree", spec := "fnExactAgree", apart := false }
def FnExactAgreeSaid : Prop := fnExactAgreeRow.holds Try.pinned (OpenSpec.ofChange fnExactAgreeSpec)

/-- ITS FALSE NEIGHBOUR: 'it returns false'. Refute it at one input. -/
def fnExactAgreeWrong : ChangeSpec := { name := "fnExactAgree", fn := fun _ => fun
  | [d1, d2] => { results := [.lit (.bool false)], args := [d1, d2] }
  | _ => none }
def FnExactAgreeWrongFalsely : Prop := fnExactAgreeRow.holds Try.pinned (OpenSpec.ofChange fnExactAgreeWrong)

/- THE SECOND FORM. 'bulk': how many values and letters a reading holds, each counted each time it is reached (what is shared counts as often as it is met; a slice's spare places count too). A statement '..UptoSaid' is the law's where the arguments, and the package variables that the reading takes, are together of bulk at most 1048576: NARROWER than '..Said'. Prove '..Said' where nothing that the law and all that it calls make is longer than what came in: it says more and counts as full. Else prove '..UptoSaid'. A law counts once. -/
mutual
def uptoBulk {H : Type} : DataW H → Nat
  | .lit (.string bytes) => bytes.length + 1
  | .lit _ => 1
  | .nil => 1
  | .ptr d => uptoBulk d + 1
  | .slice elems spare => uptoBulkAll elems + uptoBulkAll spare + 1
  | .agg parts => uptoBulkAll parts + 1
  | .iface _ d => uptoBulk d + 1
  | .map entries => uptoBulkEntries entries + 1
  | .held _ => 1
def uptoBulkAll {H : Type} : List (DataW H) → Nat
  | [] => 0
  | d :: r => uptoBulk d + uptoBulkAll r
def uptoBulkEntries {H : Type} : List (Lit × DataW H) → Nat
  | [] => 0
  | x :: r => uptoBulkEntry x + uptoBulkEntries r
def uptoBulkEntry {H : Type} : Lit × DataW H → Nat
  | (.string bytes, d) => bytes.length + uptoBulk d + 1
  | (_, d) => uptoBulk d + 1
 end
def uptoSmall : (H : Type) → List (DataW H) → Bool := fun _ ds => decide (uptoBulkAll ds ≤ 1048576)
def OpenSpec.upto (s : _root_.Go.ChangeSpec) : _root_.Go.OpenSpec := { _root_.Go.OpenSpec.ofChange s with cond := some uptoSmall }

/-- 'laws.FnExactQuoteName', WHERE WHAT IT READS IS OF BULK AT MOST 1048576: true; the input reads as it did. -/
def fnExactQuoteNameUptoRow : OpenClaim := { program := "ytmepniddkajckaa", sum := "6da9e399d7be2df461b3c5771d6d107f00e18c93cd05eb99ff0b18513879ee9f", func := "loop.example/g00472/laws.FnExactQuoteName", spec := "fnExactQuoteName", apart := false, narrowed := true }
def FnExactQuoteNameUptoSaid : Prop := fnExactQuoteNameUptoRow.holds Try.pinned (OpenSpec.upto fnExactQuoteNameSpec)

/-- 'laws.FnExactUnquoteName', WHERE WHAT IT READS IS OF BULK AT MOST 1048576: true; the input reads as it did. -/
def fnExactUnquoteNameUptoRow : OpenClaim := { program := "ytmepniddkajckaa", sum := "6da9e399d7be2df461b3c5771d6d107f00e18c93cd05eb99ff0b18513879ee9f", func := "loop.example/g00472/laws.FnExactUnquoteName", spec := "fnExactUnquoteName", inPlace := ["internal/bytealg.IndexByteString"], apart := false, narrowed := true }
def FnExactUnquoteNameUptoSaid : Prop := fnExactUnquoteNameUptoRow.holds Try.pinned (OpenSpec.upto fnExactUnquoteNameSpec)

/-- 'laws.FnExactPrefix', WHERE WHAT IT READS IS OF BULK AT MOST 1048576: true; the input reads as it did. -/
def fnExactPrefixUptoRow : OpenClaim := { program := "ytmepniddkajckaa", sum := "6da9e399d7be2df461b3c5771d6d107f00e18c93cd05eb99ff0b18513879ee9f", func := "loop.example/g00472/laws.FnExactPrefix", spec := "fnExactPrefix", apart := false, narrowed := true }
def FnExactPrefixUptoSaid : Prop := fnExactPrefixUptoRow.holds Try.pinned (OpenSpec.upto fnExactPrefixSpec)

/-- 'laws.FnExactMeaning', WHERE WHAT IT READS IS OF BULK AT MOST 1048576: true; the input reads as it did. -/
def fnExactMeaningUptoRow : OpenClaim := { program := "ytmepniddkajckaa", sum := "6da9e399d7be2df461b3c5771d6d107f00e18c93cd05eb99ff0b18513879ee9f", func := "loop.example/g00472/laws.FnExactMeaning", spec := "fnExactMeaning", apart := false, narrowed := true }
def FnExactMeaningUptoSaid : Prop := fnExactMeaningUptoRow.holds Try.pinned (OpenSpec.upto fnExactMeaningSpec)

/-- 'laws.FnExactAgree', WHERE WHAT IT READS IS OF BULK AT MOST 1048576: true; the input reads as it did. -/
def fnExactAgreeUptoRow : OpenClaim := { program := "ytmepniddkajckaa", sum := "6da9e399d7be2df461b3c5771d6d107f00e18c93cd05eb99ff0b18513879ee9f", func := "loop.example/g00472/laws.FnExactAgree", spec := "fnExactAgree", apart := false, narrowed := true }
def FnExactAgreeUptoSaid : Prop := fnExactAgreeUptoRow.holds Try.pinned (OpenSpec.upto fnExactAgreeSpec)

end Rows
end Go.Proofs.Ytmepniddkajckaa
