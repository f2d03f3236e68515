/-
  NARROWER THAN 'FOR EVERY INPUT', by the rows' own cells (each row's printed sentence says how): FnValid: laid · FnMoreFuel: laid · FnMain: laid · FnExactRun: laid · FnExactRunMain: laid.
  DERIVED. THE GIVEN ROWS OF THIS SEAT. 5 by the template 'for every input the law returns true; each argument reads behind the call as it read before'; 0 by the template 'total and deterministic' (their statements: YtiedhnodkgdikaaGreatDoorTotals.lean).
  GIVEN WITH THE SEED: the statements are not yours to turn. If you find one false, say at which input.
  Laid BY PROGRAM, IN A SANDBOX (cutbox-rows.mjs): the forced cells as the released guide's own fill.sh prints them over the translation dc919d62af5ce3d1… (all of the seat's roots in one cut). By AI agents, Wed Nov 11 2026. No macro, syntax, notation, axiom, sorry.
-/
import Derived.Test.YtiedhnodkgdikaaGreatDoorChecked
import GoSem.PinnedTables
import GoSem.Claim
import GoSem.ClaimJoined
import GoSem.ClaimMapViews
import Derived.JoinedTies
import Derived.KernelRfl
namespace Go.Proofs.YtiedhnodkgdikaaGreatDoor
/- THE CELL 'sum', in the pinned program and in every row, IS THE sha256 OF THE DUMP (.gsa) THAT YtiedhnodkgdikaaGreatDoorProg.lean LOADS. Nothing in Lean hashes anything: it is a label: what it is worth is what the hold of that sum in a sandbox is worth. -/
noncomputable def Tryz.pinned : Pinned := { name := "ytiedhnodkgdikaagreatdoor", sum := "dc919d62af5ce3d18d7f25c6c02b3d57e0cadefbfcd5037bb4782637832f72fa", checked := Tryz.checked }
namespace Rows
def none {H : Type} : Left H := { results := [], args := [] }

/- WHAT THE LISTED PACKAGE-LEVEL VARIABLES READ AS WHEN THE CALL BEGINS. Each datum BY PROGRAM (the guide's laid-datum.mjs) off the statement by which the dump's own 'gosem.cut.vars' lays the variable. In a bare row this is a premise. The card (YtiedhnodkgdikaaGreatDoorCards.lean) ties it to the program's text. -/
def laid_math_bits_deBruijn32tab {H : Type} : DataW H := .agg [.lit (.int .u8 0), .lit (.int .u8 1), .lit (.int .u8 28), .lit (.int .u8 2), .lit (.int .u8 29), .lit (.int .u8 14), .lit (.int .u8 24), .lit (.int .u8 3), .lit (.int .u8 30), .lit (.int .u8 22), .lit (.int .u8 20), .lit (.int .u8 15), .lit (.int .u8 25), .lit (.int .u8 17), .lit (.int .u8 4), .lit (.int .u8 8), .lit (.int .u8 31), .lit (.int .u8 27), .lit (.int .u8 13), .lit (.int .u8 23), .lit (.int .u8 21), .lit (.int .u8 19), .lit (.int .u8 16), .lit (.int .u8 7), .lit (.int .u8 26), .lit (.int .u8 12), .lit (.int .u8 18), .lit (.int .u8 6), .lit (.int .u8 11), .lit (.int .u8 5), .lit (.int .u8 10), .lit (.int .u8 9)]
def laid_unicode_utf8_acceptRanges {H : Type} : DataW H := .agg [.agg [.lit (.int .u8 128), .lit (.int .u8 191)], .agg [.lit (.int .u8 160), .lit (.int .u8 191)], .agg [.lit (.int .u8 128), .lit (.int .u8 159)], .agg [.lit (.int .u8 144), .lit (.int .u8 191)], .agg [.lit (.int .u8 128), .lit (.int .u8 143)], .agg [.lit (.int .u8 0), .lit (.int .u8 0)], .agg [.lit (.int .u8 0), .lit (.int .u8 0)], .agg [.lit (.int .u8 0), .lit (.int .u8 0)], .agg [.lit (.int .u8 0), .lit (.int .u8 0)], .agg [.lit (.int .u8 0), .lit (.int .u8 0)], .agg [.lit (.int .u8 0), .lit (.int .u8 0)], .agg [.lit (.int .u8 0), .lit (.int .u8 0)], .agg [.lit (.int .u8 0), .lit (.int .u8 0)], .agg [.lit (.int .u8 0), .lit (.int .u8 0)], .agg [.lit (.int .u8 0), .lit (.int .u8 0)], .agg [.lit (.int .u8 0), .lit (.int .u8 0)]]
/-- One of Go's own tables, pinned by name: the form's constant. -/
def laid_unicode_utf8_first : DataW Unit := Go.Pinned.utf8First

/-- 'laws.FnValid': WHATEVER THE INPUT: true; the input reads as it did. -/
def fnValidSpec : ChangeSpec := { name := "fnValid", fn := fun _ => fun
  | [d] => { results := [.lit (.bool true)], args := [d] }
  | _ => none }
def fnValidRow : OpenClaim := { program := "ytiedhnodkgdikaagreatdoor", sum := "dc919d62af5ce3d18d7f25c6c02b3d57e0cadefbfcd5037bb4782637832f72fa", func := "loop.example/g00472/laws.FnValid", spec := "fnValid", unfollowed := true, recurses := true, named := ["unicode/utf8.first", "unicode/utf8.acceptRanges", "math/bits.deBruijn32tab"], apart := false, laid := [("math/bits.deBruijn32tab", laid_math_bits_deBruijn32tab), ("unicode/utf8.acceptRanges", laid_unicode_utf8_acceptRanges), ("unicode/utf8.first", laid_unicode_utf8_first)] }
def FnValidSaid : Prop := fnValidRow.holds Tryz.pinned (OpenSpec.ofChange fnValidSpec)

/-- ITS FALSE NEIGHBOUR: 'it returns false'. Refute it at one input. -/
def fnValidWrong : ChangeSpec := { name := "fnValid", fn := fun _ => fun
  | [d] => { results := [.lit (.bool false)], args := [d] }
  | _ => none }
def FnValidWrongFalsely : Prop := fnValidRow.holds Tryz.pinned (OpenSpec.ofChange fnValidWrong)

/-- 'laws.FnMoreFuel': WHATEVER THE INPUT: true; the input reads as it did. -/
def fnMoreFuelSpec : ChangeSpec := { name := "fnMoreFuel", fn := fun _ => fun
  | [d] => { results := [.lit (.bool true)], args := [d] }
  | _ => none }
def fnMoreFuelRow : OpenClaim := { program := "ytiedhnodkgdikaagreatdoor", sum := "dc919d62af5ce3d18d7f25c6c02b3d57e0cadefbfcd5037bb4782637832f72fa", func := "loop.example/g00472/laws.FnMoreFuel", spec := "fnMoreFuel", unfollowed := true, recurses := true, named := ["unicode/utf8.first", "unicode/utf8.acceptRanges", "math/bits.deBruijn32tab"], apart := false, laid := [("math/bits.deBruijn32tab", laid_math_bits_deBruijn32tab), ("unicode/utf8.acceptRanges", laid_unicode_utf8_acceptRanges), ("unicode/utf8.first", laid_unicode_utf8_first)] }
def FnMoreFuelSaid : Prop := fnMoreFuelRow.holds Tryz.pinned (OpenSpec.ofChange fnMoreFuelSpec)

/-- ITS FALSE NEIGHBOUR: 'it returns false'. Refute it at one input. -/
def fnMoreFuelWrong : ChangeSpec := { name := "fnMoreFuel", fn := fun _ => fun
  | [d] => { results := [.lit (.bool false)], args := [d] }
  | _ => none }
def FnMoreFuelWrongFalsely : Prop := fnMoreFuelRow.holds Tryz.pinned (OpenSpec.ofChange fnMoreFuelWrong)

/-- 'laws.FnMain': WHATEVER THE INPUT: true; the input reads as it did. -/
def fnMainSpec : ChangeSpec := { name := "fnMain", fn := fun _ => fun
  | [d] => { results := [.lit (.bool true)], args := [d] }
  | _ => none }
def fnMainRow : OpenClaim := { program := "ytiedhnodkgdikaagreatdoor", sum := "dc919d62af5ce3d18d7f25c6c02b3d57e0cadefbfcd5037bb4782637832f72fa", func := "loop.example/g00472/laws.FnMain", spec := "fnMain", unfollowed := true, recurses := true, named := ["unicode/utf8.first", "unicode/utf8.acceptRanges", "math/bits.deBruijn32tab"], apart := false, laid := [("math/bits.deBruijn32tab", laid_math_bits_deBruijn32tab), ("unicode/utf8.acceptRanges", laid_unicode_utf8_acceptRanges), ("unicode/utf8.first", laid_unicode_utf8_first)] }
def FnMainSaid : Prop := fnMainRow.holds Tryz.pinned (OpenSpec.ofChange fnMainSpec)

/-- ITS FALSE NEIGHBOUR: 'it returns false'. Refute it at one input. -/
def fnMainWrong : ChangeSpec := { name := "fnMain", fn := fun _ => fun
  | [d] => { results := [.lit (.bool false)], args := [d] }
  | _ => none }
def FnMainWrongFalsely : Prop := fnMainRow.holds Tryz.pinned (OpenSpec.ofChange fnMainWrong)

/-- 'laws.FnExactRun': WHATEVER THE INPUT: true; the input reads as it did. -/
def fnExactRunSpec : ChangeSpec := { name := "fnExactRun", fn := fun _ => fun
  | [d1, d2, d3, d4, d5] => { results := [.lit (.bool true)], args := [d1, d2, d3, d4, d5] }
  | _ => none }
def fnExactRunRow : OpenClaim := { program := "ytiedhnodkgdikaagreatdoor", sum := "dc919d62af5ce3d18d7f25c6c02b3d57e0cadefbfcd5037bb4782637832f72fa", func := "loop.example/g00472/laws.FnExactRun", spec := "fnExactRun", unfollowed := true, recurses := true, named := ["unicode/utf8.first", "unicode/utf8.acceptRanges", "math/bits.deBruijn32tab"], apart := false, laid := [("math/bits.deBruijn32tab", laid_math_bits_deBruijn32tab), ("unicode/utf8.acceptRanges", laid_unicode_utf8_acceptRanges), ("unicode/utf8.first", laid_unicode_utf8_first)] }
def FnExactRunSaid : Prop := fnExactRunRow.holds Tryz.pinned (OpenSpec.ofChange fnExactRunSpec)

/-- ITS FALSE NEIGHBOUR: 'it returns false'. Refute it at one input. -/
def fnExactRunWrong : ChangeSpec := { name := "fnExactRun", fn := fun _ => fun
  | [d1, d2, d3, d4, d5] => { results := [.lit (.bool false)], args := [d1, d2, d3, d4, d5] }
  | _ => none }
def FnExactRunWrongFalsely : Prop := fnExactRunRow.holds Tryz.pinned (OpenSpec.ofChange fnExactRunWrong)

/-- 'laws.FnExactRunMain': WHATEVER THE INPUT: true; the input reads as it did. -/
def fnExactRunMainSpec : ChangeSpec := { name := "fnExactRunMain", fn := fun _ => fun
  | [d1, d2, d3] => { results := [.lit (.bool true)], args := [d1, d2, d3] }
  | _ => none }
def fnExactRunMainRow : OpenClaim := { program := "ytiedhnodkgdikaagreatdoor", sum := "dc919d62af5ce3d18d7f25c6c02b3d57e0cadefbfcd5037bb4782637832f72fa", func := "loop.example/g00472/laws.FnExactRunMain", spec := "fnExactRunMain", unfollowed := true, recurses := true, named := ["unicode/utf8.first", "unicode/utf8.acceptRanges", "math/bits.deBruijn32tab"], apart := false, laid := [("math/bits.deBruijn32tab", laid_math_bits_deBruijn32tab), ("unicode/utf8.acceptRanges", laid_unicode_utf8_acceptRanges), ("unicode/utf8.first", laid_unicode_utf8_first)] }
def FnExactRunMainSaid : Prop := fnExactRunMainRow.holds Tryz.pinned (OpenSpec.ofChange fnExactRunMainSpec)

/-- ITS FALSE NEIGHBOUR: 'it returns false'. Refute it at one input. -/
def fnExactRunMainWrong : ChangeSpec := { name := "fnExactRunMain", fn := fun _ => fun
  | [d1, d2, d3] => { results := [.lit (.bool false)], args := [d1, d2, d3] }
  | _ => none }
def FnExactRunMainWrongFalsely : Prop := fnExactRunMainRow.holds Tryz.pinned (OpenSpec.ofChange fnExactRunMainWrong)

/- THE SECOND FORM. 'bulk': how many values and letters a reading holds, each counted each time it is reached (what is shared counts as often as it is met; a slice's spare places count too). A statement '..UptoSaid' is the law's where the arguments, and the package variables that the reading takes, are together of bulk at most 1048576: NARROWER than '..Said'. Prove '..Said' where nothing that the law and all that it calls make is longer than what came in: it says more and counts as full. Else prove '..UptoSaid'. A law counts once. -/
mutual
def uptoBulk {H : Type} : DataW H → Nat
  | .lit (.string bytes) => bytes.length + 1
  | .lit _ => 1
  | .nil => 1
  | .ptr d => uptoBulk d + 1
  | .slice elems spare => uptoBulkAll elems + uptoBulkAll spare + 1
  | .agg parts => uptoBulkAll parts + 1
  | .iface _ d => uptoBulk d + 1
  | .map entries => uptoBulkEntries entries + 1
  | .held _ => 1
def uptoBulkAll {H : Type} : List (DataW H) → Nat
  | [] => 0
  | d :: r => uptoBulk d + uptoBulkAll r
def uptoBulkEntries {H : Type} : List (Lit × DataW H) → Nat
  | [] => 0
  | x :: r => uptoBulkEntry x + uptoBulkEntries r
def uptoBulkEntry {H : Type} : Lit × DataW H → Nat
  | (.string bytes, d) => bytes.length + uptoBulk d + 1
  | (_, d) => uptoBulk d + 1
 end
def uptoSmall : (H : Type) → List (DataW H) → Bool := fun _ ds => decide (uptoBulkAll ds ≤ 1048576)
def OpenSpec.upto (s : _root_.Go.ChangeSpec) : _root_.Go.OpenSpec := { _root_.Go.OpenSpec.ofChange s with cond := some uptoSmall }

/-- 'laws.FnValid', WHERE WHAT IT READS IS OF BULK AT MOST 1048576: true; the input reads as it did. -/
def fnValidUptoRow : OpenClaim := { program := "ytiedhnodkgdikaagreatdoor", sum := "dc919d62af5ce3d18d7f25c6c02b3d57e0cadefbfcd5037bb4782637832f72fa", func := "loop.example/g00472/laws.FnValid", spec := "fnValid", unfollowed := true, recurses := true, named := ["unicode/utf8.first", "unicode/utf8.acceptRanges", "math/bits.deBruijn32tab"], apart := false, laid := [("math/bits.deBruijn32tab", laid_math_bits_deBruijn32tab), ("unicode/utf8.acceptRanges", laid_unicode_utf8_acceptRanges), ("unicode/utf8.first", laid_unicode_utf8_first)], narrowed := true }
def FnValidUptoSaid : Prop := fnValidUptoRow.holds Tryz.pinned (OpenSpec.upto fnValidSpec)

/-- 'laws.FnMoreFuel', WHERE WHAT IT READS IS OF BULK AT MOST 1048576: true; the input reads as it did. -/
def fnMoreFuelUptoRow : OpenClaim := { program := "ytiedhnodkgdikaagreatdoor", sum := "dc919d62af5ce3d18d7f25c6c02b3d57e0cadefbfcd5037bb4782637832f72fa", func := "loop.example/g00472/laws.FnMoreFuel", spec := "fnMoreFuel", unfollowed := true, recurses := true, named := ["unicode/utf8.first", "unicode/utf8.acceptRanges", "math/bits.deBruijn32tab"], apart := false, laid := [("math/bits.deBruijn32tab", laid_math_bits_deBruijn32tab), ("unicode/utf8.acceptRanges", laid_unicode_utf8_acceptRanges), ("unicode/utf8.first", laid_unicode_utf8_first)], narrowed := true }
def FnMoreFuelUptoSaid : Prop := fnMoreFuelUptoRow.holds Tryz.pinned (OpenSpec.upto fnMoreFuelSpec)

/-- 'laws.FnMain', WHERE WHAT IT READS IS OF BULK AT MOST 1048576: true; the input reads as it did. -/
def fnMainUptoRow : OpenClaim := { program := "ytiedhnodkgdikaagreatdoor", sum := "dc919d62af5ce3d18d7f25c6c02b3d57e0cadefbfcd5037bb4782637832f72fa", func := "loop.example/g00472/laws.FnMain", spec := "fnMain", unfollowed := true, recurses := true, named := ["unicode/utf8.first", "unicode/utf8.acceptRanges", "math/bits.deBruijn32tab"], apart := false, laid := [("math/bits.deBruijn32tab", laid_math_bits_deBruijn32tab), ("unicode/utf8.acceptRanges", laid_unicode_utf8_acceptRanges), ("unicode/utf8.first", laid_unicode_utf8_first)], narrowed := true }
def FnMainUptoSaid : Prop := fnMainUptoRow.holds Tryz.pinned (OpenSpec.upto fnMainSpec)

/-- 'laws.FnExactRun', WHERE WHAT IT READS IS OF BULK AT MOST 1048576: true; the input reads as it did. -/
def fnExactRunUptoRow : OpenClaim := { program := "ytiedhnodkgdikaagreatdoor", sum := "dc919d62af5ce3d18d7f25c6c02b3d57e0cadefbfcd5037bb4782637832f72fa", func := "loop.example/g00472/laws.FnExactRun", spec := "fnExactRun", unfollowed := true, recurses := true, named := ["unicode/utf8.first", "unicode/utf8.acceptRanges", "math/bits.deBruijn32tab"], apart := false, laid := [("math/bits.deBruijn32tab", laid_math_bits_deBruijn32tab), ("unicode/utf8.acceptRanges", laid_unicode_utf8_acceptRanges), ("unicode/utf8.first", laid_unicode_utf8_first)], narrowed := true }
def FnExactRunUptoSaid : Prop := fnExactRunUptoRow.holds Tryz.pinned (OpenSpec.upto fnExactRunSpec)

/-- 'laws.FnExactRunMain', WHERE WHAT IT READS IS OF BULK AT MOST 1048576: true; the input reads as it did. -/
def fnExactRunMainUptoRow : OpenClaim := { program := "ytiedhnodkgdikaagreatdoor", sum := "dc919d62af5ce3d18d7f25c6c02b3d57e0cadefbfcd5037bb4782637832f72fa", func := "loop.example/g00472/laws.FnExactRunMain", spec := "fnExactRunMain", unfollowed := true, recurses := true, named := ["unicode/utf8.first", "unicode/utf8.acceptRanges", "math/bits.deBruijn32tab"], apart := false, laid := [("math/bits.deBruijn32tab", laid_math_bits_deBruijn32tab), ("unicode/utf8.acceptRanges", laid_unicode_utf8_acceptRanges), ("unicode/utf8.first", laid_unicode_utf8_first)], narrowed := true }
def FnExactRunMainUptoSaid : Prop := fnExactRunMainUptoRow.holds Tryz.pinned (OpenSpec.upto fnExactRunMainSpec)

end Rows
end Go.Proofs.YtiedhnodkgdikaaGreatDoor
