/- Laid tables of utf8 as the law's row lists them. -/
import Derived.Test.YtagmliclachjlaaDoorUtfI
import Derived.Test.YtagmliclachjlaaDoorArgS
import Derived.MakeChecks
namespace Go.Proofs.YtagmliclachjlaaDoor
open Go.RowKit Go.ChangeShapes Go.WideShapes
open Rep (Is sz)

theorem u8_of {W : World} (h3 : Lib.VarReads Tryd.prog W "unicode/utf8.first" Lib.firstData) (h4 : Lib.VarReads Tryd.prog W "unicode/utf8.acceptRanges" Lib.acceptData) : U8 W :=
  utf8Tabs_of_readsT (U8Types.of196 Tryd.laysValid) ⟨by kernel_rfl, by kernel_rfl, by kernel_rfl, by kernel_rfl, by kernel_rfl, by kernel_rfl, by kernel_rfl⟩ h3 h4
end Go.Proofs.YtagmliclachjlaaDoor
