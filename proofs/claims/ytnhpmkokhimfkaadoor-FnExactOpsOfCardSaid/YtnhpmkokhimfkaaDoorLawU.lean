/- Laid tables of utf8 as the law's row lists them. -/
import Derived.Test.YtnhpmkokhimfkaaDoorFormN
import Derived.Test.YtnhpmkokhimfkaaDoorArgS
import Derived.MakeChecks
namespace Go.Proofs.YtnhpmkokhimfkaaDoor
open Go.RowKit Go.ChangeShapes Go.WideShapes
open Rep (Is sz)

theorem u8_of {W : World} (h3 : Lib.VarReads Tryd.prog W "unicode/utf8.first" Lib.firstData) (h4 : Lib.VarReads Tryd.prog W "unicode/utf8.acceptRanges" Lib.acceptData) : U8 W :=
  utf8Tabs_of_readsT (U8Types.of196 Tryd.laysValid) ⟨by kernel_rfl, by kernel_rfl, by kernel_rfl, by kernel_rfl, by kernel_rfl, by kernel_rfl, by kernel_rfl⟩ h3 h4
set_option maxRecDepth 100000 in
theorem FnExactOpsOf_u8 {W : World} (h : laidMetH Tryd.prog Rows.fnExactOpsOfRow.laid W) : U8 W := by
  rw [MakeChecks.laidMetH_plain _ _ _ (by kernel_rfl)] at h
  have e1 : Rows.laid_unicode_utf8_first = Lib.firstData := by kernel_rfl
  have e2 : Rows.laid_unicode_utf8_acceptRanges = Lib.acceptData := by kernel_rfl
  exact u8_of (e1 ▸ Lib.laidMet.reads h (d := Rows.laid_unicode_utf8_first) (.tail _ (.head _))) (e2 ▸ Lib.laidMet.reads h (d := Rows.laid_unicode_utf8_acceptRanges) (.head _))
end Go.Proofs.YtnhpmkokhimfkaaDoor
