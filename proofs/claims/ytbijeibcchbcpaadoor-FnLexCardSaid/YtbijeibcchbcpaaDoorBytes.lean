/- Contracts: the laws' own helpers for bytes. -/
import Derived.Test.YtbijeibcchbcpaaDoorRow
import Derived.Test.YtbijeibcchbcpaaDoorMut
import Derived.Test.YtbijeibcchbcpaaDoorLeb
namespace Go.Proofs.YtbijeibcchbcpaaDoor
attribute [local go_sem ↓] Go.wp_at_zero Go.wp_at_succ
open Go.RowKit Go.ChangeShapes Go.WideShapes
open Rep (Is sz)

theorem Tryd.bytes_tab : Tryd.prog.underlying 22 = some (.slice 5) ∧ (Tryd.prog.info? 5).map (fun i => (i.zero, i.size, i.bytes)) = some (some (.int .u8 0), 1, 1) ∧ (Value.int .u8 0).cells.size = 1 ∧ 0 < 1 ∧ 0 < 1 :=
  ⟨by kernel_rfl, by kernel_rfl, rfl, by decide, by decide⟩
set_option maxRecDepth 10000 in
theorem opens_bytes : Opens Tryd.prog 22 (List UInt8) := opens_slice Tryd.underlying22 (by kernel_rfl) Nat.one_pos (opens_byte Tryd.underlying5 (by kernel_rfl))

end Go.Proofs.YtbijeibcchbcpaaDoor
