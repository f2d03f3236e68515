/- Contract: within. -/
import Derived.Test.YtbijeibcchbcpaaDoorBase
attribute [local go_sem ↓] Go.wp_at_zero Go.wp_at_succ
namespace Go.Proofs.YtbijeibcchbcpaaDoor
open Go.RowKit


end Go.Proofs.YtbijeibcchbcpaaDoor
