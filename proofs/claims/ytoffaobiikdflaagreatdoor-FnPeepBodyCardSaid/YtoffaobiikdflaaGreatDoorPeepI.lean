/- Contracts: impl's shorter. -/
import Derived.Test.YtoffaobiikdflaaGreatDoorPeepIa
import Derived.Test.YtoffaobiikdflaaGreatDoorPeepIb
import Derived.Test.YtoffaobiikdflaaGreatDoorPeepIe
import Derived.Test.YtoffaobiikdflaaGreatDoorPeepIf
namespace Go.Proofs.YtoffaobiikdflaaGreatDoor
open Go.RowKit
open Rep (Is sz)

theorem ishort {F : List Nat} {v : Value} (l : List InsD) (w : World) (hl : l.length ≤ 1048576) [h : Shows w F l [v]] [hZ : HasTz w] :
    Calls Tryz.prog 38 #[v] w fun e w' => ∃ u G, e = .returned (.tuple #[u, .int .i64 ((tryP l).2 : Nat)]) ∧ Known w' G (tryP l).1 [u] ∧ Step w w' := by
  by_cases h65 : opAt l 0 = 65
  · exact ishort_a l w h65 hl
  by_cases h32 : opAt l 0 = 32 ∨ opAt l 0 = 35
  · exact ishort_b l w h32 hl
  by_cases h33 : opAt l 0 = 33
  · exact ishort_e l w h33 hl
  · exact ishort_f l w h65 h32 h33 hl
end Go.Proofs.YtoffaobiikdflaaGreatDoor
