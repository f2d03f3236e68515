/- Contracts: impl's FormOk. -/
import Derived.Test.YtociekeaiigpfaaGreatDoorFormIa
import Derived.Test.YtociekeaiigpfaaGreatDoorFormIb
namespace Go.Proofs.YtociekeaiigpfaaGreatDoor
open Go.RowKit
open Rep (Is sz)

theorem iform {F : List Nat} {cs : List Value} (m : ModuleD) (w : World) (hb : moduleCost m ≤ 1048576) [h : Shows w F m cs] [hU : HasU8 w] : Calls Tryz.prog 52 #[.agg cs.toArray] w fun e w' => e = .returned (.bool (pB (FormP m))) ∧ Step w w' := by
  by_cases e1 : m.most = -1
  · exact iform_a m w hb e1
  · exact iform_b m w hb e1
end Go.Proofs.YtociekeaiigpfaaGreatDoor
