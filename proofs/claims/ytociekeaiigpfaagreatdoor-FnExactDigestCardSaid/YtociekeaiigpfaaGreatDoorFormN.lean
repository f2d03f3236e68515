/- Contracts: impl's names. -/
import Derived.Test.YtociekeaiigpfaaGreatDoorUtfI
import Derived.Test.YtociekeaiigpfaaGreatDoorForm
import Derived.Test.YtociekeaiigpfaaGreatDoorShelf
import Derived.Test.YtociekeaiigpfaaGreatDoorReadL
namespace Go.Proofs.YtociekeaiigpfaaGreatDoor
attribute [local go_sem ↓] Go.wp_at_zero Go.wp_at_succ
open Go.RowKit
open Rep (Is sz)

theorem bodyB_parts {l : List InsD} : bodyB l = true ↔ ((l.length : Int) ≤ 1500 ∧ l.all insOk = true ∧ shapeB l = true) := by
  unfold bodyB
  rw [Bool.and_eq_true, Bool.and_eq_true, decide_eq_true_iff]
  exact ⟨fun ⟨a, b, c⟩ => ⟨b, a, c⟩, fun ⟨a, b, c⟩ => ⟨b, a, c⟩⟩
theorem iname3 (s : ByteArray) (w : World) (hs : s.size ≤ 1099511627776) [h : HasU8 w] : Calls Tryz.prog 118 #[.string s] w fun e w' => e = .returned (.bool (nameB3 s)) ∧ Step w w' := by
  have ka := h.known
  go_enter Tryz.func118, Tryz.ntmps118
  unfold nameB3
  cases q : utfB s
  · go_wp2_with (first | (go_at_call 158; (with_reducible refine Calls.mono (iutf _ _ (by assumption)) ?_); rintro e wk ⟨rfl, st⟩))
    go_ret
    exact ⟨rfl, mkStep⟩
  · go_wp2_with (first | (go_at_call 158; (with_reducible refine Calls.mono (iutf _ _ (by assumption)) ?_); rintro e wk ⟨rfl, st⟩))
    go_ret
    exact ⟨rfl, mkStep⟩
end Go.Proofs.YtociekeaiigpfaaGreatDoor
