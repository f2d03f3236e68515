/- Contracts: impl's names. -/
import Derived.Test.YtfddmelikahfbaaGreatDoorUtfI
import Derived.Test.YtfddmelikahfbaaGreatDoorForm
import Derived.Test.YtfddmelikahfbaaGreatDoorShelf
import Derived.Test.YtfddmelikahfbaaGreatDoorReadL
namespace Go.Proofs.YtfddmelikahfbaaGreatDoor
attribute [local go_sem ↓] Go.wp_at_zero Go.wp_at_succ
open Go.RowKit
open Rep (Is sz)

theorem bodyB_parts {l : List InsD} : bodyB l = true ↔ ((l.length : Int) ≤ 1500 ∧ l.all insOk = true ∧ shapeB l = true) := by
  unfold bodyB
  rw [Bool.and_eq_true, Bool.and_eq_true, decide_eq_true_iff]
  exact ⟨fun ⟨a, b, c⟩ => ⟨b, a, c⟩, fun ⟨a, b, c⟩ => ⟨b, a, c⟩⟩
theorem iname3 (s : ByteArray) (w : World) (hs : s.size ≤ 1099511627776) [h : HasU8 w] : Calls Tryz.prog 72 #[.string s] w fun e w' => e = .returned (.bool (nameB3 s)) ∧ Step w w' := by
  have ka := h.known
  go_enter Tryz.func72, Tryz.ntmps72
  unfold nameB3
  cases q : utfB s
  · go_wp2_with (first | (go_at_call 101; (with_reducible refine Calls.mono (iutf _ _ (by assumption)) ?_); rintro e wk ⟨rfl, st⟩))
    go_ret
    exact ⟨rfl, mkStep⟩
  · go_wp2_with (first | (go_at_call 101; (with_reducible refine Calls.mono (iutf _ _ (by assumption)) ?_); rintro e wk ⟨rfl, st⟩))
    go_ret
    exact ⟨rfl, mkStep⟩
end Go.Proofs.YtfddmelikahfbaaGreatDoor
