/- Contracts: impl's names. -/
import Derived.Test.YtnldaicibnkeoaaGreatDoorShelfV
import Derived.Test.YtnldaicibnkeoaaGreatDoorForm
import Derived.Test.YtnldaicibnkeoaaGreatDoorShelf
import Derived.Test.YtnldaicibnkeoaaGreatDoorReadL
namespace Go.Proofs.YtnldaicibnkeoaaGreatDoor
attribute [local go_sem ↓] Go.wp_at_zero Go.wp_at_succ
open Go.RowKit
open Rep (Is sz)

theorem bodyB_parts {l : List InsD} : bodyB l = true ↔ ((l.length : Int) ≤ 1500 ∧ l.all insOk = true ∧ shapeB l = true) := by
  unfold bodyB
  rw [Bool.and_eq_true, Bool.and_eq_true, decide_eq_true_iff]
  exact ⟨fun ⟨a, b, c⟩ => ⟨b, a, c⟩, fun ⟨a, b, c⟩ => ⟨b, a, c⟩⟩
def U8 (w : World) : Prop := Lib.Utf8Tabs (Tryz.laysValid_ren.g 3) (Tryz.laysValid_ren.g 4) w
theorem U8.fr0 {a w : World} (h : U8 a) (f : Fr [] a w) : U8 w := ⟨fun c hc => f.cell_some (h.1 c hc) (by simp), fun i hi => ⟨f.cell_some (h.2 i hi).1 (by simp), f.cell_some (h.2 i hi).2 (by simp)⟩⟩
class KnownU8 (a : outParam World) : Prop where
  is : U8 a
class HasU8 (w : World) : Prop where
  is : U8 w
instance hasU8 {a w : World} [k : KnownU8 a] [f : Fr0 a w] : HasU8 w := ⟨k.is.fr0 f.fr⟩
theorem HasU8.known {w : World} (h : HasU8 w) : KnownU8 w := ⟨h.is⟩
theorem iutf (s : ByteArray) (w : World) (hs : s.size ≤ 1099511627776) [h : HasU8 w] : Calls Tryz.prog 66 #[.string s] w fun e w' => e = .returned (.bool (utfB s)) ∧ Step w w' := by
  have ka := h.known
  have hT : Lib.Utf8Tabs (Tryz.laysValid_ren.g 3) (Tryz.laysValid_ren.g 4) w := h.is
  go_enter Tryz.func66, Tryz.ntmps66
  go_wp2_with fail
  with_reducible refine Calls.mono (Tryz.utf8_ValidString s _ (by omega) hT) ?_
  rintro e w2 ⟨rfl, hb⟩
  have st : Step w w2 := ⟨⟨hb.os, hb.tape, hb.output, hb.size, fun k hk _ => hb.block k hk⟩⟩
  go_wp2
  go_ret
  exact ⟨rfl, st⟩
theorem iname3 (s : ByteArray) (w : World) (hs : s.size ≤ 1099511627776) [h : HasU8 w] : Calls Tryz.prog 47 #[.string s] w fun e w' => e = .returned (.bool (nameB3 s)) ∧ Step w w' := by
  have ka := h.known
  go_enter Tryz.func47, Tryz.ntmps47
  unfold nameB3
  cases q : utfB s
  · go_wp2_with (first | (go_at_call 66; (with_reducible refine Calls.mono (iutf _ _ (by assumption)) ?_); rintro e wk ⟨rfl, st⟩))
    go_ret
    exact ⟨rfl, mkStep⟩
  · go_wp2_with (first | (go_at_call 66; (with_reducible refine Calls.mono (iutf _ _ (by assumption)) ?_); rintro e wk ⟨rfl, st⟩))
    go_ret
    exact ⟨rfl, mkStep⟩
end Go.Proofs.YtnldaicibnkeoaaGreatDoor
