/- Contracts: impl.UtfOk; the tables of utf8. -/
import Derived.Test.YtociekeaiigpfaaGreatDoorUtfS
import Derived.Test.YtociekeaiigpfaaGreatDoorShelfV
namespace Go.Proofs.YtociekeaiigpfaaGreatDoor
attribute [local go_sem ↓] Go.wp_at_zero Go.wp_at_succ
open Go.RowKit
open Rep (Is sz)

def U8 (w : World) : Prop := Lib.Utf8Tabs (Tryz.laysValid_ren.g 3) (Tryz.laysValid_ren.g 4) w
theorem U8.fr0 {a w : World} (h : U8 a) (f : Fr [] a w) : U8 w := ⟨fun c hc => f.cell_some (h.1 c hc) (by simp), fun i hi => ⟨f.cell_some (h.2 i hi).1 (by simp), f.cell_some (h.2 i hi).2 (by simp)⟩⟩
class KnownU8 (a : outParam World) : Prop where
  is : U8 a
class HasU8 (w : World) : Prop where
  is : U8 w
instance hasU8 {a w : World} [k : KnownU8 a] [f : Fr0 a w] : HasU8 w := ⟨k.is.fr0 f.fr⟩
theorem HasU8.known {w : World} (h : HasU8 w) : KnownU8 w := ⟨h.is⟩
theorem iutf (s : ByteArray) (w : World) (hs : s.size ≤ 1099511627776) [h : HasU8 w] : Calls Tryz.prog 158 #[.string s] w fun e w' => e = .returned (.bool (utfB s)) ∧ Step w w' := by
  have ka := h.known
  have hT : Lib.Utf8Tabs (Tryz.laysValid_ren.g 3) (Tryz.laysValid_ren.g 4) w := h.is
  go_enter Tryz.func158, Tryz.ntmps158
  go_wp2_with fail
  with_reducible refine Calls.mono (Tryz.utf8_ValidString s _ (by omega) hT) ?_
  rintro e w2 ⟨rfl, hb⟩
  have st : Step w w2 := ⟨⟨hb.os, hb.tape, hb.output, hb.size, fun k hk _ => hb.block k hk⟩⟩
  go_wp2
  go_ret
  exact ⟨rfl, st⟩
end Go.Proofs.YtociekeaiigpfaaGreatDoor
