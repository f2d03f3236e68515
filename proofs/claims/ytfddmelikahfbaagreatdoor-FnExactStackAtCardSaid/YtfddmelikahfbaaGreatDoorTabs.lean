/- Tables behind frames, by class search; numbers' texts; rows of texts made and searched. -/
import Derived.Test.YtfddmelikahfbaaGreatDoorAuto
import Derived.Test.YtfddmelikahfbaaGreatDoorText
import Derived.Lib.Fields
import Derived.Lib.SlicesS
namespace Go.Proofs.YtfddmelikahfbaaGreatDoor
attribute [local go_sem ↓] Go.wp_at_zero Go.wp_at_succ
open Go.RowKit
open Rep (Is sz)

class KnownPow (a : outParam World) : Prop where
  is : Pow a
class HasPow (w : World) : Prop where
  is : Pow w
instance hasPow {a w : World} [k : KnownPow a] [f : Fr0 a w] : HasPow w := ⟨k.is.fr0 f.fr⟩
theorem HasPow.known {w : World} (h : HasPow w) : KnownPow w := ⟨h.is⟩


/-- A new row of texts. -/
theorem known_lit (w : World) (C : Array Value) (e : TypeId) (l : List ByteArray) (hC : C.toList = strVs l) (hm : l.length ≤ maxLen) (ho : ∀ s ∈ l, OkS s) : Known (w.alloc (.cells C e)) (if l = [] then [] else [w.heap.size]) l [.slice (some ⟨w.heap.size, 0, none⟩) l.length l.length] :=
  ⟨strs_shut (a := some ⟨w.heap.size, 0, none⟩) (view_lit' w C e 1 l.length (strVs l) hC (by simp [strVs])) ⟨Nat.le_refl _, hm⟩ ho⟩

theorem oks_all {l : List ByteArray} (h : l.all (fun s => decide (s.size ≤ 100)) = true) : ∀ s ∈ l, OkS s := by
  intro s hs
  have := List.all_eq_true.1 h s hs
  simp at this
  unfold OkS; omega


theorem strs_getD {w : World} {b o n : Nat} {l : List ByteArray} (h : View w (some ⟨b, o, none⟩) 1 n (strVs l)) (hn : 0 < n) : ∀ j, j < l.length → w.cell? ⟨b, o + j, none⟩ = some (.string (l.getD j ByteArray.empty)) := by
  intro j hj
  obtain ⟨b', o', e, hc⟩ := h.cells hn
  cases e
  have := (hc j (.string l[j]) (by simp [strVs, hj])).1
  rw [this]
  simp [List.getD, hj]

theorem containsS_mem (l : List ByteArray) (s : ByteArray) : Lib.containsS l s = memS l s := by
  rw [Bool.eq_iff_iff, Lib.containsS_iff, memS_iff]

end Go.Proofs.YtfddmelikahfbaaGreatDoor
