/- Tables behind frames, by class search; numbers' texts; rows of texts made and searched. -/
import Derived.Test.YtbijeibcchbcpaaDoorAuto
import Derived.Test.YtbijeibcchbcpaaDoorText
import Derived.Lib.Fields
import Derived.Lib.SlicesS
namespace Go.Proofs.YtbijeibcchbcpaaDoor
attribute [local go_sem ↓] Go.wp_at_zero Go.wp_at_succ
open Go.RowKit
open Rep (Is sz)

class KnownPow (a : outParam World) : Prop where
  is : Pow a
class HasPow (w : World) : Prop where
  is : Pow w
instance hasPow {a w : World} [k : KnownPow a] [f : Fr0 a w] : HasPow w := ⟨k.is.fr0 f.fr⟩
theorem HasPow.known {w : World} (h : HasPow w) : KnownPow w := ⟨h.is⟩

theorem inum (n : Int) (w : World) [h : HasPow w] : Calls Tryd.prog 16 #[.int .i64 n] w fun e w' => e = .returned (.string ⟨(numL n).toArray⟩) ∧ Step w w' :=
  (inum_any n w h.is).mono fun _ _ ⟨h1, h2⟩ => ⟨h1, ⟨h2⟩⟩

/-- A new row of texts. -/
theorem known_lit (w : World) (C : Array Value) (e : TypeId) (l : List ByteArray) (hC : C.toList = strVs l) (hm : l.length ≤ maxLen) (ho : ∀ s ∈ l, OkS s) : Known (w.alloc (.cells C e)) (if l = [] then [] else [w.heap.size]) l [.slice (some ⟨w.heap.size, 0, none⟩) l.length l.length] :=
  ⟨strs_shut (a := some ⟨w.heap.size, 0, none⟩) (view_lit' w C e 1 l.length (strVs l) hC (by simp [strVs])) ⟨Nat.le_refl _, hm⟩ ho⟩

theorem oks_all {l : List ByteArray} (h : l.all (fun s => decide (s.size ≤ 100)) = true) : ∀ s ∈ l, OkS s := by
  intro s hs
  have := List.all_eq_true.1 h s hs
  simp at this
  unfold OkS; omega

def Asc (w : World) : Prop := Lib.TabIs Tryd.prog w "strings.asciiSpace" .u8 Lib.asciiSpaceTab
class KnownAsc (a : outParam World) : Prop where
  is : Asc a
class HasAsc (w : World) : Prop where
  is : Asc w
instance hasAsc {a w : World} [k : KnownAsc a] [f : Fr0 a w] : HasAsc w := ⟨tab_fr0 k.is f.fr⟩
theorem HasAsc.known {w : World} (h : HasAsc w) : KnownAsc w := ⟨h.is⟩

/-- strings.Fields of a constant text. -/
theorem fields_lit (s : ByteArray) (l : List ByteArray) (w : World) [h : HasAsc w] (hs : s.size < 4294967281) (ha : s.data.toList.all (fun b => decide (b.toNat < 128)) = true) (hl : (Lib.fields s.data.toList).map (fun x => (⟨x.toArray⟩ : ByteArray)) = l) (hm : l.length ≤ maxLen) (ho : l.all (fun s => decide (s.size ≤ 100)) = true) :
    Calls Tryd.prog 52 #[.string s] w fun e w' => ∃ v F, e = .returned v ∧ Known w' F l [v] ∧ Step w w' := by
  refine (Tryd.strings_Fields s w hs (fun j b hj => ?_) h.is).mono ?_
  · have := List.all_eq_true.1 ha b (List.mem_of_getElem? hj)
    simpa using this
  · rintro e w' ⟨rfl, rfl⟩
    have e1 : (Lib.fields s.data.toList).length = l.length := by rw [← hl, List.length_map]
    rw [e1]
    exact ⟨_, _, rfl, known_lit w _ _ l (by rw [← hl]; simp [strVs]) hm (oks_all ho), mkStep⟩

theorem strs_getD {w : World} {b o n : Nat} {l : List ByteArray} (h : View w (some ⟨b, o, none⟩) 1 n (strVs l)) (hn : 0 < n) : ∀ j, j < l.length → w.cell? ⟨b, o + j, none⟩ = some (.string (l.getD j ByteArray.empty)) := by
  intro j hj
  obtain ⟨b', o', e, hc⟩ := h.cells hn
  cases e
  have := (hc j (.string l[j]) (by simp [strVs, hj])).1
  rw [this]
  simp [List.getD, hj]

theorem containsS_mem (l : List ByteArray) (s : ByteArray) : Lib.containsS l s = memS l s := by
  rw [Bool.eq_iff_iff, Lib.containsS_iff, memS_iff]

theorem icont {F : List Nat} {l : List ByteArray} {v : Value} (s : ByteArray) (w : World) [h : Shows w F l [v]] :
    Calls Tryd.prog 41 #[v, .string s] w fun e w' => e = .returned (.bool (memS l s)) ∧ Step w w' := by
  obtain ⟨a, cap, hv, _, hvw, hml, _⟩ := strs_open h.is
  cases hv
  unfold maxLen at hml
  by_cases hl : l = []
  · subst hl
    exact (Tryd.slices_Contains_string_empty a cap s w).mono fun _ _ ⟨h1, h2⟩ => ⟨h1, by subst h2; exact mkStep⟩
  · have hp := List.length_pos_iff.2 hl
    obtain ⟨b, o, rfl, _⟩ := hvw.cells hp
    refine (Tryd.slices_Contains_string b o l.length cap l s w (Nat.le_refl _) (by omega) (strs_getD hvw hp)).mono ?_
    rintro e w' ⟨rfl, rfl⟩
    exact ⟨by rw [List.take_length, containsS_mem], mkStep⟩
end Go.Proofs.YtbijeibcchbcpaaDoor
