/- Steps that write some blocks of old: by class search. -/
import Derived.Test.YtbijeibcchbcpaaDoorHelp
namespace Go.Proofs.YtbijeibcchbcpaaDoor
open Go.RowKit
open Rep (Is sz)

/-- w comes of a, and all that a had is as it was but for the blocks of S. -/
class StepX (S : outParam (List Nat)) (a : outParam World) (w : World) : Prop where
  fr : Fr S a w
instance old_stepx {b : Nat} {S : List Nat} {a w : World} [s : StepX S a w] [h : Old b a] : Old b w := ⟨Nat.lt_of_lt_of_le h.lt s.fr.size⟩
instance grew_stepx {S : List Nat} {a m w : World} [s : StepX S m w] [h : Grew a m] : Grew a w := ⟨Nat.le_trans h.le s.fr.size⟩
@[go_sem] theorem cell_stepx {S : List Nat} {a w : World} {b o : Nat} [s : StepX S a w] [h : Old b a] [n : NotIn b S] : w.cell? ⟨b, o, none⟩ = cellAt a b o := s.fr.cell (p := ⟨b, o, none⟩) h.lt n.ne
@[go_sem] theorem frozen_stepx {S : List Nat} {a w : World} {b o : Nat} [s : StepX S a w] [h : Old b a] [n : NotIn b S] : w.frozen? ⟨b, o, none⟩ = frozenAt a b o := s.fr.frozen (p := ⟨b, o, none⟩) h.lt n.ne

/-- Two blocks that differ. -/
class NeB (b c : Nat) : Prop where
  ne : b ≠ c
/-- Block g is one of the world w's, at which the walk began. -/
class Arg (g : Nat) (w : outParam World) : Prop where
  lt : g < w.heap.size
instance newb_grew {a w : World} [h : Grew a w] : NewB a w.heap.size := ⟨h.le⟩
instance ne_new {g b : Nat} {w : World} [a : Arg g w] [n : NewB w b] : NeB b g := ⟨by have := a.lt; have := n.le; omega⟩
instance ne_new' {g b : Nat} {w : World} [a : Arg g w] [n : NewB w b] : NeB g b := ⟨by have := a.lt; have := n.le; omega⟩
instance notin_cons {b c : Nat} {S : List Nat} [n : NeB b c] [m : NotIn b S] : NotIn b (c :: S) := ⟨by
  intro h
  rcases List.mem_cons.1 h with h | h
  · exact n.ne h
  · exact m.ne h⟩

/-- Two footprints apart. -/
class Apart (F S : List Nat) : Prop where
  ne : ∀ b ∈ F, b ∉ S
instance apart_nil (S : List Nat) : Apart [] S := ⟨by simp⟩
instance (priority := 40) shows_stepx {α : Type} [Rep α] {S : List Nat} {m w : World} {F : List Nat} {x : α} {cs : List Value} [s : StepX S m w] [h : Shows m F x cs] [a : Apart F S] : Shows w F x cs := ⟨Rep.fr h.is s.fr a.ne⟩

/-- All of a's blocks are in b as they were but for S. -/
class FrX (S : List Nat) (a b : World) : Prop where
  fr : Fr S a b
class MemB (b : Nat) (S : List Nat) : Prop where
  mem : b ∈ S
instance mem_head (b : Nat) (S : List Nat) : MemB b (b :: S) := ⟨List.mem_cons_self⟩
instance mem_tail {b c : Nat} {S : List Nat} [h : MemB b S] : MemB b (c :: S) := ⟨List.mem_cons_of_mem _ h.mem⟩
/-- The blocks of T are of S, or none of a's. -/
class SubX (a : World) (T S : List Nat) : Prop where
  sub : ∀ b ∈ T, b ∈ S ∨ a.heap.size ≤ b
instance (priority := 2000) sub_refl (a : World) (S : List Nat) : SubX a S S := ⟨fun _ h => .inl h⟩
instance sub_nil (a : World) (S : List Nat) : SubX a [] S := ⟨by simp⟩
instance sub_mem {a : World} {b : Nat} {T S : List Nat} [h : MemB b S] [k : SubX a T S] : SubX a (b :: T) S := ⟨by
  intro c hc
  rcases List.mem_cons.1 hc with rfl | hc
  · exact .inl h.mem
  · exact k.sub c hc⟩
instance sub_new {a : World} {b : Nat} {T S : List Nat} [h : NewB a b] [k : SubX a T S] : SubX a (b :: T) S := ⟨by
  intro c hc
  rcases List.mem_cons.1 hc with rfl | hc
  · exact .inr h.le
  · exact k.sub c hc⟩
instance frx_refl (S : List Nat) (a : World) : FrX S a a := ⟨Fr.refl _ _⟩
instance frx_drew {S : List Nat} {a w : World} [h : FrX S a w] : FrX S a w.drew := ⟨h.fr.drew⟩
instance frx_alloc {S : List Nat} {a w : World} {o : Obj} [h : FrX S a w] : FrX S a (w.alloc o) := ⟨h.fr.alloc _⟩
instance frx_set {S : List Nat} {a w : World} {b o : Nat} {v : Value} [h : FrX S a w] [n : MemB b S] : FrX S a (w.setCell ⟨b, o, none⟩ v) := ⟨h.fr.setCell (.inl n.mem) _⟩
instance frx_setn {S : List Nat} {a w : World} {b o : Nat} {v : Value} [h : FrX S a w] [n : NewB a b] : FrX S a (w.setCell ⟨b, o, none⟩ v) := ⟨h.fr.setCell (.inr n.le) _⟩
instance frx_step {S : List Nat} {a m w : World} [s : Step m w] [h : FrX S a m] : FrX S a w := ⟨h.fr.trans0 s.fr⟩
instance frx_stepx {S T : List Nat} {a m w : World} [s : StepX T m w] [h : FrX S a m] [k : SubX a T S] : FrX S a w := ⟨h.fr.trans s.fr k.sub⟩
theorem mkStepX {S : List Nat} {a b : World} [h : FrX S a b] : StepX S a b := ⟨h.fr⟩
/-- Where the written blocks are new, nothing old was written. -/
instance fr0_stepx {T : List Nat} {a m w : World} [s : StepX T m w] [h : Fr0 a m] [k : SubX a T []] : Fr0 a w := ⟨h.fr.trans s.fr k.sub⟩

/-- A struct's own block, known whole, at a world by its name. -/
class BoxL (w : World) (g : Nat) (C : outParam (Array Value)) : Prop where
  is : Box w g C
/-- The same at whatever world. -/
class BoxAt (w : World) (g : Nat) (C : outParam (Array Value)) : Prop where
  is : Box w g C
instance box_l {w : World} {g : Nat} {C : Array Value} [h : BoxL w g C] : BoxAt w g C := ⟨h.is⟩
instance (priority := 90) box_alloc {w : World} {g : Nat} {C : Array Value} {o : Obj} [h : BoxAt w g C] : BoxAt (w.alloc o) g C := ⟨h.is.alloc o⟩
instance (priority := 90) box_drew {w : World} {g : Nat} {C : Array Value} [h : BoxAt w g C] : BoxAt w.drew g C := ⟨h.is⟩
instance (priority := 90) box_set {w : World} {g b o : Nat} {v : Value} {C : Array Value} [h : BoxAt w g C] [n : NeB b g] : BoxAt (w.setCell ⟨b, o, none⟩ v) g C := ⟨Box.other n.ne h.is⟩
instance (priority := 80) box_step {m w : World} {g : Nat} {C : Array Value} [s : Step m w] [h : BoxAt m g C] : BoxAt w g C := ⟨h.is.fr0 s.fr⟩
instance (priority := 70) box_stepx {S : List Nat} {m w : World} {g : Nat} {C : Array Value} [s : StepX S m w] [h : BoxAt m g C] [n : NotIn g S] : BoxAt w g C := ⟨h.is.fr s.fr n.ne⟩
@[go_sem] theorem cell_box {w : World} {g j : Nat} {C : Array Value} [h : BoxL w g C] : w.cell? ⟨g, j, none⟩ = C[j]? := h.is.cell_eq j
@[go_sem] theorem frozen_box {w : World} {g j : Nat} {C : Array Value} [h : BoxL w g C] : w.frozen? ⟨g, j, none⟩ = false := h.is.live j
theorem BoxL.old {w : World} {g : Nat} {C : Array Value} (h : BoxL w g C) : Old g w := ⟨h.is.lt⟩
theorem BoxL.arg {w : World} {g : Nat} {C : Array Value} (h : BoxL w g C) : Arg g w := ⟨h.is.lt⟩
theorem BoxAt.l {w : World} {g : Nat} {C : Array Value} (h : BoxAt w g C) : BoxL w g C := ⟨h.is⟩
/-- A write into the block itself. -/
theorem boxSet {w : World} {g j : Nat} {v : Value} {C C' : Array Value} [h : BoxAt w g C] (e : C.setIfInBounds j v = C') : BoxL (w.setCell ⟨g, j, none⟩ v) g C' := ⟨e ▸ h.is.set j v⟩
theorem boxOf {w : World} {g : Nat} {C : Array Value} [h : BoxAt w g C] : BoxL w g C := ⟨h.is⟩
end Go.Proofs.YtbijeibcchbcpaaDoor
