/- Frames, blocks and data that are found by class search: what a walk needs at each call is then looked up, not typed. Small laws of this work's own, over any program. -/
import Derived.Test.YtbijeibcchbcpaaDoorRep
import Derived.Test.YtbijeibcchbcpaaDoorRegion
namespace Go.Proofs.YtbijeibcchbcpaaDoor
open Go.RowKit
open Rep (Is sz)

/-- The number of a world's blocks. -/
class SizeIs (n : outParam Nat) (w : World) : Prop where
  eq : w.heap.size = n
instance (priority := low) size_self (w : World) : SizeIs w.heap.size w := ⟨rfl⟩
instance size_alloc {n : Nat} {w : World} {o : Obj} [h : SizeIs n w] : SizeIs (n + 1) (w.alloc o) := ⟨by simp [h.eq]⟩
instance size_set {n : Nat} {w : World} {p : Addr} {v : Value} [h : SizeIs n w] : SizeIs n (w.setCell p v) := ⟨by simp [World.setCell, h.eq]⟩
instance size_drew {n : Nat} {w : World} [h : SizeIs n w] : SizeIs n w.drew := ⟨h.eq⟩

/-- w comes of a, and all that a had is as it was. One such fact a world: the last step to it. -/
class Step (a : outParam World) (w : World) : Prop where
  fr : Fr [] a w

/-- Every block of a is in b as it was in a. -/
class Fr0 (a b : World) : Prop where
  fr : Fr [] a b

/-- Block n is none of a's. -/
class NewB (a : World) (n : Nat) : Prop where
  le : a.heap.size ≤ n
instance fr0_refl (a : World) : Fr0 a a := ⟨Fr.refl _ _⟩
instance fr0_drew {a w : World} [h : Fr0 a w] : Fr0 a w.drew := ⟨h.fr.drew⟩
instance fr0_alloc {a w : World} {o : Obj} [h : Fr0 a w] : Fr0 a (w.alloc o) := ⟨h.fr.alloc _⟩
instance fr0_step {a m w : World} [s : Step m w] [h : Fr0 a m] : Fr0 a w := ⟨h.fr.trans0 s.fr⟩
instance newb_size {a w : World} [h : Fr0 a w] : NewB a w.heap.size := ⟨h.fr.size⟩
instance newb_succ {a : World} {n : Nat} [h : NewB a n] : NewB a (n + 1) := ⟨Nat.le_succ_of_le h.le⟩
instance fr0_set {a w : World} {b o : Nat} {v : Value} [h : Fr0 a w] [n : NewB a b] : Fr0 a (w.setCell ⟨b, o, none⟩ v) := ⟨h.fr.setCell (.inr n.le) _⟩
theorem mkStep {a b : World} [h : Fr0 a b] : Step a b := ⟨h.fr⟩
theorem mkFr {a b : World} [h : Fr0 a b] : Fr [] a b := h.fr

/-- Block b is one of w's. -/
class Old (b : Nat) (w : World) : Prop where
  lt : b < w.heap.size
instance old_new {n : Nat} {w : World} {o : Obj} [h : SizeIs n w] : Old n (w.alloc o) := ⟨by simp [h.eq]⟩
instance old_alloc {b : Nat} {w : World} {o : Obj} [h : Old b w] : Old b (w.alloc o) := ⟨by have := h.lt; simp; omega⟩
instance old_set {b : Nat} {w : World} {p : Addr} {v : Value} [h : Old b w] : Old b (w.setCell p v) := ⟨by simpa [World.setCell] using h.lt⟩
instance old_drew {b : Nat} {w : World} [h : Old b w] : Old b w.drew := ⟨h.lt⟩
instance old_step {b : Nat} {a w : World} [s : Step a w] [h : Old b a] : Old b w := ⟨Nat.lt_of_lt_of_le h.lt s.fr.size⟩

/-- The looks under names of their own: else simp takes the two rules below for a mere turning round. -/
def cellAt (w : World) (b o : Nat) : Option Value := w.cell? ⟨b, o, none⟩
def frozenAt (w : World) (b o : Nat) : Bool := w.frozen? ⟨b, o, none⟩
@[go_sem] theorem cellAt_eq (w : World) (b o : Nat) : cellAt w b o = w.cell? ⟨b, o, none⟩ := rfl
@[go_sem] theorem frozenAt_eq (w : World) (b o : Nat) : frozenAt w b o = w.frozen? ⟨b, o, none⟩ := rfl
@[go_sem] theorem cell_step {a w : World} {b o : Nat} [s : Step a w] [h : Old b a] : w.cell? ⟨b, o, none⟩ = cellAt a b o := s.fr.cell (p := ⟨b, o, none⟩) h.lt (by simp)
@[go_sem] theorem frozen_step {a w : World} {b o : Nat} [s : Step a w] [h : Old b a] : w.frozen? ⟨b, o, none⟩ = frozenAt a b o := s.fr.frozen (p := ⟨b, o, none⟩) h.lt (by simp)
@[go_sem] theorem cell_alloc_old {w : World} {ob : Obj} {b o : Nat} [h : Old b w] : (w.alloc ob).cell? ⟨b, o, none⟩ = w.cell? ⟨b, o, none⟩ := World.cell?_alloc_past ob b o h.lt
@[go_sem] theorem frozen_alloc_old {w : World} {ob : Obj} {b o : Nat} [h : Old b w] : (w.alloc ob).frozen? ⟨b, o, none⟩ = w.frozen? ⟨b, o, none⟩ := World.frozen?_alloc_past ob b o h.lt
@[go_sem] theorem set_alloc_old {w : World} {ob : Obj} {b o : Nat} {v : Value} [h : Old b w] : (w.alloc ob).setCell ⟨b, o, none⟩ v = (w.setCell ⟨b, o, none⟩ v).alloc ob := World.setCell_alloc_past ob b o v h.lt

/-- The world's name: what it had stays to be looked up. -/
theorem wp_name {P : Program} {c : Code} {Q : Exit → Act → World → Prop} {a : Act} {w : World} (h : ∀ A, Step w A → c.wp P Q a A) : c.wp P Q a w := h w ⟨Fr.refl _ _⟩

/-- Known of the cells cs: at the world a they show x. -/
class Known {α : outParam Type} [Rep α] (a : outParam World) (F : outParam (List Nat)) (x : outParam α) (cs : List Value) : Prop where
  is : Is a F x cs
class Shows {α : outParam Type} [Rep α] (w : World) (F : outParam (List Nat)) (x : outParam α) (cs : List Value) : Prop where
  is : Is w F x cs
instance shows_known {α : Type} [Rep α] {a w : World} {F : List Nat} {x : α} {cs : List Value} [k : Known a F x cs] [f : Fr0 a w] : Shows w F x cs := ⟨Rep.fr0 k.is f.fr⟩
theorem Shows.known {α : Type} [Rep α] {w : World} {F : List Nat} {x : α} {cs : List Value} (h : Shows w F x cs) : Known w F x cs := ⟨h.is⟩

/-- A region that draws: the invariant is that nothing old is written. -/
theorem rg_begin0 {P : Program} {ops : Array Oper} {Q : Exit → Act → World → Prop} {a : Act} {w : World} {n id : Nat} (hm : P.follows .mixedOrders = true) (hn : ops.size = n)
    (h : Step w w.drew → wpAnyH P .any ops (NoPanic Q) (fun w' => Step w w') n (Array.replicate n false) a w.drew) : (Code.region id ops true).wp P Q a w :=
  rg_begin _ hm hn (h ⟨(Fr.refl _ _).drew⟩)

theorem ret_bool {a b : Bool} (h : a = true ↔ b = true) : Ending.returned (.bool a) = .returned (.bool b) := by rw [Bool.eq_iff_iff.2 h]
theorem ret_int {k : IntKind} {a b : Int} (h : a = b) : Ending.returned (.int k a) = .returned (.int k b) := by rw [h]
theorem ret_str {a b : ByteArray} (h : a = b) : Ending.returned (.string a) = .returned (.string b) := by rw [h]

theorem str_yes {x y : ByteArray} (h : x = y) : (x.toList == y.toList) = true := by simp [h]
theorem str_no {x y : ByteArray} (h : ¬ x = y) : (x.toList == y.toList) = false := by
  rw [beq_eq_false_iff_ne, ByteArray.toList_eq, ByteArray.toList_eq]
  intro e
  exact h (ByteArray.ext (Array.toList_inj.1 e))
theorem strne_no {x y : ByteArray} (h : x = y) : (x.toList != y.toList) = false := by simp [h]
theorem strne_yes {x y : ByteArray} (h : ¬ x = y) : (x.toList != y.toList) = true := by rw [bne, str_no h]; rfl

def memS (l : List ByteArray) (s : ByteArray) : Bool := l.any fun x => decide (x = s)
theorem memS_iff (l : List ByteArray) (s : ByteArray) : memS l s = true ↔ s ∈ l := by simp [memS]
theorem mem_yes {l : List ByteArray} {s : ByteArray} {k : Nat} (hk : k < l.length) (e : l[k] = s) : memS l s = true := by
  rw [memS_iff, ← e]; exact List.getElem_mem hk
theorem mem_no {l : List ByteArray} {s : ByteArray} {k : Nat} (hk : l.length ≤ k) (h : ∀ j : Nat, j < k → l[j]? ≠ some s) : memS l s = false := by
  rw [Bool.eq_false_iff, ne_eq, memS_iff, List.mem_iff_getElem?]
  rintro ⟨j, hj⟩
  exact h j (by have := (List.getElem?_eq_some_iff.1 hj).1; omega) hj
theorem str_full {s : ByteArray} (h : 0 < s.size) : ¬ s.toList = [] ∧ s.toList.isEmpty = false := by
  have e : s.toList ≠ [] := by
    rw [ByteArray.toList_eq]
    intro e
    have := bsz s
    rw [e] at this
    simp at this
    omega
  exact ⟨e, by simpa using e⟩
theorem str_void {s : ByteArray} (h : ¬ 0 < s.size) : s.toList = [] := by
  rw [ByteArray.toList_eq]
  exact List.eq_nil_of_length_eq_zero (by rw [bsz]; omega)
theorem upto_none {α : Type} {l : List α} {s : α} {k : Nat} (hk : k < l.length) (he : ¬ l[k] = s) (h : ∀ j : Nat, j < k → l[j]? ≠ some s) : ∀ j : Nat, j < k + 1 → l[j]? ≠ some s := by
  intro j hj
  rcases Nat.lt_or_ge j k with h1 | h1
  · exact h j h1
  · obtain rfl : j = k := by omega
    rw [List.getElem?_eq_getElem hk]
    exact fun e => he (Option.some.inj e)

/-- What is left of a size: none, where it does not suffice. -/
def left0 (left : Int) (c : Nat) : Int := if left - c < 0 then -1 else left - c
theorem left0_neg {left : Int} {c : Nat} (h : left - c < 0) : left0 left c = -1 := by unfold left0; rw [if_pos h]
theorem left0_pos {left : Int} {c : Nat} (h : ¬ left - c < 0) : left0 left c = left - c := by unfold left0; rw [if_neg h]

theorem isOf {α : Type} [Rep α] {w : World} {F : List Nat} {x : α} {cs : List Value} [h : Shows w F x cs] : Is w F x cs := h.is

/-- Footprint F is new since the world W. -/
class NewF (W : outParam World) (F : List Nat) : Prop where
  is : New W.heap.size F
/-- Block b is none of F. -/
class NotIn (b : Nat) (F : List Nat) : Prop where
  ne : b ∉ F
instance notin_nil (b : Nat) : NotIn b [] := ⟨by simp⟩
instance notin_new {W : World} {b : Nat} {F : List Nat} [n : NewF W F] [o : Old b W] : NotIn b F := ⟨fun h => by have := n.is.2 b h; have := o.lt; omega⟩
instance notin_app {b : Nat} {F G : List Nat} [n : NotIn b F] [m : NotIn b G] : NotIn b (F ++ G) := ⟨fun h => by rcases List.mem_append.1 h with h | h; exact n.ne h; exact m.ne h⟩
theorem newf_nil (W : World) : NewF W [] := ⟨New.nil _⟩
instance (priority := 50) shows_alloc {α : Type} [Rep α] {w : World} {o : Obj} {F : List Nat} {x : α} {cs : List Value} [h : Shows w F x cs] : Shows (w.alloc o) F x cs := ⟨Rep.fr0 h.is ((Fr.refl _ _).alloc _)⟩
instance (priority := 50) shows_set {α : Type} [Rep α] {w : World} {b o : Nat} {v : Value} {F : List Nat} {x : α} {cs : List Value} [h : Shows w F x cs] [n : NotIn b F] : Shows (w.setCell ⟨b, o, none⟩ v) F x cs :=
  ⟨Rep.fr h.is ((Fr.refl [b] w).setCell (p := ⟨b, o, none⟩) (.inl (by simp)) v) (fun c hc hm => by simp at hm; subst hm; exact n.ne hc)⟩
instance (priority := 50) shows_drew {α : Type} [Rep α] {w : World} {F : List Nat} {x : α} {cs : List Value} [h : Shows w F x cs] : Shows w.drew F x cs := ⟨Rep.fr0 h.is (Fr.refl _ _).drew⟩
instance (priority := 40) shows_step {α : Type} [Rep α] {m w : World} {F : List Nat} {x : α} {cs : List Value} [s : Step m w] [h : Shows m F x cs] : Shows w F x cs := ⟨Rep.fr0 h.is s.fr⟩

/-- No block is lost. -/
class Grew (a w : World) : Prop where
  le : a.heap.size ≤ w.heap.size
instance grew_refl (a : World) : Grew a a := ⟨Nat.le_refl _⟩
instance grew_alloc {a w : World} {o : Obj} [h : Grew a w] : Grew a (w.alloc o) := ⟨by have := h.le; simp; omega⟩
instance grew_set {a w : World} {p : Addr} {v : Value} [h : Grew a w] : Grew a (w.setCell p v) := ⟨by have := h.le; simpa [World.setCell] using this⟩
instance grew_drew {a w : World} [h : Grew a w] : Grew a w.drew := ⟨h.le⟩
instance grew_step {a m w : World} [s : Step m w] [h : Grew a m] : Grew a w := ⟨Nat.le_trans h.le s.fr.size⟩

/-- New since a, and all in w. -/
def NewLt (a w : World) (F : List Nat) : Prop := New a.heap.size F ∧ ∀ b ∈ F, b < w.heap.size
theorem NewLt.nil (a w : World) : NewLt a w [] := ⟨New.nil _, by simp⟩
theorem NewLt.one {α : Type} [Rep α] {a W w : World} {G : List Nat} {x : α} {cs : List Value} [f : Grew a W] (h : NewF W G) (k : Known w G x cs) : NewLt a w G := ⟨h.is.mono f.le, Rep.lt k.is⟩
theorem NewLt.add {α : Type} [Rep α] {a v W w : World} {F G : List Nat} {x : α} {cs : List Value} [f : Grew a W] [g : Grew v W] [f2 : Grew W w] (h : NewLt a v F) (h2 : NewF W G) (k : Known w G x cs) : NewLt a w (F ++ G) := by
  have z := g.le
  have z2 := f2.le
  refine ⟨h.1.append h2.is (fun b hb => by have := h.2 b hb; omega) f.le, fun b hb => ?_⟩
  rcases List.mem_append.1 hb with h1 | h1
  · have := h.2 b h1; omega
  · exact Rep.lt k.is b h1

/-! ### Rows of texts -/

def strVs (l : List ByteArray) : List Value := l.map fun s => .string s
theorem strVs_length (l : List ByteArray) : (strVs l).length = l.length := by simp [strVs]

theorem row_strs {w : World} : ∀ {l : List ByteArray} {F : List Nat} {cs : List Value}, Row w F l cs ↔ F = [] ∧ cs = strVs l ∧ ∀ s ∈ l, OkS s
  | [], F, cs => by simp [Row, strVs]
  | n :: l, F, cs => by
    constructor
    · rintro ⟨F1, F2, c1, c2, rfl, rfl, ⟨rfl, rfl, h1⟩, h2⟩
      obtain ⟨rfl, rfl, h3⟩ := row_strs.1 h2
      refine ⟨rfl, rfl, ?_⟩
      intro m hm
      rcases List.mem_cons.1 hm with rfl | hm
      · exact h1
      · exact h3 m hm
    · rintro ⟨rfl, rfl, h⟩
      exact ⟨[], [], [.string n], strVs l, rfl, rfl, ⟨rfl, rfl, h n (List.mem_cons_self)⟩, row_strs.2 ⟨rfl, rfl, fun m hm => h m (List.mem_cons_of_mem _ hm)⟩⟩

theorem strs_open {w : World} {F : List Nat} {l : List ByteArray} {cs : List Value} (h : Is w F l cs) :
    ∃ a cap, cs = [.slice a l.length cap] ∧ F = (if l = [] then [] else blk a) ∧ View w a 1 l.length (strVs l) ∧ (l.length ≤ cap ∧ cap ≤ maxLen) ∧ ∀ s ∈ l, OkS s := by
  obtain ⟨a, cap, cl, F', rfl, rfl, hv, hr, _, hm⟩ := h
  obtain ⟨rfl, rfl, h1⟩ := row_strs.1 hr
  exact ⟨a, cap, rfl, by simp, hv, hm, h1⟩

theorem strs_shut {w : World} {l : List ByteArray} {a : Option Addr} {cap : Nat} (hv : View w a 1 l.length (strVs l)) (hm : l.length ≤ cap ∧ cap ≤ maxLen) (h1 : ∀ s ∈ l, OkS s) : Is w (if l = [] then [] else blk a) l [.slice a l.length cap] :=
  ⟨a, cap, strVs l, [], rfl, by simp, hv, row_strs.2 ⟨rfl, rfl, h1⟩, Nat.one_pos, hm⟩

/-- A cell of a view of one-cell elements. -/
theorem View.get {w : World} {a : Option Addr} {n : Nat} {xs : List Value} (h : View w a 1 n xs) (k : Nat) (hk : k < n) (v : Value) (hv : xs[k]? = some v) :
    ∃ b o, a = some ⟨b, o, none⟩ ∧ w.cell? ⟨b, o + k, none⟩ = some v ∧ w.frozen? ⟨b, o + k, none⟩ = false ∧ Old b w := by
  obtain ⟨b, o, rfl, hc⟩ := h.cells (by omega)
  exact ⟨b, o, rfl, (hc k v hv).1, (hc k v hv).2, ⟨block_lt_of_cell (hc k v hv).1⟩⟩
end Go.Proofs.YtbijeibcchbcpaaDoor
