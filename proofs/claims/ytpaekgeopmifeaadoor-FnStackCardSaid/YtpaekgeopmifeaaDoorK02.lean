/- Frames, blocks and data that are found by class search: what a walk needs at each call is then looked up, not typed. Small laws of this work's own, over any program. Contracts: the laws' own helpers for rows of numbers. Contracts: the laws' own helpers for rows of numbers, bytes and texts, by class search. Contract: within. Contracts: numbers in pieces, read; both sides. Steps that write some blocks of old: by class search. -/
import Derived.Test.YtpaekgeopmifeaaDoorK01
import Derived.ProofKit
import Derived.Test.YtpaekgeopmifeaaDoorK00
import Derived.Laws.Bits128
namespace Go.Proofs.YtpaekgeopmifeaaDoor
open Go.RowKit
open Rep (Is sz)

/-- The number of a world's blocks. -/
class SizeIs (n : outParam Nat) (w : World) : Prop where
  eq : w.heap.size = n
instance (priority := low) size_self (w : World) : SizeIs w.heap.size w := ⟨rfl⟩
instance size_alloc {n : Nat} {w : World} {o : Obj} [h : SizeIs n w] : SizeIs (n + 1) (w.alloc o) := ⟨by simp [h.eq]⟩
instance size_set {n : Nat} {w : World} {p : Addr} {v : Value} [h : SizeIs n w] : SizeIs n (w.setCell p v) := ⟨by simp [World.setCell, h.eq]⟩
instance size_drew {n : Nat} {w : World} [h : SizeIs n w] : SizeIs n w.drew := ⟨h.eq⟩

/-- w comes of a, and all that a had is as it was. One such fact a world: the last step to it. -/
class Step (a : outParam World) (w : World) : Prop where
  fr : Fr [] a w

/-- Every block of a is in b as it was in a. -/
class Fr0 (a b : World) : Prop where
  fr : Fr [] a b

/-- Block n is none of a's. -/
class NewB (a : World) (n : Nat) : Prop where
  le : a.heap.size ≤ n
instance fr0_refl (a : World) : Fr0 a a := ⟨Fr.refl _ _⟩
instance fr0_drew {a w : World} [h : Fr0 a w] : Fr0 a w.drew := ⟨h.fr.drew⟩
instance fr0_alloc {a w : World} {o : Obj} [h : Fr0 a w] : Fr0 a (w.alloc o) := ⟨h.fr.alloc _⟩
instance fr0_step {a m w : World} [s : Step m w] [h : Fr0 a m] : Fr0 a w := ⟨h.fr.trans0 s.fr⟩
instance newb_size {a w : World} [h : Fr0 a w] : NewB a w.heap.size := ⟨h.fr.size⟩
instance newb_succ {a : World} {n : Nat} [h : NewB a n] : NewB a (n + 1) := ⟨Nat.le_succ_of_le h.le⟩
instance fr0_set {a w : World} {b o : Nat} {v : Value} [h : Fr0 a w] [n : NewB a b] : Fr0 a (w.setCell ⟨b, o, none⟩ v) := ⟨h.fr.setCell (.inr n.le) _⟩
theorem mkStep {a b : World} [h : Fr0 a b] : Step a b := ⟨h.fr⟩
theorem mkFr {a b : World} [h : Fr0 a b] : Fr [] a b := h.fr

/-- Block b is one of w's. -/
class Old (b : Nat) (w : World) : Prop where
  lt : b < w.heap.size
instance old_new {n : Nat} {w : World} {o : Obj} [h : SizeIs n w] : Old n (w.alloc o) := ⟨by simp [h.eq]⟩
instance old_alloc {b : Nat} {w : World} {o : Obj} [h : Old b w] : Old b (w.alloc o) := ⟨by have := h.lt; simp; omega⟩
instance old_set {b : Nat} {w : World} {p : Addr} {v : Value} [h : Old b w] : Old b (w.setCell p v) := ⟨by simpa [World.setCell] using h.lt⟩
instance old_drew {b : Nat} {w : World} [h : Old b w] : Old b w.drew := ⟨h.lt⟩
instance old_step {b : Nat} {a w : World} [s : Step a w] [h : Old b a] : Old b w := ⟨Nat.lt_of_lt_of_le h.lt s.fr.size⟩

/-- The looks under names of their own: else simp takes the two rules below for a mere turning round. -/
def cellAt (w : World) (b o : Nat) : Option Value := w.cell? ⟨b, o, none⟩
def frozenAt (w : World) (b o : Nat) : Bool := w.frozen? ⟨b, o, none⟩
@[go_sem] theorem cellAt_eq (w : World) (b o : Nat) : cellAt w b o = w.cell? ⟨b, o, none⟩ := rfl
@[go_sem] theorem frozenAt_eq (w : World) (b o : Nat) : frozenAt w b o = w.frozen? ⟨b, o, none⟩ := rfl
@[go_sem] theorem cell_step {a w : World} {b o : Nat} [s : Step a w] [h : Old b a] : w.cell? ⟨b, o, none⟩ = cellAt a b o := s.fr.cell (p := ⟨b, o, none⟩) h.lt (by simp)
@[go_sem] theorem frozen_step {a w : World} {b o : Nat} [s : Step a w] [h : Old b a] : w.frozen? ⟨b, o, none⟩ = frozenAt a b o := s.fr.frozen (p := ⟨b, o, none⟩) h.lt (by simp)
@[go_sem] theorem cell_alloc_old {w : World} {ob : Obj} {b o : Nat} [h : Old b w] : (w.alloc ob).cell? ⟨b, o, none⟩ = w.cell? ⟨b, o, none⟩ := World.cell?_alloc_past ob b o h.lt
@[go_sem] theorem frozen_alloc_old {w : World} {ob : Obj} {b o : Nat} [h : Old b w] : (w.alloc ob).frozen? ⟨b, o, none⟩ = w.frozen? ⟨b, o, none⟩ := World.frozen?_alloc_past ob b o h.lt
@[go_sem] theorem set_alloc_old {w : World} {ob : Obj} {b o : Nat} {v : Value} [h : Old b w] : (w.alloc ob).setCell ⟨b, o, none⟩ v = (w.setCell ⟨b, o, none⟩ v).alloc ob := World.setCell_alloc_past ob b o v h.lt

/-- The world's name: what it had stays to be looked up. -/
theorem wp_name {P : Program} {c : Code} {Q : Exit → Act → World → Prop} {a : Act} {w : World} (h : ∀ A, Step w A → c.wp P Q a A) : c.wp P Q a w := h w ⟨Fr.refl _ _⟩

/-- Known of the cells cs: at the world a they show x. -/
class Known {α : outParam Type} [Rep α] (a : outParam World) (F : outParam (List Nat)) (x : outParam α) (cs : List Value) : Prop where
  is : Is a F x cs
class Shows {α : outParam Type} [Rep α] (w : World) (F : outParam (List Nat)) (x : outParam α) (cs : List Value) : Prop where
  is : Is w F x cs
instance shows_known {α : Type} [Rep α] {a w : World} {F : List Nat} {x : α} {cs : List Value} [k : Known a F x cs] [f : Fr0 a w] : Shows w F x cs := ⟨Rep.fr0 k.is f.fr⟩
theorem Shows.known {α : Type} [Rep α] {w : World} {F : List Nat} {x : α} {cs : List Value} (h : Shows w F x cs) : Known w F x cs := ⟨h.is⟩

/-- A region that draws: the invariant is that nothing old is written. -/
theorem rg_begin0 {P : Program} {ops : Array Oper} {Q : Exit → Act → World → Prop} {a : Act} {w : World} {n id : Nat} (hm : P.follows .mixedOrders = true) (hn : ops.size = n)
    (h : Step w w.drew → wpAnyH P .any ops (NoPanic Q) (fun w' => Step w w') n (Array.replicate n false) a w.drew) : (Code.region id ops true).wp P Q a w :=
  rg_begin _ hm hn (h ⟨(Fr.refl _ _).drew⟩)

theorem ret_bool {a b : Bool} (h : a = true ↔ b = true) : Ending.returned (.bool a) = .returned (.bool b) := by rw [Bool.eq_iff_iff.2 h]
theorem ret_int {k : IntKind} {a b : Int} (h : a = b) : Ending.returned (.int k a) = .returned (.int k b) := by rw [h]
theorem ret_str {a b : ByteArray} (h : a = b) : Ending.returned (.string a) = .returned (.string b) := by rw [h]

theorem str_yes {x y : ByteArray} (h : x = y) : (x.toList == y.toList) = true := by simp [h]
theorem str_no {x y : ByteArray} (h : ¬ x = y) : (x.toList == y.toList) = false := by
  rw [beq_eq_false_iff_ne, ByteArray.toList_eq, ByteArray.toList_eq]
  intro e
  exact h (ByteArray.ext (Array.toList_inj.1 e))
theorem strne_no {x y : ByteArray} (h : x = y) : (x.toList != y.toList) = false := by simp [h]
theorem strne_yes {x y : ByteArray} (h : ¬ x = y) : (x.toList != y.toList) = true := by rw [bne, str_no h]; rfl

def memS (l : List ByteArray) (s : ByteArray) : Bool := l.any fun x => decide (x = s)
theorem memS_iff (l : List ByteArray) (s : ByteArray) : memS l s = true ↔ s ∈ l := by simp [memS]
theorem mem_yes {l : List ByteArray} {s : ByteArray} {k : Nat} (hk : k < l.length) (e : l[k] = s) : memS l s = true := by
  rw [memS_iff, ← e]; exact List.getElem_mem hk
theorem mem_no {l : List ByteArray} {s : ByteArray} {k : Nat} (hk : l.length ≤ k) (h : ∀ j : Nat, j < k → l[j]? ≠ some s) : memS l s = false := by
  rw [Bool.eq_false_iff, ne_eq, memS_iff, List.mem_iff_getElem?]
  rintro ⟨j, hj⟩
  exact h j (by have := (List.getElem?_eq_some_iff.1 hj).1; omega) hj
theorem str_full {s : ByteArray} (h : 0 < s.size) : ¬ s.toList = [] ∧ s.toList.isEmpty = false := by
  have e : s.toList ≠ [] := by
    rw [ByteArray.toList_eq]
    intro e
    have := bsz s
    rw [e] at this
    simp at this
    omega
  exact ⟨e, by simpa using e⟩
theorem str_void {s : ByteArray} (h : ¬ 0 < s.size) : s.toList = [] := by
  rw [ByteArray.toList_eq]
  exact List.eq_nil_of_length_eq_zero (by rw [bsz]; omega)
theorem upto_none {α : Type} {l : List α} {s : α} {k : Nat} (hk : k < l.length) (he : ¬ l[k] = s) (h : ∀ j : Nat, j < k → l[j]? ≠ some s) : ∀ j : Nat, j < k + 1 → l[j]? ≠ some s := by
  intro j hj
  rcases Nat.lt_or_ge j k with h1 | h1
  · exact h j h1
  · obtain rfl : j = k := by omega
    rw [List.getElem?_eq_getElem hk]
    exact fun e => he (Option.some.inj e)

/-- What is left of a size: none, where it does not suffice. -/
def left0 (left : Int) (c : Nat) : Int := if left - c < 0 then -1 else left - c
theorem left0_neg {left : Int} {c : Nat} (h : left - c < 0) : left0 left c = -1 := by unfold left0; rw [if_pos h]
theorem left0_pos {left : Int} {c : Nat} (h : ¬ left - c < 0) : left0 left c = left - c := by unfold left0; rw [if_neg h]

theorem isOf {α : Type} [Rep α] {w : World} {F : List Nat} {x : α} {cs : List Value} [h : Shows w F x cs] : Is w F x cs := h.is

/-- Footprint F is new since the world W. -/
class NewF (W : outParam World) (F : List Nat) : Prop where
  is : New W.heap.size F
/-- Block b is none of F. -/
class NotIn (b : Nat) (F : List Nat) : Prop where
  ne : b ∉ F
instance notin_nil (b : Nat) : NotIn b [] := ⟨by simp⟩
instance notin_new {W : World} {b : Nat} {F : List Nat} [n : NewF W F] [o : Old b W] : NotIn b F := ⟨fun h => by have := n.is.2 b h; have := o.lt; omega⟩
instance notin_app {b : Nat} {F G : List Nat} [n : NotIn b F] [m : NotIn b G] : NotIn b (F ++ G) := ⟨fun h => by rcases List.mem_append.1 h with h | h; exact n.ne h; exact m.ne h⟩
theorem newf_nil (W : World) : NewF W [] := ⟨New.nil _⟩
instance (priority := 50) shows_alloc {α : Type} [Rep α] {w : World} {o : Obj} {F : List Nat} {x : α} {cs : List Value} [h : Shows w F x cs] : Shows (w.alloc o) F x cs := ⟨Rep.fr0 h.is ((Fr.refl _ _).alloc _)⟩
instance (priority := 50) shows_set {α : Type} [Rep α] {w : World} {b o : Nat} {v : Value} {F : List Nat} {x : α} {cs : List Value} [h : Shows w F x cs] [n : NotIn b F] : Shows (w.setCell ⟨b, o, none⟩ v) F x cs :=
  ⟨Rep.fr h.is ((Fr.refl [b] w).setCell (p := ⟨b, o, none⟩) (.inl (by simp)) v) (fun c hc hm => by simp at hm; subst hm; exact n.ne hc)⟩
instance (priority := 50) shows_drew {α : Type} [Rep α] {w : World} {F : List Nat} {x : α} {cs : List Value} [h : Shows w F x cs] : Shows w.drew F x cs := ⟨Rep.fr0 h.is (Fr.refl _ _).drew⟩
instance (priority := 40) shows_step {α : Type} [Rep α] {m w : World} {F : List Nat} {x : α} {cs : List Value} [s : Step m w] [h : Shows m F x cs] : Shows w F x cs := ⟨Rep.fr0 h.is s.fr⟩

/-- No block is lost. -/
class Grew (a w : World) : Prop where
  le : a.heap.size ≤ w.heap.size
instance grew_refl (a : World) : Grew a a := ⟨Nat.le_refl _⟩
instance grew_alloc {a w : World} {o : Obj} [h : Grew a w] : Grew a (w.alloc o) := ⟨by have := h.le; simp; omega⟩
instance grew_set {a w : World} {p : Addr} {v : Value} [h : Grew a w] : Grew a (w.setCell p v) := ⟨by have := h.le; simpa [World.setCell] using this⟩
instance grew_drew {a w : World} [h : Grew a w] : Grew a w.drew := ⟨h.le⟩
instance grew_step {a m w : World} [s : Step m w] [h : Grew a m] : Grew a w := ⟨Nat.le_trans h.le s.fr.size⟩

/-- New since a, and all in w. -/
def NewLt (a w : World) (F : List Nat) : Prop := New a.heap.size F ∧ ∀ b ∈ F, b < w.heap.size
theorem NewLt.nil (a w : World) : NewLt a w [] := ⟨New.nil _, by simp⟩
theorem NewLt.one {α : Type} [Rep α] {a W w : World} {G : List Nat} {x : α} {cs : List Value} [f : Grew a W] (h : NewF W G) (k : Known w G x cs) : NewLt a w G := ⟨h.is.mono f.le, Rep.lt k.is⟩
theorem NewLt.add {α : Type} [Rep α] {a v W w : World} {F G : List Nat} {x : α} {cs : List Value} [f : Grew a W] [g : Grew v W] [f2 : Grew W w] (h : NewLt a v F) (h2 : NewF W G) (k : Known w G x cs) : NewLt a w (F ++ G) := by
  have z := g.le
  have z2 := f2.le
  refine ⟨h.1.append h2.is (fun b hb => by have := h.2 b hb; omega) f.le, fun b hb => ?_⟩
  rcases List.mem_append.1 hb with h1 | h1
  · have := h.2 b h1; omega
  · exact Rep.lt k.is b h1

/-! ### Rows of texts -/

def strVs (l : List ByteArray) : List Value := l.map fun s => .string s
theorem strVs_length (l : List ByteArray) : (strVs l).length = l.length := by simp [strVs]

theorem row_strs {w : World} : ∀ {l : List ByteArray} {F : List Nat} {cs : List Value}, Row w F l cs ↔ F = [] ∧ cs = strVs l ∧ ∀ s ∈ l, OkS s
  | [], F, cs => by simp [Row, strVs]
  | n :: l, F, cs => by
    constructor
    · rintro ⟨F1, F2, c1, c2, rfl, rfl, ⟨rfl, rfl, h1⟩, h2⟩
      obtain ⟨rfl, rfl, h3⟩ := row_strs.1 h2
      refine ⟨rfl, rfl, ?_⟩
      intro m hm
      rcases List.mem_cons.1 hm with rfl | hm
      · exact h1
      · exact h3 m hm
    · rintro ⟨rfl, rfl, h⟩
      exact ⟨[], [], [.string n], strVs l, rfl, rfl, ⟨rfl, rfl, h n (List.mem_cons_self)⟩, row_strs.2 ⟨rfl, rfl, fun m hm => h m (List.mem_cons_of_mem _ hm)⟩⟩

theorem strs_open {w : World} {F : List Nat} {l : List ByteArray} {cs : List Value} (h : Is w F l cs) :
    ∃ a cap, cs = [.slice a l.length cap] ∧ F = (if l = [] then [] else blk a) ∧ View w a 1 l.length (strVs l) ∧ (l.length ≤ cap ∧ cap ≤ maxLen) ∧ ∀ s ∈ l, OkS s := by
  obtain ⟨a, cap, cl, F', rfl, rfl, hv, hr, _, hm⟩ := h
  obtain ⟨rfl, rfl, h1⟩ := row_strs.1 hr
  exact ⟨a, cap, rfl, by simp, hv, hm, h1⟩

theorem strs_shut {w : World} {l : List ByteArray} {a : Option Addr} {cap : Nat} (hv : View w a 1 l.length (strVs l)) (hm : l.length ≤ cap ∧ cap ≤ maxLen) (h1 : ∀ s ∈ l, OkS s) : Is w (if l = [] then [] else blk a) l [.slice a l.length cap] :=
  ⟨a, cap, strVs l, [], rfl, by simp, hv, row_strs.2 ⟨rfl, rfl, h1⟩, Nat.one_pos, hm⟩

/-- A cell of a view of one-cell elements. -/
theorem View.get {w : World} {a : Option Addr} {n : Nat} {xs : List Value} (h : View w a 1 n xs) (k : Nat) (hk : k < n) (v : Value) (hv : xs[k]? = some v) :
    ∃ b o, a = some ⟨b, o, none⟩ ∧ w.cell? ⟨b, o + k, none⟩ = some v ∧ w.frozen? ⟨b, o + k, none⟩ = false ∧ Old b w := by
  obtain ⟨b, o, rfl, hc⟩ := h.cells (by omega)
  exact ⟨b, o, rfl, (hc k v hv).1, (hc k v hv).2, ⟨block_lt_of_cell (hc k v hv).1⟩⟩
end Go.Proofs.YtpaekgeopmifeaaDoor
namespace Go.Proofs.YtpaekgeopmifeaaDoor
attribute [local go_sem ↓] Go.wp_at_zero Go.wp_at_succ
open Go.RowKit
open Rep (Is sz)

theorem upto_step {α : Type} {l m : List α} {k : Nat} (h : ∀ j : Nat, j < k → l[j]? = m[j]?) (hl : k < l.length) (hm : k < m.length) (he : l[k] = m[k]) : ∀ j : Nat, j < k + 1 → l[j]? = m[j]? := by
  intro j hj
  rcases Nat.lt_or_ge j k with h1 | h1
  · exact h j h1
  · obtain rfl : j = k := by omega
    rw [List.getElem?_eq_getElem hl, List.getElem?_eq_getElem hm, he]

theorem upto_ne {α : Type} [DecidableEq α] {l m : List α} {k : Nat} (hl : k < l.length) (hm : k < m.length) (he : l[k] ≠ m[k]) : decide (l = m) = false := by
  rw [decide_eq_false_iff_not]
  rintro rfl
  exact he rfl

theorem upto_all {α : Type} [DecidableEq α] {l m : List α} {k : Nat} (hl : l.length = m.length) (hk : l.length ≤ k) (h : ∀ j : Nat, j < k → l[j]? = m[j]?) : decide (l = m) = true := by
  rw [decide_eq_true_iff]
  apply List.ext_getElem?
  intro j
  rcases Nat.lt_or_ge j k with h1 | h1
  · exact h j h1
  · rw [List.getElem?_eq_none (by omega), List.getElem?_eq_none (by omega)]

theorem Tryd.ints_tab : Tryd.prog.underlying 33 = some (.slice 3) ∧ (Tryd.prog.info? 3).map (fun i => (i.zero, i.size, i.bytes)) = some (some (.int .i64 0), 1, 8) ∧ (Value.int .i64 0).cells.size = 1 ∧ 0 < 1 ∧ 0 < 8 :=
  ⟨by kernel_rfl, by kernel_rfl, rfl, by decide, by decide⟩

theorem made_ints (w : World) (n : Nat) (hn : n ≤ 1099511627776) : ∃ w', (Instr.makeSlice 33 (.int .i64 (n : Int)) (.int .i64 (n : Int))).run Tryd.prog w = .ok (.slice (some ⟨w.heap.size, 0, none⟩) n n) w' ∧
    w'.ownsRow w.heap.size 3 1 (.slice (some ⟨w.heap.size, 0, none⟩) n n) n (intVs (List.replicate n 0)) ∧ Fr [] w w' := by
  obtain ⟨ht, hi, hzs, hsz, hb0⟩ := Tryd.ints_tab
  obtain ⟨i, hi, hz0, hz1, hz2⟩ := info_parts hi
  obtain ⟨w', hr, ho, hg⟩ := run_make_full (P := Tryd.prog) w w.heap.size _ _ i _ 1 ht hi hz0 hz1 .i64 .i64 n (by rw [hz2]; omega) (by unfold maxLen; omega) (Nat.le_refl _)
  refine ⟨w', hr, ?_, (Fr.grown hg)⟩
  have e : (madeCells (Value.int .i64 0).cells (n * 1)).toList = intVs (List.replicate n 0) := by
    rw [Nat.mul_one]
    rw [show (Value.int .i64 0).cells = #[.int .i64 0] from rfl, toList_madeCells_one]
    simp [intVs]
  rw [← e]
  exact ho

theorem wrap64_in {n : Int} (h : In64 n) : wrap64 n = n := by
  unfold In64 at h
  unfold wrap64
  omega

theorem intVs_fill (l : List Int) (k : Nat) (h : k < l.length) : intVs (l.take (k + 1) ++ List.replicate (l.length - (k + 1)) 0) = (intVs (l.take k ++ List.replicate (l.length - k) 0)).set k (.int .i64 l[k]) := by
  unfold intVs
  rw [← List.map_set]
  congr 1
  apply List.ext_getElem?
  intro j
  rcases Nat.lt_trichotomy j k with h1 | rfl | h1
  · rw [List.getElem?_set_ne (by omega), List.getElem?_append_left (by simp; omega), List.getElem?_append_left (by simp; omega), List.getElem?_take_of_lt (by omega), List.getElem?_take_of_lt h1]
  · rw [List.getElem?_set_self (by simp; omega), List.getElem?_append_left (by simp; omega), List.getElem?_take_of_lt (by omega), List.getElem?_eq_getElem h]
  · rw [List.getElem?_set_ne (by omega), List.getElem?_append_right (by simp; omega), List.getElem?_append_right (by simp; omega)]
    simp only [List.length_take, List.getElem?_replicate]
    congr 1
    simp only [eq_iff_iff]
    omega

/-- The numbers that markIntS writes. -/
def marks (k : Int) (n : Nat) : List Int := (List.range n).map fun (j : Nat) => k + j
theorem marks_length (k : Int) (n : Nat) : (marks k n).length = n := by simp [marks]
theorem marks_at (k : Int) (n j : Nat) (h : j < n) : (marks k n)[j]? = some (k + j) := by
  simp [marks, List.getElem?_map, List.getElem?_range h]

theorem marks_fill (k : Int) (l : List Int) (j : Nat) (h : j < l.length) : intVs (marks k (j + 1) ++ l.drop (j + 1)) = (intVs (marks k j ++ l.drop j)).set j (.int .i64 (k + j)) := by
  unfold intVs
  rw [← List.map_set, List.set_append_right _ _ (by rw [marks_length]; omega), marks_length, Nat.sub_self, List.drop_eq_getElem_cons h, List.set_cons_zero]
  congr 1
  simp [marks, List.range_succ]

end Go.Proofs.YtpaekgeopmifeaaDoor
namespace Go.Proofs.YtpaekgeopmifeaaDoor
attribute [local go_sem ↓] Go.wp_at_zero Go.wp_at_succ
open Go.RowKit Go.ChangeShapes Go.WideShapes
open Rep (Is sz)

theorem list_open {α : Type} [Rep α] {w : World} {F : List Nat} {l : List α} {cs : List Value} (h : Is w F l cs) :
    ∃ a cap cl F', cs = [.slice a l.length cap] ∧ F = (if l = [] then [] else blk a) ++ F' ∧ View w a (sz α) l.length cl ∧ Row w F' l cl ∧ l.length ≤ cap ∧ cap ≤ maxLen := by
  obtain ⟨a, cap, cl, F', rfl, rfl, hv, hr, _, h1, h2⟩ := h
  exact ⟨a, cap, cl, F', rfl, rfl, hv, hr, h1, h2⟩

/-- An element of a view. -/
theorem View.row {α : Type} [Rep α] {w : World} {a : Option Addr} {n : Nat} {cl : List Value} {F : List Nat} {l : List α} (hv : View w a (sz α) n cl) (hr : Row w F l cl) (hn : l.length = n) (h0 : 0 < sz α) (k : Nat) (hk : k < l.length) :
    ∃ b o G cs, a = some ⟨b, o, none⟩ ∧ (∀ x ∈ G, x ∈ F) ∧ Is w G l[k] cs ∧ (∀ j u, cs[j]? = some u → w.cell? ⟨b, o + k * sz α + j, none⟩ = some u ∧ w.frozen? ⟨b, o + k * sz α + j, none⟩ = false) ∧ Old b w := by
  obtain ⟨b, o, rfl, hc⟩ := hv.cells (by omega)
  obtain ⟨G, hG, hI⟩ := hr.at k hk
  have hx : ∀ j u, ((cl.drop (k * sz α)).take (sz α))[j]? = some u → cl[k * sz α + j]? = some u := by
    intro j u hj
    have hl := (List.getElem?_eq_some_iff.1 hj).1
    rw [List.length_take] at hl
    rw [List.getElem?_take_of_lt (by omega), List.getElem?_drop] at hj
    exact hj
  refine ⟨b, o, G, _, rfl, hG, hI, fun j u hj => ?_, ?_⟩
  · have := hc _ u (hx j u hj)
    rwa [show o + (k * sz α + j) = o + k * sz α + j by omega] at this
  · have hlen := Rep.len hI
    have h1 := hx 0 _ (List.getElem?_eq_getElem (by rw [hlen]; exact h0))
    exact ⟨block_lt_of_cell (hc _ _ h1).1⟩

def strsCost (l : List ByteArray) : Nat := l.length + (l.map ByteArray.size).sum
theorem sum_take {α : Type} (f : α → Nat) (l : List α) (k : Nat) (h : k < l.length) : ((l.take (k + 1)).map f).sum = ((l.take k).map f).sum + f l[k] := by
  rw [List.take_succ_eq_append_getElem h, List.map_append, List.sum_append]; simp
theorem sum_take_le {α : Type} (f : α → Nat) (l : List α) (k : Nat) : ((l.take k).map f).sum ≤ (l.map f).sum := by
  conv => rhs; rw [← List.take_append_drop k l, List.map_append, List.sum_append]
  omega
theorem sum_full {α : Type} (f : α → Nat) (l : List α) : ((l.take l.length).map f).sum = (l.map f).sum := by rw [List.take_length]
theorem cost_at {α : Type} (f : α → Nat) {l : List α} {B k : Nat} (h : l.length + (l.map f).sum ≤ B) (hk : k < l.length) : f l[k] ≤ B := by
  have h1 := sum_take f l k hk
  have h2 := sum_take_le f l (k + 1)
  omega


set_option maxRecDepth 10000 in
theorem opens_ints : Opens Tryd.prog 33 (List Int) := opens_slice Tryd.underlying33 (by kernel_rfl) Nat.one_pos (opens_int Tryd.underlying3 (by kernel_rfl))

set_option maxRecDepth 10000 in
theorem opens_strs : Opens Tryd.prog 115 (List ByteArray) := opens_slice Tryd.underlying115 (by kernel_rfl) Nat.one_pos (opens_string Tryd.underlying9 (by kernel_rfl))

theorem Tryd.strs_tab : Tryd.prog.underlying 115 = some (.slice 9) ∧ (Tryd.prog.info? 9).map (fun i => (i.zero, i.size, i.bytes)) = some (some (.string ByteArray.empty), 1, 16) ∧ (Value.string ByteArray.empty).cells.size = 1 ∧ 0 < 1 ∧ 0 < 16 :=
  ⟨by kernel_rfl, by kernel_rfl, rfl, by decide, by decide⟩

theorem made_strs (w : World) (n : Nat) (hn : n ≤ 1099511627776) : ∃ w', (Instr.makeSlice 115 (.int .i64 (n : Int)) (.int .i64 (n : Int))).run Tryd.prog w = .ok (.slice (some ⟨w.heap.size, 0, none⟩) n n) w' ∧
    w'.ownsRow w.heap.size 9 1 (.slice (some ⟨w.heap.size, 0, none⟩) n n) n (strVs (List.replicate n ByteArray.empty)) ∧ Fr [] w w' := by
  obtain ⟨ht, hi, hzs, hsz, hb0⟩ := Tryd.strs_tab
  obtain ⟨i, hi, hz0, hz1, hz2⟩ := info_parts hi
  obtain ⟨w', hr, ho, hg⟩ := run_make_full (P := Tryd.prog) w w.heap.size _ _ i _ 1 ht hi hz0 hz1 .i64 .i64 n (by rw [hz2]; omega) (by unfold maxLen; omega) (Nat.le_refl _)
  refine ⟨w', hr, ?_, (Fr.grown hg)⟩
  have e : (madeCells (Value.string ByteArray.empty).cells (n * 1)).toList = strVs (List.replicate n ByteArray.empty) := by
    rw [Nat.mul_one]
    rw [show (Value.string ByteArray.empty).cells = #[.string ByteArray.empty] from rfl, toList_madeCells_one]
    simp [strVs]
  rw [← e]
  exact ho

theorem strVs_fill (l : List ByteArray) (k : Nat) (h : k < l.length) : strVs (l.take (k + 1) ++ List.replicate (l.length - (k + 1)) ByteArray.empty) = (strVs (l.take k ++ List.replicate (l.length - k) ByteArray.empty)).set k (.string l[k]) := by
  unfold strVs
  rw [← List.map_set]
  congr 1
  apply List.ext_getElem?
  intro j
  rcases Nat.lt_trichotomy j k with h1 | rfl | h1
  · rw [List.getElem?_set_ne (by omega), List.getElem?_append_left (by simp; omega), List.getElem?_append_left (by simp; omega), List.getElem?_take_of_lt (by omega), List.getElem?_take_of_lt h1]
  · rw [List.getElem?_set_self (by simp; omega), List.getElem?_append_left (by simp; omega), List.getElem?_take_of_lt (by omega), List.getElem?_eq_getElem h]
  · rw [List.getElem?_set_ne (by omega), List.getElem?_append_right (by simp; omega), List.getElem?_append_right (by simp; omega)]
    simp only [List.length_take, List.getElem?_replicate]
    congr 1
    simp only [eq_iff_iff]
    omega

end Go.Proofs.YtpaekgeopmifeaaDoor
attribute [local go_sem ↓] Go.wp_at_zero Go.wp_at_succ
namespace Go.Proofs.YtpaekgeopmifeaaDoor
open Go.RowKit

theorem within_any (n lo hi : Int) (w : World) :
    Calls Tryd.prog 17 #[.int .i64 n, .int .i64 lo, .int .i64 hi] w fun e w' => e = .returned (.bool (decide (lo ≤ n ∧ n ≤ hi))) ∧ w = w' := by
  by_cases h1 : lo ≤ n
  · by_cases h2 : n ≤ hi
    · go_enter Tryd.func17, Tryd.ntmps17
      go_wp2
      go_ret
      exact ⟨by simp [h1, h2], rfl⟩
    · go_enter Tryd.func17, Tryd.ntmps17
      go_wp2
      go_ret
      exact ⟨by simp; omega, rfl⟩
  · go_enter Tryd.func17, Tryd.ntmps17
    go_wp2
    go_ret
    exact ⟨by simp; omega, rfl⟩

end Go.Proofs.YtpaekgeopmifeaaDoor
namespace Go.Proofs.YtpaekgeopmifeaaDoor
attribute [local go_sem ↓] Go.wp_at_zero Go.wp_at_succ
open Go.RowKit
open Rep (Is sz)

def pcsGo (b : List UInt8) (at' : Nat) : Nat → Nat → Int → Option (Int × Int × Nat)
  | 0, _, _ => none
  | f + 1, i, acc => match b[at' + i]? with
    | none => none
    | some c => if (c.toNat : Int) < 128 then some (acc + (c.toNat : Int) % 128 * 2 ^ (7 * i), (c.toNat : Int), i + 1) else pcsGo b at' f (i + 1) (acc + (c.toNat : Int) % 128 * 2 ^ (7 * i))
def pcs (b : List UInt8) (at' : Nat) : Option (Int × Int × Nat) := pcsGo b at' 5 0 0

theorem pcsGo_end {b : List UInt8} {a k : Nat} {acc : Int} (h : b.length ≤ a + k) (f : Nat) : pcsGo b a f k acc = none := by
  cases f with
  | zero => rfl
  | succ f => unfold pcsGo; rw [List.getElem?_eq_none h]
theorem pcsGo_last {b : List UInt8} {a k : Nat} {acc : Int} (f : Nat) (h : a + k < b.length) (hc : (b[a + k].toNat : Int) < 128) : pcsGo b a (f + 1) k acc = some (acc + (b[a + k].toNat : Int) % 128 * 2 ^ (7 * k), (b[a + k].toNat : Int), k + 1) := by
  unfold pcsGo; rw [List.getElem?_eq_getElem h]; simp only []; rw [if_pos hc]
theorem pcsGo_more {b : List UInt8} {a k : Nat} {acc : Int} (f : Nat) (h : a + k < b.length) (hc : ¬ (b[a + k].toNat : Int) < 128) : pcsGo b a (f + 1) k acc = pcsGo b a f (k + 1) (acc + (b[a + k].toNat : Int) % 128 * 2 ^ (7 * k)) := by
  conv => lhs; unfold pcsGo
  rw [List.getElem?_eq_getElem h]; simp only []; rw [if_neg hc]
/-- What is read, where it is read: not below 0, below 2^35; up to five bytes, all there. -/
theorem pcsGo_ok {b : List UInt8} {a : Nat} : ∀ (f k : Nat) (acc n c : Int) (s : Nat), f + k = 5 → 0 ≤ acc → acc < 2 ^ (7 * k) → pcsGo b a f k acc = some (n, c, s) → 0 ≤ n ∧ n < 2 ^ (7 * s) ∧ 0 ≤ c ∧ c < 128 ∧ k < s ∧ s ≤ 5 ∧ a + s ≤ b.length
  | 0, k, acc, n, c, s, _, _, _, h => by simp [pcsGo] at h
  | f + 1, k, acc, n, c, s, hf, h0, h1, h => by
    by_cases hl : a + k < b.length
    · have hc1 : (0 : Int) ≤ (b[a + k].toNat : Int) := by omega
      have hm : 0 ≤ (b[a + k].toNat : Int) % 128 ∧ (b[a + k].toNat : Int) % 128 < 128 := by omega
      have hp : (0 : Int) < 2 ^ (7 * k) := Int.pow_pos (by decide)
      have hsucc : (2 : Int) ^ (7 * (k + 1)) = 128 * 2 ^ (7 * k) := by rw [Nat.mul_succ, Int.pow_add]; rw [Int.mul_comm]; rfl
      have hm1 := Int.mul_le_mul_of_nonneg_right (Int.le_of_lt_add_one (show (b[a + k].toNat : Int) % 128 < 127 + 1 by omega)) (Int.le_of_lt hp)
      have hm0 := Int.mul_nonneg hm.1 (Int.le_of_lt hp)
      by_cases hc : (b[a + k].toNat : Int) < 128
      · rw [pcsGo_last f hl hc] at h
        simp only [Option.some.injEq, Prod.mk.injEq] at h
        obtain ⟨rfl, rfl, rfl⟩ := h
        refine ⟨by omega, by rw [hsucc]; omega, by omega, hc, by omega, by omega, by omega⟩
      · rw [pcsGo_more f hl hc] at h
        have := pcsGo_ok f (k + 1) _ n c s (by omega) (by omega) (by rw [hsucc]; omega) h
        exact ⟨this.1, this.2.1, this.2.2.1, this.2.2.2.1, by omega, this.2.2.2.2.2.1, this.2.2.2.2.2.2⟩
    · rw [pcsGo_end (by omega)] at h; cases h
theorem pcs_ok {b : List UInt8} {a : Nat} {n c : Int} {s : Nat} (h : pcs b a = some (n, c, s)) : 0 ≤ n ∧ n < 2 ^ (7 * s) ∧ 0 ≤ c ∧ c < 128 ∧ 0 < s ∧ s ≤ 5 ∧ a + s ≤ b.length :=
  pcsGo_ok 5 0 0 n c s rfl (by decide) (by decide) h

def pcsR (o : Option (Int × Int × Nat)) : Int × Int × Int := match o with
  | some (n, c, s) => (n, c, s)
  | none => (0, 0, 0)

def getU (b : List UInt8) (at' : Nat) : Option (Int × Nat) := match pcs b at' with
  | some (n, c, s) => if s = 5 ∧ 15 < c then none else some (n, at' + s)
  | none => none
def getS (b : List UInt8) (at' : Nat) : Option (Int × Nat) := match pcs b at' with
  | some (n, c, s) => if s = 5 ∧ 8 ≤ c ∧ c ≤ 119 then none else some (if 64 ≤ c then n - 2 ^ (7 * s) else n, at' + s)
  | none => none

/-- A byte of a row. -/
theorem byte_cell {w : World} {a : Option Addr} {l : List UInt8} (h : View w a 1 l.length (byteVs l)) (k : Nat) (hk : k < l.length) : ∃ b o, a = some ⟨b, o, none⟩ ∧ w.cell? ⟨b, o + k, none⟩ = some (.int .u8 l[k].toNat) ∧ w.frozen? ⟨b, o + k, none⟩ = false ∧ Old b w :=
  h.get k hk _ (by simp [byteVs, hk])


theorem and_127 (n : Int) : bits .and .i64 n 127 = n % 128 := by
  have h127 : (BitVec.ofInt 64 127).toNat = 2 ^ 7 - 1 := by decide
  have key : (BitVec.ofInt 64 n &&& BitVec.ofInt 64 127).toNat = (n % ((2 ^ 64 : Nat) : Int)).toNat % 2 ^ 7 := by
    rw [BitVec.toNat_and, BitVec.toNat_ofInt, h127, Nat.and_two_pow_sub_one_eq_mod]
  show IntKind.i64.wrap ((BitVec.ofInt 64 n &&& BitVec.ofInt 64 127).toNat : Nat) = n % 128
  rw [key, IntKind.wrap_i64]
  omega

def pcsS (a : Nat) (o : Option (Int × Int × Nat)) : Int × Int × Int × Int := match o with
  | some (n, c, s) => (n, a + s, c, s)
  | none => (0, 0, 0, 0)

def getR (o : Option (Int × Nat)) : Int × Int × Bool := match o with
  | some (n, a) => (n, a, true)
  | none => (0, 0, false)
end Go.Proofs.YtpaekgeopmifeaaDoor
namespace Go.Proofs.YtpaekgeopmifeaaDoor
open Go.RowKit
open Rep (Is sz)

/-- w comes of a, and all that a had is as it was but for the blocks of S. -/
class StepX (S : outParam (List Nat)) (a : outParam World) (w : World) : Prop where
  fr : Fr S a w
instance old_stepx {b : Nat} {S : List Nat} {a w : World} [s : StepX S a w] [h : Old b a] : Old b w := ⟨Nat.lt_of_lt_of_le h.lt s.fr.size⟩
instance grew_stepx {S : List Nat} {a m w : World} [s : StepX S m w] [h : Grew a m] : Grew a w := ⟨Nat.le_trans h.le s.fr.size⟩
@[go_sem] theorem cell_stepx {S : List Nat} {a w : World} {b o : Nat} [s : StepX S a w] [h : Old b a] [n : NotIn b S] : w.cell? ⟨b, o, none⟩ = cellAt a b o := s.fr.cell (p := ⟨b, o, none⟩) h.lt n.ne
@[go_sem] theorem frozen_stepx {S : List Nat} {a w : World} {b o : Nat} [s : StepX S a w] [h : Old b a] [n : NotIn b S] : w.frozen? ⟨b, o, none⟩ = frozenAt a b o := s.fr.frozen (p := ⟨b, o, none⟩) h.lt n.ne

/-- Two blocks that differ. -/
class NeB (b c : Nat) : Prop where
  ne : b ≠ c
/-- Block g is one of the world w's, at which the walk began. -/
class Arg (g : Nat) (w : outParam World) : Prop where
  lt : g < w.heap.size
instance newb_grew {a w : World} [h : Grew a w] : NewB a w.heap.size := ⟨h.le⟩
instance ne_new {g b : Nat} {w : World} [a : Arg g w] [n : NewB w b] : NeB b g := ⟨by have := a.lt; have := n.le; omega⟩
instance ne_new' {g b : Nat} {w : World} [a : Arg g w] [n : NewB w b] : NeB g b := ⟨by have := a.lt; have := n.le; omega⟩
instance notin_cons {b c : Nat} {S : List Nat} [n : NeB b c] [m : NotIn b S] : NotIn b (c :: S) := ⟨by
  intro h
  rcases List.mem_cons.1 h with h | h
  · exact n.ne h
  · exact m.ne h⟩

/-- Two footprints apart. -/
class Apart (F S : List Nat) : Prop where
  ne : ∀ b ∈ F, b ∉ S
instance apart_nil (S : List Nat) : Apart [] S := ⟨by simp⟩
instance (priority := 40) shows_stepx {α : Type} [Rep α] {S : List Nat} {m w : World} {F : List Nat} {x : α} {cs : List Value} [s : StepX S m w] [h : Shows m F x cs] [a : Apart F S] : Shows w F x cs := ⟨Rep.fr h.is s.fr a.ne⟩

/-- All of a's blocks are in b as they were but for S. -/
class FrX (S : List Nat) (a b : World) : Prop where
  fr : Fr S a b
class MemB (b : Nat) (S : List Nat) : Prop where
  mem : b ∈ S
instance mem_head (b : Nat) (S : List Nat) : MemB b (b :: S) := ⟨List.mem_cons_self⟩
instance mem_tail {b c : Nat} {S : List Nat} [h : MemB b S] : MemB b (c :: S) := ⟨List.mem_cons_of_mem _ h.mem⟩
/-- The blocks of T are of S, or none of a's. -/
class SubX (a : World) (T S : List Nat) : Prop where
  sub : ∀ b ∈ T, b ∈ S ∨ a.heap.size ≤ b
instance (priority := 2000) sub_refl (a : World) (S : List Nat) : SubX a S S := ⟨fun _ h => .inl h⟩
instance sub_nil (a : World) (S : List Nat) : SubX a [] S := ⟨by simp⟩
instance sub_mem {a : World} {b : Nat} {T S : List Nat} [h : MemB b S] [k : SubX a T S] : SubX a (b :: T) S := ⟨by
  intro c hc
  rcases List.mem_cons.1 hc with rfl | hc
  · exact .inl h.mem
  · exact k.sub c hc⟩
instance sub_new {a : World} {b : Nat} {T S : List Nat} [h : NewB a b] [k : SubX a T S] : SubX a (b :: T) S := ⟨by
  intro c hc
  rcases List.mem_cons.1 hc with rfl | hc
  · exact .inr h.le
  · exact k.sub c hc⟩
instance frx_refl (S : List Nat) (a : World) : FrX S a a := ⟨Fr.refl _ _⟩
instance frx_drew {S : List Nat} {a w : World} [h : FrX S a w] : FrX S a w.drew := ⟨h.fr.drew⟩
instance frx_alloc {S : List Nat} {a w : World} {o : Obj} [h : FrX S a w] : FrX S a (w.alloc o) := ⟨h.fr.alloc _⟩
instance frx_set {S : List Nat} {a w : World} {b o : Nat} {v : Value} [h : FrX S a w] [n : MemB b S] : FrX S a (w.setCell ⟨b, o, none⟩ v) := ⟨h.fr.setCell (.inl n.mem) _⟩
instance frx_setn {S : List Nat} {a w : World} {b o : Nat} {v : Value} [h : FrX S a w] [n : NewB a b] : FrX S a (w.setCell ⟨b, o, none⟩ v) := ⟨h.fr.setCell (.inr n.le) _⟩
instance frx_step {S : List Nat} {a m w : World} [s : Step m w] [h : FrX S a m] : FrX S a w := ⟨h.fr.trans0 s.fr⟩
instance frx_stepx {S T : List Nat} {a m w : World} [s : StepX T m w] [h : FrX S a m] [k : SubX a T S] : FrX S a w := ⟨h.fr.trans s.fr k.sub⟩
theorem mkStepX {S : List Nat} {a b : World} [h : FrX S a b] : StepX S a b := ⟨h.fr⟩
/-- Where the written blocks are new, nothing old was written. -/
instance fr0_stepx {T : List Nat} {a m w : World} [s : StepX T m w] [h : Fr0 a m] [k : SubX a T []] : Fr0 a w := ⟨h.fr.trans s.fr k.sub⟩

/-- A struct's own block, known whole, at a world by its name. -/
class BoxL (w : World) (g : Nat) (C : outParam (Array Value)) : Prop where
  is : Box w g C
/-- The same at whatever world. -/
class BoxAt (w : World) (g : Nat) (C : outParam (Array Value)) : Prop where
  is : Box w g C
instance box_l {w : World} {g : Nat} {C : Array Value} [h : BoxL w g C] : BoxAt w g C := ⟨h.is⟩
instance (priority := 90) box_alloc {w : World} {g : Nat} {C : Array Value} {o : Obj} [h : BoxAt w g C] : BoxAt (w.alloc o) g C := ⟨h.is.alloc o⟩
instance (priority := 90) box_drew {w : World} {g : Nat} {C : Array Value} [h : BoxAt w g C] : BoxAt w.drew g C := ⟨h.is⟩
instance (priority := 90) box_set {w : World} {g b o : Nat} {v : Value} {C : Array Value} [h : BoxAt w g C] [n : NeB b g] : BoxAt (w.setCell ⟨b, o, none⟩ v) g C := ⟨Box.other n.ne h.is⟩
instance (priority := 80) box_step {m w : World} {g : Nat} {C : Array Value} [s : Step m w] [h : BoxAt m g C] : BoxAt w g C := ⟨h.is.fr0 s.fr⟩
instance (priority := 70) box_stepx {S : List Nat} {m w : World} {g : Nat} {C : Array Value} [s : StepX S m w] [h : BoxAt m g C] [n : NotIn g S] : BoxAt w g C := ⟨h.is.fr s.fr n.ne⟩
@[go_sem] theorem cell_box {w : World} {g j : Nat} {C : Array Value} [h : BoxL w g C] : w.cell? ⟨g, j, none⟩ = C[j]? := h.is.cell_eq j
@[go_sem] theorem frozen_box {w : World} {g j : Nat} {C : Array Value} [h : BoxL w g C] : w.frozen? ⟨g, j, none⟩ = false := h.is.live j
theorem BoxL.old {w : World} {g : Nat} {C : Array Value} (h : BoxL w g C) : Old g w := ⟨h.is.lt⟩
theorem BoxL.arg {w : World} {g : Nat} {C : Array Value} (h : BoxL w g C) : Arg g w := ⟨h.is.lt⟩
theorem BoxAt.l {w : World} {g : Nat} {C : Array Value} (h : BoxAt w g C) : BoxL w g C := ⟨h.is⟩
/-- A write into the block itself. -/
theorem boxSet {w : World} {g j : Nat} {v : Value} {C C' : Array Value} [h : BoxAt w g C] (e : C.setIfInBounds j v = C') : BoxL (w.setCell ⟨g, j, none⟩ v) g C' := ⟨e ▸ h.is.set j v⟩
theorem boxOf {w : World} {g : Nat} {C : Array Value} [h : BoxAt w g C] : BoxL w g C := ⟨h.is⟩
end Go.Proofs.YtpaekgeopmifeaaDoor
