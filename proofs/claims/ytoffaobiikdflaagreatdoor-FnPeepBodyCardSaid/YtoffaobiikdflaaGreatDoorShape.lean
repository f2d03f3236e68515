/- Contracts: ShapeOk, both sides. -/
import Derived.Test.YtoffaobiikdflaaGreatDoorInsOk
import Derived.Test.YtoffaobiikdflaaGreatDoorInsS
import Derived.Test.YtoffaobiikdflaaGreatDoorRow
import Derived.Test.YtoffaobiikdflaaGreatDoorMut
import Derived.Test.YtoffaobiikdflaaGreatDoorAppY
namespace Go.Proofs.YtoffaobiikdflaaGreatDoor
attribute [local go_sem ↓] Go.wp_at_zero Go.wp_at_succ
open Go.RowKit
open Rep (Is sz)

theorem sbegins (op : Int) (w : World) : Calls Tryz.prog 93 #[.int .i64 op] w fun e w' => e = .returned (.bool (decide (kindOf op = 1))) ∧ Step w w' := by have hc := kind_cases op; obtain ⟨k, hk⟩ : ∃ k, k = kindOf op := ⟨_, rfl⟩; rw [← hk] at hc ⊢; clear hk; go_enter Tryz.func93, Tryz.ntmps93; (rcases hc with ⟨rfl, h⟩ | ⟨rfl, h⟩ | ⟨rfl, h⟩ | ⟨rfl, h⟩ | ⟨rfl, h⟩); all_goals (go_wp2; all_goals (go_ret; exact ⟨ret_bool (by simp <;> omega), mkStep⟩))

theorem own_addr {w : World} {B : Nat} {e : TypeId} {sz n cap : Nat} {a : Option Addr} {xs : List Value} (h : w.ownsRow B e sz (.slice a n cap) n xs) (hn : 0 < n) : ∃ g, a = some ⟨g, 0, none⟩ ∧ B ≤ g ∧ g < w.heap.size := by
  rcases h.2 with ⟨hv, rfl⟩ | ⟨g, cap', cur, hv, hb, hg, _⟩
  · omega
  · simp only [Value.slice.injEq] at hv
    exact ⟨g, hv.1, hb, (Array.getElem?_eq_some_iff.1 hg).1⟩
theorem own_pre {w : World} {B g : Nat} {e : TypeId} {sz n cap : Nat} {xs : List Value} (m : Nat) (h : w.ownsRow B e sz (.slice (some ⟨g, 0, none⟩) n cap) n xs) (hm : m ≤ n) : w.ownsRow B e sz (.slice (some ⟨g, 0, none⟩) m cap) m (xs.take (m * sz)) := by
  refine ⟨by rw [List.length_take, h.1]; exact Nat.min_eq_left (Nat.mul_le_mul_right _ hm), ?_⟩
  rcases h.2 with ⟨hv, rfl⟩ | ⟨g', cap', cur, hv, hb, hg, h1, h2, h3, h4⟩
  · simp at hv
  · simp only [Value.slice.injEq] at hv
    obtain ⟨hg', _, rfl⟩ := hv
    refine .inr ⟨g', cap, cur, by rw [hg'], hb, hg, by omega, h2, h3, ?_⟩
    rw [← h4, List.take_take, Nat.min_eq_left (Nat.mul_le_mul_right _ hm)]
theorem own_set {w : World} {B g : Nat} {e : TypeId} {n cap : Nat} {xs : List Value} (j : Nat) (v : Value) (h : w.ownsRow B e 1 (.slice (some ⟨g, 0, none⟩) n cap) n xs) (hj : j < n) : (w.setCell ⟨g, j, none⟩ v).ownsRow B e 1 (.slice (some ⟨g, 0, none⟩) n cap) n (xs.set j v) := by
  refine ⟨by rw [List.length_set]; exact h.1, ?_⟩
  rcases h.2 with ⟨hv, rfl⟩ | ⟨g', cap', cur, hv, hb, hg, h1, h2, h3, h4⟩
  · simp at hv
  · simp only [Value.slice.injEq, Option.some.injEq, Addr.mk.injEq] at hv
    obtain ⟨⟨rfl, _⟩, _, rfl⟩ := hv
    refine .inr ⟨g, cap, cur.setIfInBounds j v, rfl, hb, heap_setCell_same w g j cur e v hg, h1, h2, by simpa using h3, ?_⟩
    rw [Array.toList_setIfInBounds, ← h4, Nat.mul_one, List.take_set]

def shStep (s : List Bool) (op : Int) : Option (List Bool) :=
  if kindOf op = 1 then some (s ++ [decide (op = 4)])
  else if op = 5 then (if s.getLast? = some true then some (s.dropLast ++ [false]) else none)
  else if op = 11 then (if s = [] then none else some s.dropLast)
  else some s
def shGo : List Bool → List InsD → Bool
  | s, [] => s.isEmpty
  | s, i :: r => match shStep s i.op with
    | none => false
    | some t => shGo t r
def shapeB (l : List InsD) : Bool := shGo [] l
theorem shGo_at {l : List InsD} {k : Nat} (h : k < l.length) {s : List Bool} : shGo s (l.drop k) = match shStep s l[k].op with | none => false | some t => shGo t (l.drop (k + 1)) := by
  rw [List.drop_eq_getElem_cons h]; rfl
theorem shGo_no {l : List InsD} {k : Nat} (h : k < l.length) {s : List Bool} (q : shStep s l[k].op = none) : shGo s (l.drop k) = false := by rw [shGo_at h, q]
theorem shGo_on {l : List InsD} {k : Nat} (h : k < l.length) {s t : List Bool} (q : shStep s l[k].op = some t) : shGo s (l.drop k) = shGo t (l.drop (k + 1)) := by rw [shGo_at h, q]

theorem shape_begin {s : List Bool} {op : Int} (h : kindOf op = 1) : shStep s op = some (s ++ [decide (op = 4)]) := if_pos h
theorem shape_else_no {s : List Bool} {op : Int} (h : ¬ kindOf op = 1) (h5 : op = 5) (hs : s.getLast? ≠ some true) : shStep s op = none := by unfold shStep; rw [if_neg h, if_pos h5, if_neg hs]
theorem shape_else {s : List Bool} {op : Int} (h : ¬ kindOf op = 1) (h5 : op = 5) : shStep (s ++ [true]) op = some (s ++ [false]) := by unfold shStep; rw [if_neg h, if_pos h5, if_pos (by simp)]; simp
theorem shape_end_no {op : Int} (h : ¬ kindOf op = 1) (h5 : op = 11) : shStep [] op = none := by unfold shStep; rw [if_neg h, if_neg (by omega), if_pos h5]; rfl
theorem shape_end {s : List Bool} {op : Int} {b : Bool} (h : ¬ kindOf op = 1) (h5 : op = 11) : shStep (s ++ [b]) op = some s := by unfold shStep; rw [if_neg h, if_neg (by omega), if_pos h5, if_neg (by simp)]; simp
theorem shape_other {s : List Bool} {op : Int} (h : ¬ kindOf op = 1) (h5 : ¬ op = 5) (h11 : ¬ op = 11) : shStep s op = some s := by unfold shStep; rw [if_neg h, if_neg h5, if_neg h11]

theorem nil_or_snoc {α : Type} (l : List α) : l = [] ∨ ∃ (L : List α) (b : α), l = L ++ [b] := by
  rcases List.eq_nil_or_concat l with h | ⟨L, b, h⟩
  · exact .inl h
  · exact .inr ⟨L, b, by rw [h, List.concat_eq_append]⟩
def iv1 (n : Int) : List Value := [.int .i64 n]
theorem iv1_one (n : Int) : ∀ u ∈ iv1 n, u.oneCell' = true := by intro u hu; simp [iv1] at hu; subst hu; rfl
theorem iv1_map (l : List Int) : l.flatMap iv1 = l.map fun n => Value.int .i64 n := by
  induction l with
  | nil => rfl
  | cons n l ih => rw [List.flatMap_cons, ih]; rfl
theorem iv1_own {w : World} {B : Nat} {e : TypeId} {v : Value} {n : Nat} {l : List Int} (h : w.ownsRow B e 1 v n (l.map fun n => Value.int .i64 n)) : w.ownsRow B e 1 v n (l.flatMap iv1) := by rw [iv1_map]; exact h
theorem iv1_at {n : Int} {j : Nat} {u : Value} (h : (iv1 n)[j]? = some u) : j = 0 ∧ u = .int .i64 n := by
  cases j with
  | zero => simp [iv1] at h; exact ⟨rfl, h.symm⟩
  | succ j => simp [iv1] at h
def four (n : Int) : Bool := decide (n = 4)
end Go.Proofs.YtoffaobiikdflaaGreatDoor
