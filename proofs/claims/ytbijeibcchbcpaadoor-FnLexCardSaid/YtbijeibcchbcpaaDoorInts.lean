/- Contracts: the laws' own helpers for rows of numbers. -/
import Derived.Test.YtbijeibcchbcpaaDoorRep
import Derived.Test.YtbijeibcchbcpaaDoorRegion
namespace Go.Proofs.YtbijeibcchbcpaaDoor
attribute [local go_sem ↓] Go.wp_at_zero Go.wp_at_succ
open Go.RowKit
open Rep (Is sz)

theorem upto_step {α : Type} {l m : List α} {k : Nat} (h : ∀ j : Nat, j < k → l[j]? = m[j]?) (hl : k < l.length) (hm : k < m.length) (he : l[k] = m[k]) : ∀ j : Nat, j < k + 1 → l[j]? = m[j]? := by
  intro j hj
  rcases Nat.lt_or_ge j k with h1 | h1
  · exact h j h1
  · obtain rfl : j = k := by omega
    rw [List.getElem?_eq_getElem hl, List.getElem?_eq_getElem hm, he]

theorem upto_ne {α : Type} [DecidableEq α] {l m : List α} {k : Nat} (hl : k < l.length) (hm : k < m.length) (he : l[k] ≠ m[k]) : decide (l = m) = false := by
  rw [decide_eq_false_iff_not]
  rintro rfl
  exact he rfl

theorem upto_all {α : Type} [DecidableEq α] {l m : List α} {k : Nat} (hl : l.length = m.length) (hk : l.length ≤ k) (h : ∀ j : Nat, j < k → l[j]? = m[j]?) : decide (l = m) = true := by
  rw [decide_eq_true_iff]
  apply List.ext_getElem?
  intro j
  rcases Nat.lt_or_ge j k with h1 | h1
  · exact h j h1
  · rw [List.getElem?_eq_none (by omega), List.getElem?_eq_none (by omega)]



theorem wrap64_in {n : Int} (h : In64 n) : wrap64 n = n := by
  unfold In64 at h
  unfold wrap64
  omega

theorem intVs_fill (l : List Int) (k : Nat) (h : k < l.length) : intVs (l.take (k + 1) ++ List.replicate (l.length - (k + 1)) 0) = (intVs (l.take k ++ List.replicate (l.length - k) 0)).set k (.int .i64 l[k]) := by
  unfold intVs
  rw [← List.map_set]
  congr 1
  apply List.ext_getElem?
  intro j
  rcases Nat.lt_trichotomy j k with h1 | rfl | h1
  · rw [List.getElem?_set_ne (by omega), List.getElem?_append_left (by simp; omega), List.getElem?_append_left (by simp; omega), List.getElem?_take_of_lt (by omega), List.getElem?_take_of_lt h1]
  · rw [List.getElem?_set_self (by simp; omega), List.getElem?_append_left (by simp; omega), List.getElem?_take_of_lt (by omega), List.getElem?_eq_getElem h]
  · rw [List.getElem?_set_ne (by omega), List.getElem?_append_right (by simp; omega), List.getElem?_append_right (by simp; omega)]
    simp only [List.length_take, List.getElem?_replicate]
    congr 1
    simp only [eq_iff_iff]
    omega

/-- The numbers that markIntS writes. -/
def marks (k : Int) (n : Nat) : List Int := (List.range n).map fun (j : Nat) => k + j
theorem marks_length (k : Int) (n : Nat) : (marks k n).length = n := by simp [marks]
theorem marks_at (k : Int) (n j : Nat) (h : j < n) : (marks k n)[j]? = some (k + j) := by
  simp [marks, List.getElem?_map, List.getElem?_range h]

theorem marks_fill (k : Int) (l : List Int) (j : Nat) (h : j < l.length) : intVs (marks k (j + 1) ++ l.drop (j + 1)) = (intVs (marks k j ++ l.drop j)).set j (.int .i64 (k + j)) := by
  unfold intVs
  rw [← List.map_set, List.set_append_right _ _ (by rw [marks_length]; omega), marks_length, Nat.sub_self, List.drop_eq_getElem_cons h, List.set_cons_zero]
  congr 1
  simp [marks, List.range_succ]

end Go.Proofs.YtbijeibcchbcpaaDoor
