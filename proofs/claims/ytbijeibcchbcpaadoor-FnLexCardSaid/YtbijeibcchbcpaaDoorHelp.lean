/- Contracts: the laws' own helpers for rows of numbers, bytes and texts, by class search. -/
import Derived.Test.YtbijeibcchbcpaaDoorAuto
import Derived.Test.YtbijeibcchbcpaaDoorInts
import Derived.ProofKit
namespace Go.Proofs.YtbijeibcchbcpaaDoor
attribute [local go_sem ↓] Go.wp_at_zero Go.wp_at_succ
open Go.RowKit Go.ChangeShapes Go.WideShapes
open Rep (Is sz)

theorem list_open {α : Type} [Rep α] {w : World} {F : List Nat} {l : List α} {cs : List Value} (h : Is w F l cs) :
    ∃ a cap cl F', cs = [.slice a l.length cap] ∧ F = (if l = [] then [] else blk a) ++ F' ∧ View w a (sz α) l.length cl ∧ Row w F' l cl ∧ l.length ≤ cap ∧ cap ≤ maxLen := by
  obtain ⟨a, cap, cl, F', rfl, rfl, hv, hr, _, h1, h2⟩ := h
  exact ⟨a, cap, cl, F', rfl, rfl, hv, hr, h1, h2⟩

/-- An element of a view. -/
theorem View.row {α : Type} [Rep α] {w : World} {a : Option Addr} {n : Nat} {cl : List Value} {F : List Nat} {l : List α} (hv : View w a (sz α) n cl) (hr : Row w F l cl) (hn : l.length = n) (h0 : 0 < sz α) (k : Nat) (hk : k < l.length) :
    ∃ b o G cs, a = some ⟨b, o, none⟩ ∧ (∀ x ∈ G, x ∈ F) ∧ Is w G l[k] cs ∧ (∀ j u, cs[j]? = some u → w.cell? ⟨b, o + k * sz α + j, none⟩ = some u ∧ w.frozen? ⟨b, o + k * sz α + j, none⟩ = false) ∧ Old b w := by
  obtain ⟨b, o, rfl, hc⟩ := hv.cells (by omega)
  obtain ⟨G, hG, hI⟩ := hr.at k hk
  have hx : ∀ j u, ((cl.drop (k * sz α)).take (sz α))[j]? = some u → cl[k * sz α + j]? = some u := by
    intro j u hj
    have hl := (List.getElem?_eq_some_iff.1 hj).1
    rw [List.length_take] at hl
    rw [List.getElem?_take_of_lt (by omega), List.getElem?_drop] at hj
    exact hj
  refine ⟨b, o, G, _, rfl, hG, hI, fun j u hj => ?_, ?_⟩
  · have := hc _ u (hx j u hj)
    rwa [show o + (k * sz α + j) = o + k * sz α + j by omega] at this
  · have hlen := Rep.len hI
    have h1 := hx 0 _ (List.getElem?_eq_getElem (by rw [hlen]; exact h0))
    exact ⟨block_lt_of_cell (hc _ _ h1).1⟩

def strsCost (l : List ByteArray) : Nat := l.length + (l.map ByteArray.size).sum
theorem sum_take {α : Type} (f : α → Nat) (l : List α) (k : Nat) (h : k < l.length) : ((l.take (k + 1)).map f).sum = ((l.take k).map f).sum + f l[k] := by
  rw [List.take_succ_eq_append_getElem h, List.map_append, List.sum_append]; simp
theorem sum_take_le {α : Type} (f : α → Nat) (l : List α) (k : Nat) : ((l.take k).map f).sum ≤ (l.map f).sum := by
  conv => rhs; rw [← List.take_append_drop k l, List.map_append, List.sum_append]
  omega
theorem sum_full {α : Type} (f : α → Nat) (l : List α) : ((l.take l.length).map f).sum = (l.map f).sum := by rw [List.take_length]
theorem cost_at {α : Type} (f : α → Nat) {l : List α} {B k : Nat} (h : l.length + (l.map f).sum ≤ B) (hk : k < l.length) : f l[k] ≤ B := by
  have h1 := sum_take f l k hk
  have h2 := sum_take_le f l (k + 1)
  omega



set_option maxRecDepth 10000 in
theorem opens_strs : Opens Tryd.prog 40 (List ByteArray) := opens_slice Tryd.underlying40 (by kernel_rfl) Nat.one_pos (opens_string Tryd.underlying9 (by kernel_rfl))

theorem Tryd.strs_tab : Tryd.prog.underlying 40 = some (.slice 9) ∧ (Tryd.prog.info? 9).map (fun i => (i.zero, i.size, i.bytes)) = some (some (.string ByteArray.empty), 1, 16) ∧ (Value.string ByteArray.empty).cells.size = 1 ∧ 0 < 1 ∧ 0 < 16 :=
  ⟨by kernel_rfl, by kernel_rfl, rfl, by decide, by decide⟩

theorem made_strs (w : World) (n : Nat) (hn : n ≤ 1099511627776) : ∃ w', (Instr.makeSlice 40 (.int .i64 (n : Int)) (.int .i64 (n : Int))).run Tryd.prog w = .ok (.slice (some ⟨w.heap.size, 0, none⟩) n n) w' ∧
    w'.ownsRow w.heap.size 9 1 (.slice (some ⟨w.heap.size, 0, none⟩) n n) n (strVs (List.replicate n ByteArray.empty)) ∧ Fr [] w w' := by
  obtain ⟨ht, hi, hzs, hsz, hb0⟩ := Tryd.strs_tab
  obtain ⟨i, hi, hz0, hz1, hz2⟩ := info_parts hi
  obtain ⟨w', hr, ho, hg⟩ := run_make_full (P := Tryd.prog) w w.heap.size _ _ i _ 1 ht hi hz0 hz1 .i64 .i64 n (by rw [hz2]; omega) (by unfold maxLen; omega) (Nat.le_refl _)
  refine ⟨w', hr, ?_, (Fr.grown hg)⟩
  have e : (madeCells (Value.string ByteArray.empty).cells (n * 1)).toList = strVs (List.replicate n ByteArray.empty) := by
    rw [Nat.mul_one]
    rw [show (Value.string ByteArray.empty).cells = #[.string ByteArray.empty] from rfl, toList_madeCells_one]
    simp [strVs]
  rw [← e]
  exact ho

theorem strVs_fill (l : List ByteArray) (k : Nat) (h : k < l.length) : strVs (l.take (k + 1) ++ List.replicate (l.length - (k + 1)) ByteArray.empty) = (strVs (l.take k ++ List.replicate (l.length - k) ByteArray.empty)).set k (.string l[k]) := by
  unfold strVs
  rw [← List.map_set]
  congr 1
  apply List.ext_getElem?
  intro j
  rcases Nat.lt_trichotomy j k with h1 | rfl | h1
  · rw [List.getElem?_set_ne (by omega), List.getElem?_append_left (by simp; omega), List.getElem?_append_left (by simp; omega), List.getElem?_take_of_lt (by omega), List.getElem?_take_of_lt h1]
  · rw [List.getElem?_set_self (by simp; omega), List.getElem?_append_left (by simp; omega), List.getElem?_take_of_lt (by omega), List.getElem?_eq_getElem h]
  · rw [List.getElem?_set_ne (by omega), List.getElem?_append_right (by simp; omega), List.getElem?_append_right (by simp; omega)]
    simp only [List.length_take, List.getElem?_replicate]
    congr 1
    simp only [eq_iff_iff]
    omega

end Go.Proofs.YtbijeibcchbcpaaDoor
