/- Contracts: the laws' own helpers for rows of numbers. -/
import Derived.Test.YteeabcdibpnciaaDoorRep
import Derived.Test.YteeabcdibpnciaaDoorRegion
namespace Go.Proofs.YteeabcdibpnciaaDoor
attribute [local go_sem ↓] Go.wp_at_zero Go.wp_at_succ
open Go.RowKit
open Rep (Is sz)

theorem upto_step {α : Type} {l m : List α} {k : Nat} (h : ∀ j : Nat, j < k → l[j]? = m[j]?) (hl : k < l.length) (hm : k < m.length) (he : l[k] = m[k]) : ∀ j : Nat, j < k + 1 → l[j]? = m[j]? := by
  intro j hj
  rcases Nat.lt_or_ge j k with h1 | h1
  · exact h j h1
  · obtain rfl : j = k := by omega
    rw [List.getElem?_eq_getElem hl, List.getElem?_eq_getElem hm, he]

theorem upto_ne {α : Type} [DecidableEq α] {l m : List α} {k : Nat} (hl : k < l.length) (hm : k < m.length) (he : l[k] ≠ m[k]) : decide (l = m) = false := by
  rw [decide_eq_false_iff_not]
  rintro rfl
  exact he rfl

theorem upto_all {α : Type} [DecidableEq α] {l m : List α} {k : Nat} (hl : l.length = m.length) (hk : l.length ≤ k) (h : ∀ j : Nat, j < k → l[j]? = m[j]?) : decide (l = m) = true := by
  rw [decide_eq_true_iff]
  apply List.ext_getElem?
  intro j
  rcases Nat.lt_or_ge j k with h1 | h1
  · exact h j h1
  · rw [List.getElem?_eq_none (by omega), List.getElem?_eq_none (by omega)]

theorem Tryd.ints_tab : Tryd.prog.underlying 23 = some (.slice 3) ∧ (Tryd.prog.info? 3).map (fun i => (i.zero, i.size, i.bytes)) = some (some (.int .i64 0), 1, 8) ∧ (Value.int .i64 0).cells.size = 1 ∧ 0 < 1 ∧ 0 < 8 :=
  ⟨by kernel_rfl, by kernel_rfl, rfl, by decide, by decide⟩

theorem made_ints (w : World) (n : Nat) (hn : n ≤ 1099511627776) : ∃ w', (Instr.makeSlice 23 (.int .i64 (n : Int)) (.int .i64 (n : Int))).run Tryd.prog w = .ok (.slice (some ⟨w.heap.size, 0, none⟩) n n) w' ∧
    w'.ownsRow w.heap.size 3 1 (.slice (some ⟨w.heap.size, 0, none⟩) n n) n (intVs (List.replicate n 0)) ∧ Fr [] w w' := by
  obtain ⟨ht, hi, hzs, hsz, hb0⟩ := Tryd.ints_tab
  obtain ⟨i, hi, hz0, hz1, hz2⟩ := info_parts hi
  obtain ⟨w', hr, ho, hg⟩ := run_make_full (P := Tryd.prog) w w.heap.size _ _ i _ 1 ht hi hz0 hz1 .i64 .i64 n (by rw [hz2]; omega) (by unfold maxLen; omega) (Nat.le_refl _)
  refine ⟨w', hr, ?_, (Fr.grown hg)⟩
  have e : (madeCells (Value.int .i64 0).cells (n * 1)).toList = intVs (List.replicate n 0) := by
    rw [Nat.mul_one]
    rw [show (Value.int .i64 0).cells = #[.int .i64 0] from rfl, toList_madeCells_one]
    simp [intVs]
  rw [← e]
  exact ho

theorem wrap64_in {n : Int} (h : In64 n) : wrap64 n = n := by
  unfold In64 at h
  unfold wrap64
  omega

theorem intVs_fill (l : List Int) (k : Nat) (h : k < l.length) : intVs (l.take (k + 1) ++ List.replicate (l.length - (k + 1)) 0) = (intVs (l.take k ++ List.replicate (l.length - k) 0)).set k (.int .i64 l[k]) := by
  unfold intVs
  rw [← List.map_set]
  congr 1
  apply List.ext_getElem?
  intro j
  rcases Nat.lt_trichotomy j k with h1 | rfl | h1
  · rw [List.getElem?_set_ne (by omega), List.getElem?_append_left (by simp; omega), List.getElem?_append_left (by simp; omega), List.getElem?_take_of_lt (by omega), List.getElem?_take_of_lt h1]
  · rw [List.getElem?_set_self (by simp; omega), List.getElem?_append_left (by simp; omega), List.getElem?_take_of_lt (by omega), List.getElem?_eq_getElem h]
  · rw [List.getElem?_set_ne (by omega), List.getElem?_append_right (by simp; omega), List.getElem?_append_right (by simp; omega)]
    simp only [List.length_take, List.getElem?_replicate]
    congr 1
    simp only [eq_iff_iff]
    omega

theorem szInts_any {F : List Nat} (l : List Int) (v : Value) (left : Int) (w : World) (h : Is w F l [v]) (h0 : 0 ≤ left) (h1 : left ≤ 1048576) :
    Calls Tryd.prog 27 #[v, .int .i64 left] w fun e w' => e = .returned (.int .i64 (if left - l.length < 0 then -1 else left - l.length)) ∧ Fr [] w w' := by
  obtain ⟨a, cap, hv, _, hvw, hin, hml⟩ := ints_open h
  obtain rfl := List.cons.inj hv |>.1
  unfold maxLen at hml
  go_enter Tryd.func27, Tryd.ntmps27
  by_cases hl : left - l.length < 0
  · go_wp2
    go_ret
    exact ⟨rfl, Fr.refl _ _⟩
  · go_wp2
    go_ret
    exact ⟨rfl, Fr.refl _ _⟩

theorem eqInts_any {F G : List Nat} (l m : List Int) (v u : Value) (w : World) (h : Is w F l [v]) (h' : Is w G m [u]) :
    Calls Tryd.prog 35 #[v, u] w fun e w' => e = .returned (.bool (decide (l = m))) ∧ Fr [] w w' := by
  obtain ⟨a, cap, hv, _, hvw, hin, hml⟩ := ints_open h
  obtain rfl := List.cons.inj hv |>.1
  obtain ⟨a', cap', hv', _, hvw', hin', hml'⟩ := ints_open h'
  obtain rfl := List.cons.inj hv' |>.1
  unfold maxLen at hml hml'
  go_enter Tryd.func35, Tryd.ntmps35
  by_cases hl : l.length = m.length
  · go_wp2
    go_loopw [5] (fun i wr => ∃ k : Nat, k ≤ l.length ∧ i = .int .i64 k ∧ Fr [] w wr ∧ Hid (∀ j : Nat, j < k → l[j]? = m[j]?)) (fun i _ => l.length - (intOf i).toNat)
    case atStart => exact ⟨0, by omega, rfl, Fr.refl _ _, fun j hj => by omega⟩
    case round =>
      obtain ⟨k, hk, rfl, hf, heq⟩ := hrel
      by_cases hlt : k < l.length
      · obtain ⟨b, o, rfl, hc⟩ := (hvw.fr0 hf).at (by omega)
        obtain ⟨b', o', rfl, hc'⟩ := (hvw'.fr0 hf).at (by omega)
        have hc := hc k (by rw [intVs_length]; exact hlt)
        have hc' := hc' k (by rw [intVs_length]; omega)
        simp only [intVs, List.getElem_map] at hc hc'
        have b1 : (0 : Int) ≤ (k : Int) := by omega
        have b2 : (k : Int) < (l.length : Int) := by omega
        have b3 : (k : Int) < (m.length : Int) := by omega
        go_wp2_with fail
        refine rg_begin (n := 9) (Fr [] wr) (by kernel_rfl) rfl ?_
        have rg0 := (show (Fr [] wr) (World.drew _) from (Fr.refl [] wr).drew)
        refine rg_read (i := 0) (a1 := _) rfl (by kernel_rfl) rfl (by simp) (by intro wq hwq; go_wp2; exact ⟨rfl, rfl⟩) rg0 ?_
        refine rg_read (i := 1) (a1 := _) rfl (by kernel_rfl) rfl (by simp) (by intro wq hwq; go_wp2; exact ⟨rfl, rfl⟩) rg0 ?_
        refine rg_read (i := 2) (a1 := _) rfl (by kernel_rfl) rfl (by simp) (by intro wq hwq; go_wp2; exact ⟨rfl, rfl⟩) rg0 ?_
        refine rg_read (i := 3) (a1 := _) rfl (by kernel_rfl) rfl (by simp) (by intro wq hwq; have q1 := hwq.cell_some hc (by simp); have q2 := hwq.cell_some hc' (by simp); go_wp2; exact ⟨rfl, rfl⟩) rg0 ?_
        refine rg_read (i := 4) (a1 := _) rfl (by kernel_rfl) rfl (by simp) (by intro wq hwq; go_wp2; exact ⟨rfl, rfl⟩) rg0 ?_
        refine rg_read (i := 5) (a1 := _) rfl (by kernel_rfl) rfl (by simp) (by intro wq hwq; go_wp2; exact ⟨rfl, rfl⟩) rg0 ?_
        refine rg_read (i := 6) (a1 := _) rfl (by kernel_rfl) rfl (by simp) (by intro wq hwq; go_wp2; exact ⟨rfl, rfl⟩) rg0 ?_
        refine rg_read (i := 7) (a1 := _) rfl (by kernel_rfl) rfl (by simp) (by intro wq hwq; have q1 := hwq.cell_some hc (by simp); have q2 := hwq.cell_some hc' (by simp); go_wp2; exact ⟨rfl, rfl⟩) rg0 ?_
        refine rg_read (i := 8) (a1 := _) rfl (by kernel_rfl) rfl (by simp) (by intro wq hwq; go_wp2; exact ⟨rfl, rfl⟩) rg0 ?_
        refine rg_done (by kernel_rfl) ?_
        by_cases he : l[k] = m[k]
        · go_wp2
          go_roundw
          case rel => exact ⟨k + 1, by omega, by go_num, hf.drew, upto_step heq.out hlt (by omega) he⟩
          case measure => simp [intOf]; omega
        · go_wp2
          go_ret
          exact ⟨by rw [upto_ne hlt (by omega) he]; rfl, hf.drew⟩
      · go_wp2
        go_ret
        exact ⟨by rw [upto_all hl (by omega) heq.out]; rfl, hf⟩
  · go_wp2
    go_ret
    exact ⟨by simp; intro e; exact hl (by rw [e]), Fr.refl _ _⟩

theorem toInts_any {F : List Nat} (l : List Int) (v : Value) (w : World) (h : Is w F l [v]) (hs : l.length ≤ 1048576) :
    Calls Tryd.prog 31 #[v] w fun e w' => ∃ a c G, e = .returned (.slice a l.length c) ∧ Is w' G l [.slice a l.length c] ∧ New w.heap.size G ∧ Fr [] w w' := by
  obtain ⟨a, cap, hv, _, hvw, hin, hml⟩ := ints_open h
  obtain rfl := List.cons.inj hv |>.1
  go_enter Tryd.func31, Tryd.ntmps31
  obtain ⟨w1, hrun, hown, hf1⟩ := made_ints w l.length (by omega)
  go_wp2
  go_loopw [4] (fun i wr => ∃ k : Nat, k ≤ l.length ∧ i = .int .i64 k ∧ Fr [] w wr ∧ wr.ownsRow w.heap.size 3 1 (.slice (some ⟨w.heap.size, 0, none⟩) l.length l.length) l.length (intVs (l.take k ++ List.replicate (l.length - k) 0))) (fun i _ => l.length - (intOf i).toNat)
  case atStart => exact ⟨0, by omega, rfl, hf1, by simpa using hown⟩
  case round =>
    obtain ⟨k, hk, rfl, hf, hown⟩ := hrel
    by_cases hlt : k < l.length
    · obtain ⟨b, o, rfl, hc⟩ := (hvw.fr0 hf).at (by omega)
      have hc := hc k (by rw [intVs_length]; exact hlt)
      simp only [intVs, List.getElem_map] at hc
      obtain ⟨s1, s2⟩ := own_slot hown k (by simp [intVs]; omega)
      go_wp2
      go_roundw
      case rel =>
        have st := World.ownsRow.stored hown k (.int .i64 l[k])
        exact ⟨k + 1, by omega, by go_num, hf.setCell (.inr (Nat.le_refl _)) _, by rw [intVs_fill l k hlt]; exact st.1⟩
      case measure => simp [intOf]; omega
    · obtain rfl : k = l.length := by omega
      rw [Nat.sub_self, List.replicate_zero, List.append_nil, List.take_length] at hown
      go_wp2
      go_ret
      refine ⟨_, _, _, rfl, ints_shut (ownsRow_view hown) hin (ownsRow_cap hown), ?_, hf⟩
      by_cases hn : l = []
      · simp [hn, New]
      · simp [hn, New, blk]

/-- The numbers that markIntS writes. -/
def marks (k : Int) (n : Nat) : List Int := (List.range n).map fun (j : Nat) => k + j
theorem marks_length (k : Int) (n : Nat) : (marks k n).length = n := by simp [marks]
theorem marks_at (k : Int) (n j : Nat) (h : j < n) : (marks k n)[j]? = some (k + j) := by
  simp [marks, List.getElem?_map, List.getElem?_range h]

theorem marks_fill (k : Int) (l : List Int) (j : Nat) (h : j < l.length) : intVs (marks k (j + 1) ++ l.drop (j + 1)) = (intVs (marks k j ++ l.drop j)).set j (.int .i64 (k + j)) := by
  unfold intVs
  rw [← List.map_set, List.set_append_right _ _ (by rw [marks_length]; omega), marks_length, Nat.sub_self, List.drop_eq_getElem_cons h, List.set_cons_zero]
  congr 1
  simp [marks, List.range_succ]

end Go.Proofs.YteeabcdibpnciaaDoor
