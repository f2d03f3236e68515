/- Contracts: the laws' own helpers for rows of numbers. -/
import Derived.Test.YtociekeaiigpfaaGreatDoorRep
import Derived.Test.YtociekeaiigpfaaGreatDoorRegion
namespace Go.Proofs.YtociekeaiigpfaaGreatDoor
attribute [local go_sem ↓] Go.wp_at_zero Go.wp_at_succ
open Go.RowKit
open Rep (Is sz)

theorem upto_step {α : Type} {l m : List α} {k : Nat} (h : ∀ j : Nat, j < k → l[j]? = m[j]?) (hl : k < l.length) (hm : k < m.length) (he : l[k] = m[k]) : ∀ j : Nat, j < k + 1 → l[j]? = m[j]? := by
  intro j hj
  rcases Nat.lt_or_ge j k with h1 | h1
  · exact h j h1
  · obtain rfl : j = k := by omega
    rw [List.getElem?_eq_getElem hl, List.getElem?_eq_getElem hm, he]

theorem upto_ne {α : Type} [DecidableEq α] {l m : List α} {k : Nat} (hl : k < l.length) (hm : k < m.length) (he : l[k] ≠ m[k]) : decide (l = m) = false := by
  rw [decide_eq_false_iff_not]
  rintro rfl
  exact he rfl

theorem upto_all {α : Type} [DecidableEq α] {l m : List α} {k : Nat} (hl : l.length = m.length) (hk : l.length ≤ k) (h : ∀ j : Nat, j < k → l[j]? = m[j]?) : decide (l = m) = true := by
  rw [decide_eq_true_iff]
  apply List.ext_getElem?
  intro j
  rcases Nat.lt_or_ge j k with h1 | h1
  · exact h j h1
  · rw [List.getElem?_eq_none (by omega), List.getElem?_eq_none (by omega)]

theorem Tryz.ints_tab : Tryz.prog.underlying 74 = some (.slice 3) ∧ (Tryz.prog.info? 3).map (fun i => (i.zero, i.size, i.bytes)) = some (some (.int .i64 0), 1, 8) ∧ (Value.int .i64 0).cells.size = 1 ∧ 0 < 1 ∧ 0 < 8 :=
  ⟨by kernel_rfl, by kernel_rfl, rfl, by decide, by decide⟩

theorem made_ints (w : World) (n : Nat) (hn : n ≤ 1099511627776) : ∃ w', (Instr.makeSlice 74 (.int .i64 (n : Int)) (.int .i64 (n : Int))).run Tryz.prog w = .ok (.slice (some ⟨w.heap.size, 0, none⟩) n n) w' ∧
    w'.ownsRow w.heap.size 3 1 (.slice (some ⟨w.heap.size, 0, none⟩) n n) n (intVs (List.replicate n 0)) ∧ Fr [] w w' := by
  obtain ⟨ht, hi, hzs, hsz, hb0⟩ := Tryz.ints_tab
  obtain ⟨i, hi, hz0, hz1, hz2⟩ := info_parts hi
  obtain ⟨w', hr, ho, hg⟩ := run_make_full (P := Tryz.prog) w w.heap.size _ _ i _ 1 ht hi hz0 hz1 .i64 .i64 n (by rw [hz2]; omega) (by unfold maxLen; omega) (Nat.le_refl _)
  refine ⟨w', hr, ?_, (Fr.grown hg)⟩
  have e : (madeCells (Value.int .i64 0).cells (n * 1)).toList = intVs (List.replicate n 0) := by
    rw [Nat.mul_one]
    rw [show (Value.int .i64 0).cells = #[.int .i64 0] from rfl, toList_madeCells_one]
    simp [intVs]
  rw [← e]
  exact ho

theorem wrap64_in {n : Int} (h : In64 n) : wrap64 n = n := by
  unfold In64 at h
  unfold wrap64
  omega

theorem intVs_fill (l : List Int) (k : Nat) (h : k < l.length) : intVs (l.take (k + 1) ++ List.replicate (l.length - (k + 1)) 0) = (intVs (l.take k ++ List.replicate (l.length - k) 0)).set k (.int .i64 l[k]) := by
  unfold intVs
  rw [← List.map_set]
  congr 1
  apply List.ext_getElem?
  intro j
  rcases Nat.lt_trichotomy j k with h1 | rfl | h1
  · rw [List.getElem?_set_ne (by omega), List.getElem?_append_left (by simp; omega), List.getElem?_append_left (by simp; omega), List.getElem?_take_of_lt (by omega), List.getElem?_take_of_lt h1]
  · rw [List.getElem?_set_self (by simp; omega), List.getElem?_append_left (by simp; omega), List.getElem?_take_of_lt (by omega), List.getElem?_eq_getElem h]
  · rw [List.getElem?_set_ne (by omega), List.getElem?_append_right (by simp; omega), List.getElem?_append_right (by simp; omega)]
    simp only [List.length_take, List.getElem?_replicate]
    congr 1
    simp only [eq_iff_iff]
    omega

theorem eqInts_any {F G : List Nat} (l m : List Int) (v u : Value) (w : World) (h : Is w F l [v]) (h' : Is w G m [u]) :
    Calls Tryz.prog 108 #[v, u] w fun e w' => e = .returned (.bool (decide (l = m))) ∧ Fr [] w w' := by
  obtain ⟨a, cap, hv, _, hvw, hin, hml⟩ := ints_open h
  obtain rfl := List.cons.inj hv |>.1
  obtain ⟨a', cap', hv', _, hvw', hin', hml'⟩ := ints_open h'
  obtain rfl := List.cons.inj hv' |>.1
  unfold maxLen at hml hml'
  go_enter Tryz.func108, Tryz.ntmps108
  by_cases hl : l.length = m.length
  · go_wp2
    go_loopw [5] (fun i wr => ∃ k : Nat, k ≤ l.length ∧ i = .int .i64 k ∧ Fr [] w wr ∧ Hid (∀ j : Nat, j < k → l[j]? = m[j]?)) (fun i _ => l.length - (intOf i).toNat)
    case atStart => exact ⟨0, by omega, rfl, Fr.refl _ _, fun j hj => by omega⟩
    case round =>
      obtain ⟨k, hk, rfl, hf, heq⟩ := hrel
      by_cases hlt : k < l.length
      · obtain ⟨b, o, rfl, hc⟩ := (hvw.fr0 hf).at (by omega)
        obtain ⟨b', o', rfl, hc'⟩ := (hvw'.fr0 hf).at (by omega)
        have hc := hc k (by rw [intVs_length]; exact hlt)
        have hc' := hc' k (by rw [intVs_length]; omega)
        simp only [intVs, List.getElem_map] at hc hc'
        have b1 : (0 : Int) ≤ (k : Int) := by omega
        have b2 : (k : Int) < (l.length : Int) := by omega
        have b3 : (k : Int) < (m.length : Int) := by omega
        go_wp2_with fail
        refine rg_begin (n := 9) (Fr [] wr) (by kernel_rfl) rfl ?_
        have rg0 := (show (Fr [] wr) (World.drew _) from (Fr.refl [] wr).drew)
        refine rg_read (i := 0) (a1 := _) rfl (by kernel_rfl) rfl (by simp) (by intro wq hwq; go_wp2; exact ⟨rfl, rfl⟩) rg0 ?_
        refine rg_read (i := 1) (a1 := _) rfl (by kernel_rfl) rfl (by simp) (by intro wq hwq; go_wp2; exact ⟨rfl, rfl⟩) rg0 ?_
        refine rg_read (i := 2) (a1 := _) rfl (by kernel_rfl) rfl (by simp) (by intro wq hwq; go_wp2; exact ⟨rfl, rfl⟩) rg0 ?_
        refine rg_read (i := 3) (a1 := _) rfl (by kernel_rfl) rfl (by simp) (by intro wq hwq; have q1 := hwq.cell_some hc (by simp); have q2 := hwq.cell_some hc' (by simp); go_wp2; exact ⟨rfl, rfl⟩) rg0 ?_
        refine rg_read (i := 4) (a1 := _) rfl (by kernel_rfl) rfl (by simp) (by intro wq hwq; go_wp2; exact ⟨rfl, rfl⟩) rg0 ?_
        refine rg_read (i := 5) (a1 := _) rfl (by kernel_rfl) rfl (by simp) (by intro wq hwq; go_wp2; exact ⟨rfl, rfl⟩) rg0 ?_
        refine rg_read (i := 6) (a1 := _) rfl (by kernel_rfl) rfl (by simp) (by intro wq hwq; go_wp2; exact ⟨rfl, rfl⟩) rg0 ?_
        refine rg_read (i := 7) (a1 := _) rfl (by kernel_rfl) rfl (by simp) (by intro wq hwq; have q1 := hwq.cell_some hc (by simp); have q2 := hwq.cell_some hc' (by simp); go_wp2; exact ⟨rfl, rfl⟩) rg0 ?_
        refine rg_read (i := 8) (a1 := _) rfl (by kernel_rfl) rfl (by simp) (by intro wq hwq; go_wp2; exact ⟨rfl, rfl⟩) rg0 ?_
        refine rg_done (by kernel_rfl) ?_
        by_cases he : l[k] = m[k]
        · go_wp2
          go_roundw
          case rel => exact ⟨k + 1, by omega, by go_num, hf.drew, upto_step heq.out hlt (by omega) he⟩
          case measure => simp [intOf]; omega
        · go_wp2
          go_ret
          exact ⟨by rw [upto_ne hlt (by omega) he]; rfl, hf.drew⟩
      · go_wp2
        go_ret
        exact ⟨by rw [upto_all hl (by omega) heq.out]; rfl, hf⟩
  · go_wp2
    go_ret
    exact ⟨by simp; intro e; exact hl (by rw [e]), Fr.refl _ _⟩

theorem heldInts_any {F : List Nat} (l : List Int) (v : Value) (k0 : Int) (w : World) (h : Is w F l [v]) (hk0 : In64 (k0 + l.length)) (hk1 : In64 k0) (hl : ∀ j : Nat, j < l.length → l[j]? = some (k0 + j)) :
    Calls Tryz.prog 47 #[v, .int .i64 k0] w fun e w' => e = .returned (.int .i64 (k0 + l.length)) ∧ Fr [] w w' := by
  obtain ⟨a, cap, hv, _, hvw, hin, hml⟩ := ints_open h
  obtain rfl := List.cons.inj hv |>.1
  unfold maxLen at hml
  go_enter Tryz.func47, Tryz.ntmps47
  go_wp2
  go_loopw [1, 5] (fun c i wr => ∃ k : Nat, k ≤ l.length ∧ i = .int .i64 k ∧ c = .int .i64 (k0 + k) ∧ Fr [] w wr) (fun _ i _ => l.length - (intOf i).toNat)
  case atStart => exact ⟨0, by omega, rfl, by simp, Fr.refl _ _⟩
  case round =>
    obtain ⟨k, hk, rfl, rfl, hf⟩ := hrel
    by_cases hlt : k < l.length
    · obtain ⟨b, o, rfl, hc⟩ := (hvw.fr0 hf).at (by omega)
      have hc := hc k (by rw [intVs_length]; exact hlt)
      have hlk := hl k hlt
      rw [List.getElem?_eq_getElem hlt] at hlk
      have hlk := Option.some.inj hlk
      simp only [intVs, List.getElem_map, hlk] at hc
      go_wp2
      go_roundw
      case rel => exact ⟨k + 1, by omega, by go_num, by unfold In64 at hk0 hk1; rw [wrap64_in (by unfold In64; omega)]; go_num, hf⟩
      case measure => simp [intOf]; omega
    · obtain rfl : k = l.length := by omega
      go_wp2
      go_ret
      exact ⟨rfl, hf⟩

/-- The numbers that markIntS writes. -/
def marks (k : Int) (n : Nat) : List Int := (List.range n).map fun (j : Nat) => k + j
theorem marks_length (k : Int) (n : Nat) : (marks k n).length = n := by simp [marks]
theorem marks_at (k : Int) (n j : Nat) (h : j < n) : (marks k n)[j]? = some (k + j) := by
  simp [marks, List.getElem?_map, List.getElem?_range h]

theorem marks_fill (k : Int) (l : List Int) (j : Nat) (h : j < l.length) : intVs (marks k (j + 1) ++ l.drop (j + 1)) = (intVs (marks k j ++ l.drop j)).set j (.int .i64 (k + j)) := by
  unfold intVs
  rw [← List.map_set, List.set_append_right _ _ (by rw [marks_length]; omega), marks_length, Nat.sub_self, List.drop_eq_getElem_cons h, List.set_cons_zero]
  congr 1
  simp [marks, List.range_succ]

theorem markInts_any {F : List Nat} (l : List Int) (v : Value) (k0 : Int) (w : World) (h : Is w F l [v]) (hk0 : In64 (k0 + l.length)) (hk1 : In64 k0) :
    Calls Tryz.prog 45 #[v, .int .i64 k0] w fun e w' => e = .returned (.int .i64 (k0 + l.length)) ∧ Fr F w w' ∧ Is w' F (marks k0 l.length) [v] := by
  obtain ⟨a, cap, hv, hF, hvw, hin, hml⟩ := ints_open h
  obtain rfl := List.cons.inj hv |>.1
  have hml2 := hml
  unfold maxLen at hml
  go_enter Tryz.func45, Tryz.ntmps45
  go_wp2
  go_loopw [1, 5] (fun c i wr => ∃ k : Nat, k ≤ l.length ∧ i = .int .i64 k ∧ c = .int .i64 (k0 + k) ∧ Fr F w wr ∧ View wr a 1 l.length (intVs (marks k0 k ++ l.drop k))) (fun _ i _ => l.length - (intOf i).toNat)
  case atStart => exact ⟨0, by omega, rfl, by simp, Fr.refl _ _, by simpa [marks] using hvw⟩
  case round =>
    obtain ⟨k, hk, rfl, rfl, hf, hvr⟩ := hrel
    by_cases hlt : k < l.length
    · obtain ⟨b, o, rfl, hc⟩ := hvr.slot (by omega)
      obtain ⟨s1, s2⟩ := hc k (by simp [intVs, marks_length]; omega)
      have hst := hid (hvr.store k (by simp [intVs, marks_length]; omega) (.int .i64 (k0 + k)))
      have hF2 : b ∈ F := by rw [hF, if_neg (by intro e; subst e; simp at hlt)]; simp [blk]
      go_wp2
      go_roundw
      case rel =>
        refine ⟨k + 1, by omega, by go_num, by unfold In64 at hk0 hk1; rw [wrap64_in (by unfold In64; omega)]; go_num, hf.setCell (.inl hF2) _, ?_⟩
        rw [marks_fill k0 l k hlt]
        exact hst.out
      case measure => simp [intOf]; omega
    · obtain rfl : k = l.length := by omega
      rw [List.drop_length, List.append_nil] at hvr
      go_wp2
      go_ret
      refine ⟨rfl, hf, ?_⟩
      have hin2 : ∀ n ∈ marks k0 l.length, In64 n := by
        intro n hn
        simp only [marks, List.mem_map, List.mem_range] at hn
        obtain ⟨j, hj, rfl⟩ := hn
        unfold In64 at hk0 hk1 ⊢
        omega
      have hF3 : F = if marks k0 l.length = [] then [] else blk a := by
        rw [hF]
        congr 1
        simp [marks]
      have he : Value.slice a l.length cap = .slice a (marks k0 l.length).length cap := by rw [marks_length]
      rw [hF3, he]
      exact ints_shut (by rw [marks_length]; exact hvr) hin2 (by rw [marks_length]; exact hml2)
end Go.Proofs.YtociekeaiigpfaaGreatDoor
