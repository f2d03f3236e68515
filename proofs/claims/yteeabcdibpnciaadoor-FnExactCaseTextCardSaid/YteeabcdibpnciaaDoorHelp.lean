/- Contracts: the laws' own helpers for rows of numbers, bytes and texts, by class search. -/
import Derived.Test.YteeabcdibpnciaaDoorAuto
import Derived.Test.YteeabcdibpnciaaDoorInts
import Derived.ProofKit
namespace Go.Proofs.YteeabcdibpnciaaDoor
attribute [local go_sem ↓] Go.wp_at_zero Go.wp_at_succ
open Go.RowKit Go.ChangeShapes Go.WideShapes
open Rep (Is sz)

theorem list_open {α : Type} [Rep α] {w : World} {F : List Nat} {l : List α} {cs : List Value} (h : Is w F l cs) :
    ∃ a cap cl F', cs = [.slice a l.length cap] ∧ F = (if l = [] then [] else blk a) ++ F' ∧ View w a (sz α) l.length cl ∧ Row w F' l cl ∧ l.length ≤ cap ∧ cap ≤ maxLen := by
  obtain ⟨a, cap, cl, F', rfl, rfl, hv, hr, _, h1, h2⟩ := h
  exact ⟨a, cap, cl, F', rfl, rfl, hv, hr, h1, h2⟩

/-- An element of a view. -/
theorem View.row {α : Type} [Rep α] {w : World} {a : Option Addr} {n : Nat} {cl : List Value} {F : List Nat} {l : List α} (hv : View w a (sz α) n cl) (hr : Row w F l cl) (hn : l.length = n) (h0 : 0 < sz α) (k : Nat) (hk : k < l.length) :
    ∃ b o G cs, a = some ⟨b, o, none⟩ ∧ (∀ x ∈ G, x ∈ F) ∧ Is w G l[k] cs ∧ (∀ j u, cs[j]? = some u → w.cell? ⟨b, o + k * sz α + j, none⟩ = some u ∧ w.frozen? ⟨b, o + k * sz α + j, none⟩ = false) ∧ Old b w := by
  obtain ⟨b, o, rfl, hc⟩ := hv.cells (by omega)
  obtain ⟨G, hG, hI⟩ := hr.at k hk
  have hx : ∀ j u, ((cl.drop (k * sz α)).take (sz α))[j]? = some u → cl[k * sz α + j]? = some u := by
    intro j u hj
    have hl := (List.getElem?_eq_some_iff.1 hj).1
    rw [List.length_take] at hl
    rw [List.getElem?_take_of_lt (by omega), List.getElem?_drop] at hj
    exact hj
  refine ⟨b, o, G, _, rfl, hG, hI, fun j u hj => ?_, ?_⟩
  · have := hc _ u (hx j u hj)
    rwa [show o + (k * sz α + j) = o + k * sz α + j by omega] at this
  · have hlen := Rep.len hI
    have h1 := hx 0 _ (List.getElem?_eq_getElem (by rw [hlen]; exact h0))
    exact ⟨block_lt_of_cell (hc _ _ h1).1⟩

def strsCost (l : List ByteArray) : Nat := l.length + (l.map ByteArray.size).sum
theorem sum_take {α : Type} (f : α → Nat) (l : List α) (k : Nat) (h : k < l.length) : ((l.take (k + 1)).map f).sum = ((l.take k).map f).sum + f l[k] := by
  rw [List.take_succ_eq_append_getElem h, List.map_append, List.sum_append]; simp
theorem sum_take_le {α : Type} (f : α → Nat) (l : List α) (k : Nat) : ((l.take k).map f).sum ≤ (l.map f).sum := by
  conv => rhs; rw [← List.take_append_drop k l, List.map_append, List.sum_append]
  omega
theorem sum_full {α : Type} (f : α → Nat) (l : List α) : ((l.take l.length).map f).sum = (l.map f).sum := by rw [List.take_length]
theorem cost_at {α : Type} (f : α → Nat) {l : List α} {B k : Nat} (h : l.length + (l.map f).sum ≤ B) (hk : k < l.length) : f l[k] ≤ B := by
  have h1 := sum_take f l k hk
  have h2 := sum_take_le f l (k + 1)
  omega

theorem szInts {F : List Nat} {v : Value} (l : List Int) (left : Int) (w : World) (h0 : 0 ≤ left) (h1 : left ≤ 1048576) [h : Shows w F l [v]] :
    Calls Tryd.prog 27 #[v, .int .i64 left] w fun e w' => e = .returned (.int .i64 (left0 left l.length)) ∧ Step w w' :=
  (szInts_any l v left w h.is h0 h1).mono fun _ _ ⟨h1, h2⟩ => ⟨h1, ⟨h2⟩⟩
theorem eqInts {F G : List Nat} {v u : Value} (l m : List Int) (w : World) [h : Shows w F l [v]] [h' : Shows w G m [u]] :
    Calls Tryd.prog 35 #[v, u] w fun e w' => e = .returned (.bool (decide (l = m))) ∧ Step w w' :=
  (eqInts_any l m v u w h.is h'.is).mono fun _ _ ⟨h1, h2⟩ => ⟨h1, ⟨h2⟩⟩
theorem toInts {F : List Nat} {v : Value} (l : List Int) (w : World) (hs : l.length ≤ 1048576) [h : Shows w F l [v]] :
    Calls Tryd.prog 31 #[v] w fun e w' => ∃ a c G, e = .returned (.slice a l.length c) ∧ Known w' G l [.slice a l.length c] ∧ NewF w G ∧ Step w w' :=
  (toInts_any l v w h.is hs).mono fun _ _ ⟨a, c, G, h1, h2, h3, h4⟩ => ⟨a, c, G, h1, ⟨h2⟩, ⟨h3⟩, ⟨h4⟩⟩

set_option maxRecDepth 10000 in
theorem opens_ints : Opens Tryd.prog 23 (List Int) := opens_slice Tryd.underlying23 (by kernel_rfl) Nat.one_pos (opens_int Tryd.underlying3 (by kernel_rfl))

set_option maxRecDepth 10000 in
theorem opens_strs : Opens Tryd.prog 22 (List ByteArray) := opens_slice Tryd.underlying22 (by kernel_rfl) Nat.one_pos (opens_string Tryd.underlying9 (by kernel_rfl))

theorem szStrs {F : List Nat} {v : Value} (l : List ByteArray) (left : Int) (w : World) (h0 : 0 ≤ left) (h1 : left ≤ 1048576) [h : Shows w F l [v]] :
    Calls Tryd.prog 26 #[v, .int .i64 left] w fun e w' => e = .returned (.int .i64 (left0 left (strsCost l))) ∧ Step w w' := by
  obtain ⟨a, cap, hv, _, hvw, hml, hok⟩ := strs_open h.is
  cases hv
  unfold maxLen at hml
  clear h
  have hc : strsCost l = l.length + (l.map ByteArray.size).sum := rfl
  replace hc := hid hc
  go_enter Tryd.func26, Tryd.ntmps26
  by_cases hl : left - l.length < 0
  · go_wp2
    go_ret
    exact ⟨by rw [hc.out, left0_neg (by omega)]; rfl, mkStep⟩
  · go_wp2
    go_loop [1, 5] (fun r i => ∃ k : Nat, k ≤ l.length ∧ i = .int .i64 k ∧ ∃ q : Int, 0 ≤ q ∧ r = .int .i64 q ∧ Hid (q = left - l.length - (((l.take k).map ByteArray.size).sum : Nat))) (fun _ i => l.length - (intOf i).toNat)
    case atStart => exact ⟨0, by omega, rfl, left - l.length, by omega, rfl, hid (by simp)⟩
    case round =>
      obtain ⟨k, hk, rfl, q, hq, rfl, heq⟩ := hrel
      by_cases hlt : k < l.length
      · obtain ⟨b, o, rfl, hcell, _, ho⟩ := hvw.get k hlt (.string l[k]) (by simp [strVs, hlt])
        have h2 := sum_take ByteArray.size l k hlt
        have h3 := sum_take_le ByteArray.size l (k + 1)
        replace h2 := hid h2
        have q9 : q ≤ 1048576 := by have := heq.out; omega
        have q8 : l[k].size ≤ 9223372036854775807 := hok _ (List.getElem_mem hlt)
        by_cases hn : q - l[k].size < 0
        · go_wp2
          go_ret
          exact ⟨by rw [hc.out, left0_neg (by have := h2.out; have := heq.out; omega)]; rfl, mkStep⟩
        · go_wp2
          go_round
          case rel => exact ⟨k + 1, by omega, by go_num, _, by omega, rfl, hid (by have := h2.out; have := heq.out; omega)⟩
          case measure => simp [intOf]; omega
      · obtain rfl : k = l.length := by omega
        have h2 := sum_full ByteArray.size l
        go_wp2
        go_ret
        exact ⟨by rw [hc.out, left0_pos (by have := heq.out; omega)]; exact ret_int (by have := heq.out; omega), mkStep⟩
theorem eqStrs {F G : List Nat} {v u : Value} (l m : List ByteArray) (w : World) [h : Shows w F l [v]] [h' : Shows w G m [u]] :
    Calls Tryd.prog 34 #[v, u] w fun e w' => e = .returned (.bool (decide (l = m))) ∧ Step w w' := by
  obtain ⟨a, cap, hv, _, hvw, hml, hok⟩ := strs_open h.is
  cases hv
  obtain ⟨a', cap', hv', _, hvw', hml', hok'⟩ := strs_open h'.is
  cases hv'
  unfold maxLen at hml hml'
  clear h h'
  go_enter Tryd.func34, Tryd.ntmps34
  by_cases hl : l.length = m.length
  · go_wp2
    have l1 : l.length ≤ m.length := by omega
    have l2 : m.length ≤ l.length := by omega
    clear hl
    go_loopw [5] (fun i wr => ∃ k : Nat, k ≤ l.length ∧ i = .int .i64 k ∧ Step w wr ∧ Hid (∀ j : Nat, j < k → l[j]? = m[j]?)) (fun i _ => l.length - (intOf i).toNat)
    case atStart => exact ⟨0, by omega, rfl, mkStep, fun j hj => by omega⟩
    case round =>
      obtain ⟨k, hk, rfl, st, heq⟩ := hrel
      by_cases hlt : k < l.length
      · obtain ⟨b, o, rfl, hc, _, ho⟩ := hvw.get k hlt (.string l[k]) (by simp [strVs, hlt])
        obtain ⟨b', o', rfl, hc', _, ho'⟩ := hvw'.get k (by omega) (.string m[k]) (by simp [strVs, Nat.lt_of_lt_of_le hlt l1])
        have b1 : (0 : Int) ≤ (k : Int) := by omega
        have b2 : (k : Int) < (l.length : Int) := by omega
        have b3 : (k : Int) < (m.length : Int) := by omega
        by_cases he : l[k] = m[k]
        · have e1 := strne_no he
          have e2 := str_yes he
          go_wp2_with fail
          refine rg_begin0 (n := 9) (by kernel_rfl) rfl fun rg0 => ?_
          refine rg_read (i := 0) (a1 := _) rfl (by kernel_rfl) rfl (by simp) (by intro wq hwq; go_wp2; exact ⟨rfl, rfl⟩) mkStep ?_
          refine rg_read (i := 1) (a1 := _) rfl (by kernel_rfl) rfl (by simp) (by intro wq hwq; go_wp2; exact ⟨rfl, rfl⟩) mkStep ?_
          refine rg_read (i := 2) (a1 := _) rfl (by kernel_rfl) rfl (by simp) (by intro wq hwq; go_wp2; exact ⟨rfl, rfl⟩) mkStep ?_
          refine rg_read (i := 3) (a1 := _) rfl (by kernel_rfl) rfl (by simp) (by intro wq hwq; go_wp2; exact ⟨rfl, rfl⟩) mkStep ?_
          refine rg_read (i := 4) (a1 := _) rfl (by kernel_rfl) rfl (by simp) (by intro wq hwq; go_wp2; exact ⟨rfl, rfl⟩) mkStep ?_
          refine rg_read (i := 5) (a1 := _) rfl (by kernel_rfl) rfl (by simp) (by intro wq hwq; go_wp2; exact ⟨rfl, rfl⟩) mkStep ?_
          refine rg_read (i := 6) (a1 := _) rfl (by kernel_rfl) rfl (by simp) (by intro wq hwq; go_wp2; exact ⟨rfl, rfl⟩) mkStep ?_
          refine rg_read (i := 7) (a1 := _) rfl (by kernel_rfl) rfl (by simp) (by intro wq hwq; go_wp2; exact ⟨rfl, rfl⟩) mkStep ?_
          refine rg_read (i := 8) (a1 := _) rfl (by kernel_rfl) rfl (by simp) (by intro wq hwq; go_wp2; exact ⟨rfl, rfl⟩) mkStep ?_
          refine rg_done (by kernel_rfl) ?_
          go_wp2
          go_roundw
          case rel => exact ⟨k + 1, by omega, by go_num, mkStep, upto_step heq.out hlt (by omega) he⟩
          case measure => simp [intOf]; omega
        · have e1 := strne_yes he
          have e2 := str_no he
          go_wp2_with fail
          refine rg_begin0 (n := 9) (by kernel_rfl) rfl fun rg0 => ?_
          refine rg_read (i := 0) (a1 := _) rfl (by kernel_rfl) rfl (by simp) (by intro wq hwq; go_wp2; exact ⟨rfl, rfl⟩) mkStep ?_
          refine rg_read (i := 1) (a1 := _) rfl (by kernel_rfl) rfl (by simp) (by intro wq hwq; go_wp2; exact ⟨rfl, rfl⟩) mkStep ?_
          refine rg_read (i := 2) (a1 := _) rfl (by kernel_rfl) rfl (by simp) (by intro wq hwq; go_wp2; exact ⟨rfl, rfl⟩) mkStep ?_
          refine rg_read (i := 3) (a1 := _) rfl (by kernel_rfl) rfl (by simp) (by intro wq hwq; go_wp2; exact ⟨rfl, rfl⟩) mkStep ?_
          refine rg_read (i := 4) (a1 := _) rfl (by kernel_rfl) rfl (by simp) (by intro wq hwq; go_wp2; exact ⟨rfl, rfl⟩) mkStep ?_
          refine rg_read (i := 5) (a1 := _) rfl (by kernel_rfl) rfl (by simp) (by intro wq hwq; go_wp2; exact ⟨rfl, rfl⟩) mkStep ?_
          refine rg_read (i := 6) (a1 := _) rfl (by kernel_rfl) rfl (by simp) (by intro wq hwq; go_wp2; exact ⟨rfl, rfl⟩) mkStep ?_
          refine rg_read (i := 7) (a1 := _) rfl (by kernel_rfl) rfl (by simp) (by intro wq hwq; go_wp2; exact ⟨rfl, rfl⟩) mkStep ?_
          refine rg_read (i := 8) (a1 := _) rfl (by kernel_rfl) rfl (by simp) (by intro wq hwq; go_wp2; exact ⟨rfl, rfl⟩) mkStep ?_
          refine rg_done (by kernel_rfl) ?_
          go_wp2
          go_ret
          exact ⟨by rw [upto_ne hlt (by omega) he]; rfl, mkStep⟩
      · go_wp2
        go_ret
        exact ⟨by rw [upto_all (by omega) (by omega) heq.out]; rfl, mkStep⟩
  · go_wp2
    go_ret
    exact ⟨ret_bool (by simp; intro e; exact hl (by rw [e])), mkStep⟩
theorem Tryd.strs_tab : Tryd.prog.underlying 22 = some (.slice 9) ∧ (Tryd.prog.info? 9).map (fun i => (i.zero, i.size, i.bytes)) = some (some (.string ByteArray.empty), 1, 16) ∧ (Value.string ByteArray.empty).cells.size = 1 ∧ 0 < 1 ∧ 0 < 16 :=
  ⟨by kernel_rfl, by kernel_rfl, rfl, by decide, by decide⟩

theorem made_strs (w : World) (n : Nat) (hn : n ≤ 1099511627776) : ∃ w', (Instr.makeSlice 22 (.int .i64 (n : Int)) (.int .i64 (n : Int))).run Tryd.prog w = .ok (.slice (some ⟨w.heap.size, 0, none⟩) n n) w' ∧
    w'.ownsRow w.heap.size 9 1 (.slice (some ⟨w.heap.size, 0, none⟩) n n) n (strVs (List.replicate n ByteArray.empty)) ∧ Fr [] w w' := by
  obtain ⟨ht, hi, hzs, hsz, hb0⟩ := Tryd.strs_tab
  obtain ⟨i, hi, hz0, hz1, hz2⟩ := info_parts hi
  obtain ⟨w', hr, ho, hg⟩ := run_make_full (P := Tryd.prog) w w.heap.size _ _ i _ 1 ht hi hz0 hz1 .i64 .i64 n (by rw [hz2]; omega) (by unfold maxLen; omega) (Nat.le_refl _)
  refine ⟨w', hr, ?_, (Fr.grown hg)⟩
  have e : (madeCells (Value.string ByteArray.empty).cells (n * 1)).toList = strVs (List.replicate n ByteArray.empty) := by
    rw [Nat.mul_one]
    rw [show (Value.string ByteArray.empty).cells = #[.string ByteArray.empty] from rfl, toList_madeCells_one]
    simp [strVs]
  rw [← e]
  exact ho

theorem strVs_fill (l : List ByteArray) (k : Nat) (h : k < l.length) : strVs (l.take (k + 1) ++ List.replicate (l.length - (k + 1)) ByteArray.empty) = (strVs (l.take k ++ List.replicate (l.length - k) ByteArray.empty)).set k (.string l[k]) := by
  unfold strVs
  rw [← List.map_set]
  congr 1
  apply List.ext_getElem?
  intro j
  rcases Nat.lt_trichotomy j k with h1 | rfl | h1
  · rw [List.getElem?_set_ne (by omega), List.getElem?_append_left (by simp; omega), List.getElem?_append_left (by simp; omega), List.getElem?_take_of_lt (by omega), List.getElem?_take_of_lt h1]
  · rw [List.getElem?_set_self (by simp; omega), List.getElem?_append_left (by simp; omega), List.getElem?_take_of_lt (by omega), List.getElem?_eq_getElem h]
  · rw [List.getElem?_set_ne (by omega), List.getElem?_append_right (by simp; omega), List.getElem?_append_right (by simp; omega)]
    simp only [List.length_take, List.getElem?_replicate]
    congr 1
    simp only [eq_iff_iff]
    omega

theorem toStrs {F : List Nat} {v : Value} (l : List ByteArray) (w : World) (hs : strsCost l ≤ 1048576) [h : Shows w F l [v]] :
    Calls Tryd.prog 30 #[v] w fun e w' => ∃ a c G, e = .returned (.slice a l.length c) ∧ Known w' G l [.slice a l.length c] ∧ NewF w G ∧ Step w w' := by
  obtain ⟨a, cap, hv, _, hvw, hml, hok⟩ := strs_open h.is
  cases hv
  clear h
  have hl : l.length ≤ 1048576 := by unfold strsCost at hs; omega
  clear hs
  go_enter Tryd.func30, Tryd.ntmps30
  obtain ⟨w1, hrun, hown, hf1⟩ := made_strs w l.length (by omega)
  have s1 : Step w w1 := ⟨hf1⟩
  go_wp2
  go_loopw [4] (fun i wr => ∃ k : Nat, k ≤ l.length ∧ i = .int .i64 k ∧ Step w wr ∧ wr.ownsRow w.heap.size 9 1 (.slice (some ⟨w.heap.size, 0, none⟩) l.length l.length) l.length (strVs (l.take k ++ List.replicate (l.length - k) ByteArray.empty))) (fun i _ => l.length - (intOf i).toNat)
  case atStart => exact ⟨0, by omega, rfl, mkStep, by simpa using hown⟩
  case round =>
    obtain ⟨k, hk, rfl, st, hown⟩ := hrel
    by_cases hlt : k < l.length
    · obtain ⟨b, o, rfl, hc, _, ho⟩ := hvw.get k hlt (.string l[k]) (by simp [strVs, hlt])
      obtain ⟨s1, s2⟩ := own_slot hown k (by simp [strVs]; omega)
      go_wp2
      go_roundw
      case rel =>
        have st := World.ownsRow.stored hown k (.string l[k])
        exact ⟨k + 1, by omega, by go_num, mkStep, by rw [strVs_fill l k hlt]; exact st.1⟩
      case measure => simp [intOf]; omega
    · obtain rfl : k = l.length := by omega
      rw [Nat.sub_self, List.replicate_zero, List.append_nil, List.take_length] at hown
      go_wp2
      go_ret
      refine ⟨_, _, _, rfl, ⟨strs_shut (ownsRow_view hown) (ownsRow_cap hown) hok⟩, ⟨?_⟩, mkStep⟩
      by_cases hn : l = []
      · simp [hn, New]
      · simp [hn, New, blk]
end Go.Proofs.YteeabcdibpnciaaDoor
