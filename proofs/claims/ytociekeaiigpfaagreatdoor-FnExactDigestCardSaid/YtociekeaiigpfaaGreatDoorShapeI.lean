/- Contracts: impl.ShapeOk. -/
import Derived.Test.YtociekeaiigpfaaGreatDoorShape
namespace Go.Proofs.YtociekeaiigpfaaGreatDoor
attribute [local go_sem ↓] Go.wp_at_zero Go.wp_at_succ
open Go.RowKit
open Rep (Is sz)

def notz (n : Int) : Bool := decide (¬ n = 0)
set_option maxHeartbeats 4000000 in
theorem ishape {F : List Nat} {v : Value} (l : List InsD) (w : World) (hl : l.length ≤ 1048576) [h : Shows w F l [v]] :
    Calls Tryz.prog 120 #[v] w fun e w' => e = .returned (.bool (shapeB l)) ∧ Step w w' := by
  obtain ⟨a, cap0, cl, FF, hv, _, hvw, hr, hml⟩ := list_open h.is
  cases hv
  clear h
  unfold maxLen at hml
  go_enter Tryz.func120, Tryz.ntmps120
  go_wp2
  go_loopw [3, 10] (fun o i wr => ∃ (k : Nat) (ao : Option Addr) (cap : Nat) (os : List Int), k ≤ l.length ∧ i = .int .i64 k ∧ o = .slice ao os.length cap ∧ os.length ≤ k ∧ Step w wr ∧ wr.ownsRow w.heap.size 3 1 (.slice ao os.length cap) os.length (os.map fun n => .int .i64 n) ∧ Hid (shapeB l = shGo (os.map notz) (l.drop k))) (fun _ i _ => l.length - (intOf i).toNat)
  case atStart => exact ⟨0, _, _, [], by omega, rfl, rfl, by simp, mkStep, ⟨rfl, .inl ⟨rfl, rfl⟩⟩, hid rfl⟩
  case round =>
    obtain ⟨k, ao, cap, os, hk, rfl, rfl, hos, st, hown, heq⟩ := hrel
    by_cases hlt : k < l.length
    · have hon : ∀ t, shStep (os.map notz) l[k].op = some t → shapeB l = shGo t (l.drop (k + 1)) := fun t q => heq.out.trans (shGo_on hlt q)
      have hno : shStep (os.map notz) l[k].op = none → shapeB l = false := fun q => heq.out.trans (shGo_no hlt q)
      clear hk
      obtain ⟨b, o, G, cs, rfl, hG, hI, hc, ho⟩ := hvw.row hr rfl (by decide) k hlt
      have hI0 := hI
      obtain ⟨rfl, rfl, i0, i1, i2⟩ := ins_open hI0
      have ke : Known w _ l[k] _ := ⟨hI⟩
      have c0 := (hc 0 _ rfl).1
      replace c0 : w.cell? ⟨b, o + k * 3, none⟩ = _ := c0
      have c1 := (hc 1 _ rfl).1
      replace c1 : w.cell? ⟨b, o + k * 3 + 1, none⟩ = _ := c1
      have c2 := (hc 2 _ rfl).1
      replace c2 : w.cell? ⟨b, o + k * 3 + 2, none⟩ = _ := c2
      clear hc
      by_cases hk1 : kindOf l[k].op = 1
      · have hq := hid (hon _ (shape_begin hk1))
        have n5 : (l[k].op == 5) = false := by have := kind_cases l[k].op; exact beq_eq_false_iff_ne.2 (by omega)
        have n11 : (l[k].op == 11) = false := by have := kind_cases l[k].op; exact beq_eq_false_iff_ne.2 (by omega)
        by_cases h4 : l[k].op = 4
        · have n4 : (l[k].op == 4) = true := beq_iff_eq.2 h4
          have e1 : (os ++ [(1 : Int)]).length = os.length + 1 := by simp
          have e2 : os.map notz ++ [decide (l[k].op = 4)] = (os ++ [(1 : Int)]).map notz := by simp [notz, h4]
          rw [e2] at hq
          replace e2 := hid e2
          replace h4 := hid h4
          clear hon hno
          have nbx : NotIn wr.heap.size (blk ao) := ⟨fun hx => by have := (ownsRow_blk hown _ hx).2; omega⟩
          have sub1 : SubX w (blk ao) [] := ⟨fun x hx => .inr (ownsRow_blk hown x hx).1⟩
          go_wp2_with (first | (go_at_call 162; (with_reducible refine Calls.mono (ibegins ..) ?_); rintro e wk ⟨rfl, st2⟩) | (at_builtin; go_must (refine app_rowsY iv1 1 (fun _ => rfl) iv1_one rfl (.tmp 23) (.tmp 25) 74 rfl 3 (.int .i64 0) 8 Tryz.ints_tab w ao cap os (1 : Int) rfl (iv1_own (own_keep hown)) wk.heap.size 1 rfl (fun j u hj => by obtain ⟨rfl, rfl⟩ := iv1_at hj; exact ⟨by go_simp, by go_simp⟩) (by omega) ?_); intro ao1 cap1 w1 hown1 sx1 hb1))
          go_roundw
          case rel => exact ⟨k + 1, ao1, cap1, os ++ [(1 : Int)], by omega, by go_num, by rw [e1], by rw [e1]; omega, mkStep, by rw [e1, ← iv1_map]; exact hown1, hq⟩
          case measure => simp [intOf]; omega
        · have n4 : (l[k].op == 4) = false := beq_eq_false_iff_ne.2 h4
          have e1 : (os ++ [(0 : Int)]).length = os.length + 1 := by simp
          have e2 : os.map notz ++ [decide (l[k].op = 4)] = (os ++ [(0 : Int)]).map notz := by simp [notz, h4]
          rw [e2] at hq
          replace e2 := hid e2
          replace h4 := hid h4
          clear hon hno
          have nbx : NotIn wr.heap.size (blk ao) := ⟨fun hx => by have := (ownsRow_blk hown _ hx).2; omega⟩
          have sub1 : SubX w (blk ao) [] := ⟨fun x hx => .inr (ownsRow_blk hown x hx).1⟩
          go_wp2_with (first | (go_at_call 162; (with_reducible refine Calls.mono (ibegins ..) ?_); rintro e wk ⟨rfl, st2⟩) | (at_builtin; go_must (refine app_rowsY iv1 1 (fun _ => rfl) iv1_one rfl (.tmp 23) (.tmp 25) 74 rfl 3 (.int .i64 0) 8 Tryz.ints_tab w ao cap os (0 : Int) rfl (iv1_own (own_keep hown)) wk.heap.size 1 rfl (fun j u hj => by obtain ⟨rfl, rfl⟩ := iv1_at hj; exact ⟨by go_simp, by go_simp⟩) (by omega) ?_); intro ao1 cap1 w1 hown1 sx1 hb1))
          go_roundw
          case rel => exact ⟨k + 1, ao1, cap1, os ++ [(0 : Int)], by omega, by go_num, by rw [e1], by rw [e1]; omega, mkStep, by rw [e1, ← iv1_map]; exact hown1, hq⟩
          case measure => simp [intOf]; omega
      have hk0 : decide (kindOf l[k].op = 1) = false := decide_eq_false hk1
      by_cases h5 : l[k].op = 5
      · have n5 : (l[k].op == 5) = true := beq_iff_eq.2 h5
        have n11 : (l[k].op == 11) = false := beq_eq_false_iff_ne.2 (by omega)
        rcases nil_or_snoc os with rfl | ⟨os', x, rfl⟩
        · have hz := hid (hno (shape_else_no hk1 h5 (by simp)))
          replace h5 := hid h5
          clear hon hno
          simp only [List.length_nil] at hown ⊢
          go_wp2_with (first | (go_at_call 162; (with_reducible refine Calls.mono (ibegins ..) ?_); rintro e wk ⟨rfl, st⟩))
          go_ret
          exact ⟨by rw [hz.out]; rfl, mkStep⟩
        · obtain ⟨g, rfl, hg1, hg2⟩ := own_addr hown (by simp)
          have hown2 : wr.ownsRow w.heap.size 3 1 (.slice (some ⟨g, 0, none⟩) (os'.length + 1) cap) (os'.length + 1) ((os' ++ [x]).map fun n => .int .i64 n) := by simpa using hown
          obtain ⟨c9, f9⟩ := own_slot hown2 os'.length (by simp)
          replace c9 : wr.cell? ⟨g, os'.length, none⟩ = some (.int .i64 x) := by simpa using c9
          have og : Old g wr := ⟨hg2⟩
          have nw : NewB w g := ⟨hg1⟩
          have e1 : (os' ++ [x]).length = os'.length + 1 := by simp
          simp only [e1] at hos ⊢
          have nb : Arg g wr := ⟨hg2⟩
          by_cases hx : ¬ x = 0
          · have hq := hid (hon _ (by rw [List.map_append, List.map_singleton, show notz x = true from decide_eq_true hx]; exact shape_else hk1 h5))
            have n4 : (x == 0) = false := beq_eq_false_iff_ne.2 hx
            replace h5 := hid h5
            replace hx := hid hx
            clear hon hno hown e1
            go_wp2_with (first | (go_at_call 162; (with_reducible refine Calls.mono (ibegins ..) ?_); rintro e wk ⟨rfl, st⟩))
            have own9 := own_set os'.length (.int .i64 0) (own_keep (w := wk) hown2) (by omega)
            have e2 : ((os' ++ [x]).map fun n => Value.int .i64 n).set os'.length (.int .i64 0) = (os' ++ [0]).map fun n => Value.int .i64 n := by simp
            rw [e2] at own9
            have e1 : (os' ++ [(0 : Int)]).length = os'.length + 1 := by simp
            go_roundw
            case rel => exact ⟨k + 1, some ⟨g, 0, none⟩, cap, os' ++ [0], by omega, by go_num, by rw [e1], by rw [e1]; omega, mkStep, by rw [e1]; exact own9, by rw [List.map_append]; exact hq⟩
            case measure => simp [intOf]; omega
          · have hz := hid (hno (shape_else_no hk1 h5 (by simp [notz, hx])))
            have n4 : (x == 0) = true := beq_iff_eq.2 (Decidable.not_not.1 hx)
            replace h5 := hid h5
            replace hx := hid hx
            clear hon hno hown e1
            go_wp2_with (first | (go_at_call 162; (with_reducible refine Calls.mono (ibegins ..) ?_); rintro e wk ⟨rfl, st⟩))
            go_ret
            exact ⟨by rw [hz.out]; rfl, mkStep⟩
      have n5 : (l[k].op == 5) = false := beq_eq_false_iff_ne.2 h5
      by_cases h11 : l[k].op = 11
      · have n11 : (l[k].op == 11) = true := beq_iff_eq.2 h11
        rcases nil_or_snoc os with rfl | ⟨os', x, rfl⟩
        · have hz := hid (hno (shape_end_no hk1 h11))
          replace h11 := hid h11
          clear hon hno
          simp only [List.length_nil] at hown ⊢
          go_wp2_with (first | (go_at_call 162; (with_reducible refine Calls.mono (ibegins ..) ?_); rintro e wk ⟨rfl, st⟩))
          go_ret
          exact ⟨by rw [hz.out]; rfl, mkStep⟩
        · obtain ⟨g, rfl, hg1, hg2⟩ := own_addr hown (by simp)
          have hown2 := own_pre os'.length (show wr.ownsRow w.heap.size 3 1 (.slice (some ⟨g, 0, none⟩) (os'.length + 1) cap) (os'.length + 1) ((os' ++ [x]).map fun n => .int .i64 n) by simpa using hown) (by omega)
          have e2 : ((os' ++ [x]).map fun n => Value.int .i64 n).take (os'.length * 1) = os'.map fun n => Value.int .i64 n := by simp
          rw [e2] at hown2
          have hcap := ownsRow_cap hown
          unfold maxLen at hcap
          have e1 : (os' ++ [x]).length = os'.length + 1 := by simp
          simp only [e1] at hos hcap ⊢
          have hq := hid (hon _ (by rw [List.map_append, List.map_singleton]; exact shape_end hk1 h11))
          replace h11 := hid h11
          clear hon hno hown e1 e2
          go_wp2_with (first | (go_at_call 162; (with_reducible refine Calls.mono (ibegins ..) ?_); rintro e wk ⟨rfl, st⟩))
          go_roundw
          case rel => exact ⟨k + 1, some ⟨g, 0, none⟩, cap, os', by omega, by go_num, by go_num, by omega, mkStep, own_keep hown2, hq⟩
          case measure => simp [intOf]; omega
      have n11 : (l[k].op == 11) = false := beq_eq_false_iff_ne.2 h11
      have hq := hid (hon _ (shape_other hk1 h5 h11))
      clear hon hno
      go_wp2_with (first | (go_at_call 162; (with_reducible refine Calls.mono (ibegins ..) ?_); rintro e wk ⟨rfl, st⟩))
      go_roundw
      case rel => exact ⟨k + 1, ao, cap, os, by omega, by go_num, rfl, by omega, mkStep, own_keep hown, hq⟩
      case measure => simp [intOf]; omega
    · have hz := hid (show shapeB l = (os.map notz).isEmpty by rw [heq.out, List.drop_of_length_le (by omega)]; rfl)
      go_wp2
      go_ret
      exact ⟨ret_bool (by rw [hz.out]; simp), mkStep⟩
end Go.Proofs.YtociekeaiigpfaaGreatDoor
