/- Contracts: ShapeOk, both sides. -/
import Derived.Test.YtociekeaiigpfaaGreatDoorInsOk
import Derived.Test.YtociekeaiigpfaaGreatDoorInsS
import Derived.Test.YtociekeaiigpfaaGreatDoorRow
import Derived.Test.YtociekeaiigpfaaGreatDoorMut
import Derived.Test.YtociekeaiigpfaaGreatDoorAppY
namespace Go.Proofs.YtociekeaiigpfaaGreatDoor
attribute [local go_sem ↓] Go.wp_at_zero Go.wp_at_succ
open Go.RowKit
open Rep (Is sz)

theorem sbegins (op : Int) (w : World) : Calls Tryz.prog 211 #[.int .i64 op] w fun e w' => e = .returned (.bool (decide (kindOf op = 1))) ∧ Step w w' := by have hc := kind_cases op; obtain ⟨k, hk⟩ : ∃ k, k = kindOf op := ⟨_, rfl⟩; rw [← hk] at hc ⊢; clear hk; go_enter Tryz.func211, Tryz.ntmps211; (rcases hc with ⟨rfl, h⟩ | ⟨rfl, h⟩ | ⟨rfl, h⟩ | ⟨rfl, h⟩ | ⟨rfl, h⟩); all_goals (go_wp2; all_goals (go_ret; exact ⟨ret_bool (by simp <;> omega), mkStep⟩))

theorem own_addr {w : World} {B : Nat} {e : TypeId} {sz n cap : Nat} {a : Option Addr} {xs : List Value} (h : w.ownsRow B e sz (.slice a n cap) n xs) (hn : 0 < n) : ∃ g, a = some ⟨g, 0, none⟩ ∧ B ≤ g ∧ g < w.heap.size := by
  rcases h.2 with ⟨hv, rfl⟩ | ⟨g, cap', cur, hv, hb, hg, _⟩
  · omega
  · simp only [Value.slice.injEq] at hv
    exact ⟨g, hv.1, hb, (Array.getElem?_eq_some_iff.1 hg).1⟩
theorem own_pre {w : World} {B g : Nat} {e : TypeId} {sz n cap : Nat} {xs : List Value} (m : Nat) (h : w.ownsRow B e sz (.slice (some ⟨g, 0, none⟩) n cap) n xs) (hm : m ≤ n) : w.ownsRow B e sz (.slice (some ⟨g, 0, none⟩) m cap) m (xs.take (m * sz)) := by
  refine ⟨by rw [List.length_take, h.1]; exact Nat.min_eq_left (Nat.mul_le_mul_right _ hm), ?_⟩
  rcases h.2 with ⟨hv, rfl⟩ | ⟨g', cap', cur, hv, hb, hg, h1, h2, h3, h4⟩
  · simp at hv
  · simp only [Value.slice.injEq] at hv
    obtain ⟨hg', _, rfl⟩ := hv
    refine .inr ⟨g', cap, cur, by rw [hg'], hb, hg, by omega, h2, h3, ?_⟩
    rw [← h4, List.take_take, Nat.min_eq_left (Nat.mul_le_mul_right _ hm)]
theorem own_set {w : World} {B g : Nat} {e : TypeId} {n cap : Nat} {xs : List Value} (j : Nat) (v : Value) (h : w.ownsRow B e 1 (.slice (some ⟨g, 0, none⟩) n cap) n xs) (hj : j < n) : (w.setCell ⟨g, j, none⟩ v).ownsRow B e 1 (.slice (some ⟨g, 0, none⟩) n cap) n (xs.set j v) := by
  refine ⟨by rw [List.length_set]; exact h.1, ?_⟩
  rcases h.2 with ⟨hv, rfl⟩ | ⟨g', cap', cur, hv, hb, hg, h1, h2, h3, h4⟩
  · simp at hv
  · simp only [Value.slice.injEq, Option.some.injEq, Addr.mk.injEq] at hv
    obtain ⟨⟨rfl, _⟩, _, rfl⟩ := hv
    refine .inr ⟨g, cap, cur.setIfInBounds j v, rfl, hb, heap_setCell_same w g j cur e v hg, h1, h2, by simpa using h3, ?_⟩
    rw [Array.toList_setIfInBounds, ← h4, Nat.mul_one, List.take_set]

def shStep (s : List Bool) (op : Int) : Option (List Bool) :=
  if kindOf op = 1 then some (s ++ [decide (op = 4)])
  else if op = 5 then (if s.getLast? = some true then some (s.dropLast ++ [false]) else none)
  else if op = 11 then (if s = [] then none else some s.dropLast)
  else some s
def shGo : List Bool → List InsD → Bool
  | s, [] => s.isEmpty
  | s, i :: r => match shStep s i.op with
    | none => false
    | some t => shGo t r
def shapeB (l : List InsD) : Bool := shGo [] l
theorem shGo_at {l : List InsD} {k : Nat} (h : k < l.length) {s : List Bool} : shGo s (l.drop k) = match shStep s l[k].op with | none => false | some t => shGo t (l.drop (k + 1)) := by
  rw [List.drop_eq_getElem_cons h]; rfl
theorem shGo_no {l : List InsD} {k : Nat} (h : k < l.length) {s : List Bool} (q : shStep s l[k].op = none) : shGo s (l.drop k) = false := by rw [shGo_at h, q]
theorem shGo_on {l : List InsD} {k : Nat} (h : k < l.length) {s t : List Bool} (q : shStep s l[k].op = some t) : shGo s (l.drop k) = shGo t (l.drop (k + 1)) := by rw [shGo_at h, q]

theorem shape_begin {s : List Bool} {op : Int} (h : kindOf op = 1) : shStep s op = some (s ++ [decide (op = 4)]) := if_pos h
theorem shape_else_no {s : List Bool} {op : Int} (h : ¬ kindOf op = 1) (h5 : op = 5) (hs : s.getLast? ≠ some true) : shStep s op = none := by unfold shStep; rw [if_neg h, if_pos h5, if_neg hs]
theorem shape_else {s : List Bool} {op : Int} (h : ¬ kindOf op = 1) (h5 : op = 5) : shStep (s ++ [true]) op = some (s ++ [false]) := by unfold shStep; rw [if_neg h, if_pos h5, if_pos (by simp)]; simp
theorem shape_end_no {op : Int} (h : ¬ kindOf op = 1) (h5 : op = 11) : shStep [] op = none := by unfold shStep; rw [if_neg h, if_neg (by omega), if_pos h5]; rfl
theorem shape_end {s : List Bool} {op : Int} {b : Bool} (h : ¬ kindOf op = 1) (h5 : op = 11) : shStep (s ++ [b]) op = some s := by unfold shStep; rw [if_neg h, if_neg (by omega), if_pos h5, if_neg (by simp)]; simp
theorem shape_other {s : List Bool} {op : Int} (h : ¬ kindOf op = 1) (h5 : ¬ op = 5) (h11 : ¬ op = 11) : shStep s op = some s := by unfold shStep; rw [if_neg h, if_neg h5, if_neg h11]

theorem nil_or_snoc {α : Type} (l : List α) : l = [] ∨ ∃ (L : List α) (b : α), l = L ++ [b] := by
  rcases List.eq_nil_or_concat l with h | ⟨L, b, h⟩
  · exact .inl h
  · exact .inr ⟨L, b, by rw [h, List.concat_eq_append]⟩
def iv1 (n : Int) : List Value := [.int .i64 n]
theorem iv1_one (n : Int) : ∀ u ∈ iv1 n, u.oneCell' = true := by intro u hu; simp [iv1] at hu; subst hu; rfl
theorem iv1_map (l : List Int) : l.flatMap iv1 = l.map fun n => Value.int .i64 n := by
  induction l with
  | nil => rfl
  | cons n l ih => rw [List.flatMap_cons, ih]; rfl
theorem iv1_own {w : World} {B : Nat} {e : TypeId} {v : Value} {n : Nat} {l : List Int} (h : w.ownsRow B e 1 v n (l.map fun n => Value.int .i64 n)) : w.ownsRow B e 1 v n (l.flatMap iv1) := by rw [iv1_map]; exact h
theorem iv1_at {n : Int} {j : Nat} {u : Value} (h : (iv1 n)[j]? = some u) : j = 0 ∧ u = .int .i64 n := by
  cases j with
  | zero => simp [iv1] at h; exact ⟨rfl, h.symm⟩
  | succ j => simp [iv1] at h
def four (n : Int) : Bool := decide (n = 4)
set_option maxHeartbeats 4000000 in
theorem sshape {F : List Nat} {v : Value} (l : List InsD) (w : World) (hl : l.length ≤ 1048576) [h : Shows w F l [v]] :
    Calls Tryz.prog 185 #[v] w fun e w' => e = .returned (.bool (shapeB l)) ∧ Step w w' := by
  obtain ⟨a, cap0, cl, FF, hv, _, hvw, hr, hml⟩ := list_open h.is
  cases hv
  clear h
  unfold maxLen at hml
  go_enter Tryz.func185, Tryz.ntmps185
  go_wp2
  go_loopw [3, 10] (fun o i wr => ∃ (k : Nat) (ao : Option Addr) (cap : Nat) (os : List Int), k ≤ l.length ∧ i = .int .i64 k ∧ o = .slice ao os.length cap ∧ os.length ≤ k ∧ Step w wr ∧ wr.ownsRow w.heap.size 3 1 (.slice ao os.length cap) os.length (os.map fun n => .int .i64 n) ∧ Hid (shapeB l = shGo (os.map four) (l.drop k))) (fun _ i _ => l.length - (intOf i).toNat)
  case atStart => exact ⟨0, _, _, [], by omega, rfl, rfl, by simp, mkStep, own_litAt rfl rfl (Nat.le_refl _) (by decide) rfl, hid rfl⟩
  case round =>
    obtain ⟨k, ao, cap, os, hk, rfl, rfl, hos, st, hown, heq⟩ := hrel
    by_cases hlt : k < l.length
    · have hon : ∀ t, shStep (os.map four) l[k].op = some t → shapeB l = shGo t (l.drop (k + 1)) := fun t q => heq.out.trans (shGo_on hlt q)
      have hno : shStep (os.map four) l[k].op = none → shapeB l = false := fun q => heq.out.trans (shGo_no hlt q)
      clear hk
      obtain ⟨b, o, G, cs, rfl, hG, hI, hc, ho⟩ := hvw.row hr rfl (by decide) k hlt
      have hI0 := hI
      obtain ⟨rfl, rfl, i0, i1, i2⟩ := ins_open hI0
      have ke : Known w _ l[k] _ := ⟨hI⟩
      have c0 := (hc 0 _ rfl).1
      replace c0 : w.cell? ⟨b, o + k * 3, none⟩ = _ := c0
      have c1 := (hc 1 _ rfl).1
      replace c1 : w.cell? ⟨b, o + k * 3 + 1, none⟩ = _ := c1
      have c2 := (hc 2 _ rfl).1
      replace c2 : w.cell? ⟨b, o + k * 3 + 2, none⟩ = _ := c2
      clear hc
      by_cases hk1 : kindOf l[k].op = 1
      · have hq := hid (hon _ (shape_begin hk1))
        have n5 : (l[k].op == 5) = false := by have := kind_cases l[k].op; exact beq_eq_false_iff_ne.2 (by omega)
        have n11 : (l[k].op == 11) = false := by have := kind_cases l[k].op; exact beq_eq_false_iff_ne.2 (by omega)
        have e1 : (os ++ [l[k].op]).length = os.length + 1 := by simp
        have e2 : os.map four ++ [decide (l[k].op = 4)] = (os ++ [l[k].op]).map four := by simp [four]
        rw [e2] at hq
        replace e2 := hid e2
        clear hon hno
        have nbx : NotIn wr.heap.size (blk ao) := ⟨fun hx => by have := (ownsRow_blk hown _ hx).2; omega⟩
        have sub1 : SubX w (blk ao) [] := ⟨fun x hx => .inr (ownsRow_blk hown x hx).1⟩
        go_wp2_with (first | (go_at_call 211; (with_reducible refine Calls.mono (sbegins ..) ?_); rintro e wk ⟨rfl, st2⟩) | (at_builtin; go_must (refine app_rowsY iv1 1 (fun _ => rfl) iv1_one rfl (.tmp 19) (.tmp 22) 74 rfl 3 (.int .i64 0) 8 Tryz.ints_tab w ao cap os l[k].op rfl (iv1_own (own_keep hown)) wk.heap.size 1 rfl (fun j u hj => by obtain ⟨rfl, rfl⟩ := iv1_at hj; exact ⟨by go_simp, by go_simp⟩) (by omega) ?_); intro ao1 cap1 w1 hown1 sx1 hb1; have d0 : w1.cell? ⟨wr.heap.size, 0, none⟩ = some (.int .i64 l[k].op) := (sx1.fr.cell (p := ⟨wr.heap.size, 0, none⟩) (by have := st2.fr.size; simp at this ⊢; omega) nbx.ne).trans (by go_simp)))
        go_roundw
        case rel => exact ⟨k + 1, ao1, cap1, os ++ [l[k].op], by omega, by go_num, by rw [e1], by rw [e1]; omega, mkStep, by rw [e1, ← iv1_map]; exact hown1, hq⟩
        case measure => simp [intOf]; omega
      have hk0 : decide (kindOf l[k].op = 1) = false := decide_eq_false hk1
      by_cases h5 : l[k].op = 5
      · have n5 : (l[k].op == 5) = true := beq_iff_eq.2 h5
        have n11 : (l[k].op == 11) = false := beq_eq_false_iff_ne.2 (by omega)
        rcases nil_or_snoc os with rfl | ⟨os', x, rfl⟩
        · have hz := hid (hno (shape_else_no hk1 h5 (by simp)))
          replace h5 := hid h5
          clear hon hno
          simp only [List.length_nil] at hown ⊢
          go_wp2_with (first | (go_at_call 211; (with_reducible refine Calls.mono (sbegins ..) ?_); rintro e wk ⟨rfl, st⟩))
          go_ret
          exact ⟨by rw [hz.out]; rfl, mkStep⟩
        · obtain ⟨g, rfl, hg1, hg2⟩ := own_addr hown (by simp)
          have hown2 : wr.ownsRow w.heap.size 3 1 (.slice (some ⟨g, 0, none⟩) (os'.length + 1) cap) (os'.length + 1) ((os' ++ [x]).map fun n => .int .i64 n) := by simpa using hown
          obtain ⟨c9, f9⟩ := own_slot hown2 os'.length (by simp)
          replace c9 : wr.cell? ⟨g, os'.length, none⟩ = some (.int .i64 x) := by simpa using c9
          have og : Old g wr := ⟨hg2⟩
          have nw : NewB w g := ⟨hg1⟩
          have e1 : (os' ++ [x]).length = os'.length + 1 := by simp
          simp only [e1] at hos ⊢
          have nb : Arg g wr := ⟨hg2⟩
          by_cases hx : x = 4
          · have hq := hid (hon _ (by rw [List.map_append, List.map_singleton, show four x = true from decide_eq_true hx]; exact shape_else hk1 h5))
            have n4 : (x != 4) = false := by simp [hx]
            replace h5 := hid h5
            replace hx := hid hx
            clear hon hno hown e1
            go_wp2_with (first | (go_at_call 211; (with_reducible refine Calls.mono (sbegins ..) ?_); rintro e wk ⟨rfl, st⟩))
            have own9 := own_set os'.length (.int .i64 5) (own_keep (w := wk) hown2) (by omega)
            have e2 : ((os' ++ [x]).map fun n => Value.int .i64 n).set os'.length (.int .i64 5) = (os' ++ [5]).map fun n => Value.int .i64 n := by simp
            rw [e2] at own9
            have e1 : (os' ++ [(5 : Int)]).length = os'.length + 1 := by simp
            go_roundw
            case rel => exact ⟨k + 1, some ⟨g, 0, none⟩, cap, os' ++ [5], by omega, by go_num, by rw [e1], by rw [e1]; omega, mkStep, by rw [e1]; exact own9, by rw [List.map_append]; exact hq⟩
            case measure => simp [intOf]; omega
          · have hz := hid (hno (shape_else_no hk1 h5 (by simp [four, hx])))
            have n4 : (x != 4) = true := by simp [hx]
            replace h5 := hid h5
            replace hx := hid hx
            clear hon hno hown e1
            go_wp2_with (first | (go_at_call 211; (with_reducible refine Calls.mono (sbegins ..) ?_); rintro e wk ⟨rfl, st⟩))
            go_ret
            exact ⟨by rw [hz.out]; rfl, mkStep⟩
      have n5 : (l[k].op == 5) = false := beq_eq_false_iff_ne.2 h5
      by_cases h11 : l[k].op = 11
      · have n11 : (l[k].op == 11) = true := beq_iff_eq.2 h11
        rcases nil_or_snoc os with rfl | ⟨os', x, rfl⟩
        · have hz := hid (hno (shape_end_no hk1 h11))
          replace h11 := hid h11
          clear hon hno
          simp only [List.length_nil] at hown ⊢
          go_wp2_with (first | (go_at_call 211; (with_reducible refine Calls.mono (sbegins ..) ?_); rintro e wk ⟨rfl, st⟩))
          go_ret
          exact ⟨by rw [hz.out]; rfl, mkStep⟩
        · obtain ⟨g, rfl, hg1, hg2⟩ := own_addr hown (by simp)
          have hown2 := own_pre os'.length (show wr.ownsRow w.heap.size 3 1 (.slice (some ⟨g, 0, none⟩) (os'.length + 1) cap) (os'.length + 1) ((os' ++ [x]).map fun n => .int .i64 n) by simpa using hown) (by omega)
          have e2 : ((os' ++ [x]).map fun n => Value.int .i64 n).take (os'.length * 1) = os'.map fun n => Value.int .i64 n := by simp
          rw [e2] at hown2
          have hcap := ownsRow_cap hown
          unfold maxLen at hcap
          have e1 : (os' ++ [x]).length = os'.length + 1 := by simp
          simp only [e1] at hos hcap ⊢
          have hq := hid (hon _ (by rw [List.map_append, List.map_singleton]; exact shape_end hk1 h11))
          replace h11 := hid h11
          clear hon hno hown e1 e2
          go_wp2_with (first | (go_at_call 211; (with_reducible refine Calls.mono (sbegins ..) ?_); rintro e wk ⟨rfl, st⟩))
          go_roundw
          case rel => exact ⟨k + 1, some ⟨g, 0, none⟩, cap, os', by omega, by go_num, by go_num, by omega, mkStep, own_keep hown2, hq⟩
          case measure => simp [intOf]; omega
      have n11 : (l[k].op == 11) = false := beq_eq_false_iff_ne.2 h11
      have hq := hid (hon _ (shape_other hk1 h5 h11))
      clear hon hno
      go_wp2_with (first | (go_at_call 211; (with_reducible refine Calls.mono (sbegins ..) ?_); rintro e wk ⟨rfl, st⟩))
      go_roundw
      case rel => exact ⟨k + 1, ao, cap, os, by omega, by go_num, rfl, by omega, mkStep, own_keep hown, hq⟩
      case measure => simp [intOf]; omega
    · have hz := hid (show shapeB l = (os.map four).isEmpty by rw [heq.out, List.drop_of_length_le (by omega)]; rfl)
      go_wp2
      go_ret
      exact ⟨ret_bool (by rw [hz.out]; simp), mkStep⟩
end Go.Proofs.YtociekeaiigpfaaGreatDoor
