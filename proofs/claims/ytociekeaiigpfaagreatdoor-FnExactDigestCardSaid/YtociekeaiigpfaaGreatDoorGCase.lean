/- The type Case as plain data; contracts of the laws' own helpers for it. Written by gen.py. -/
import Derived.Test.YtociekeaiigpfaaGreatDoorRow
namespace Go.Proofs.YtociekeaiigpfaaGreatDoor
attribute [local go_sem ↓] Go.wp_at_zero Go.wp_at_succ
open Go.RowKit Go.ChangeShapes Go.WideShapes
open Rep (Is sz)

@[ext] structure CaseD where
  name : ByteArray
  lines : List ByteArray
  input : List Int
  want : List ByteArray
  deriving DecidableEq

instance : Rep CaseD := Rep.via fun r => (r.name, r.lines, r.input, r.want)

theorem case_open {w : World} {F : List Nat} {r : CaseD} {cs : List Value} (h : Is w F r cs) :
    ∃ a1 k1 a2 k2 a3 k3 F1 F2 F3, cs = [.string r.name, .slice a1 r.lines.length k1, .slice a2 r.input.length k2, .slice a3 r.want.length k3] ∧ F = F1 ++ F2 ++ F3 ∧ Is w F1 r.lines [.slice a1 r.lines.length k1] ∧ Is w F2 r.input [.slice a2 r.input.length k2] ∧ Is w F3 r.want [.slice a3 r.want.length k3] ∧ OkS r.name := by
  obtain ⟨_, _, _, _, rfl, rfl, ⟨rfl, rfl, i0⟩, F1, _, c1, _, rfl, rfl, h1, F2, F3, c2, c3, rfl, rfl, h2, h3⟩ := h
  obtain ⟨a1, k1, rfl⟩ := slice_form h1
  obtain ⟨a2, k2, rfl⟩ := slice_form h2
  obtain ⟨a3, k3, rfl⟩ := slice_form h3
  exact ⟨a1, k1, a2, k2, a3, k3, F1, F2, F3, rfl, by simp, h1, h2, h3, i0⟩

theorem case_shut {w : World} {F1 F2 F3 : List Nat} {r : CaseD} {s1 s2 s3 : Value} (h1 : Is w F1 r.lines [s1]) (h2 : Is w F2 r.input [s2]) (h3 : Is w F3 r.want [s3]) (i0 : OkS r.name) : Is w (F1 ++ F2 ++ F3) r [.string r.name, s1, s2, s3] := by
  have h : Is w ([] ++ (F1 ++ (F2 ++ (F3)))) r [.string r.name, s1, s2, s3] := ⟨[], _, [_], _, rfl, rfl, ⟨rfl, rfl, i0⟩, ⟨F1, _, [_], _, rfl, rfl, h1, ⟨F2, _, [_], _, rfl, rfl, h2, h3⟩⟩⟩
  simpa using h


def caseCost (r : CaseD) : Nat := r.name.size + strsCost r.lines + r.input.length + strsCost r.want
def casesCost (l : List CaseD) : Nat := l.length + (l.map caseCost).sum


set_option maxHeartbeats 1000000 in
theorem eqCase {F G : List Nat} {cs ds : List Value} (r q : CaseD) (w : World) [h : Shows w F r cs] [h' : Shows w G q ds] :
    Calls Tryz.prog 42 #[.agg cs.toArray, .agg ds.toArray] w fun e w' => e = .returned (.bool (decide (r = q))) ∧ Step w w' := by
  obtain ⟨a1, k1, a2, k2, a3, k3, F1, F2, F3, rfl, rfl, h1, h2, h3, i0⟩ := case_open h.is
  obtain ⟨b1, m1, b2, m2, b3, m3, G1, G2, G3, rfl, rfl, g1, g2, g3, j0⟩ := case_open h'.is
  have n1 : Known w F1 r.lines [.slice a1 r.lines.length k1] := ⟨h1⟩
  have n2 : Known w F2 r.input [.slice a2 r.input.length k2] := ⟨h2⟩
  have n3 : Known w F3 r.want [.slice a3 r.want.length k3] := ⟨h3⟩
  have q1 : Known w G1 q.lines [.slice b1 q.lines.length m1] := ⟨g1⟩
  have q2 : Known w G2 q.input [.slice b2 q.input.length m2] := ⟨g2⟩
  have q3 : Known w G3 q.want [.slice b3 q.want.length m3] := ⟨g3⟩
  have no : ∀ {p : Prop}, (r = q → p) → ¬ p → decide (r = q) = false := fun h1 h2 => decide_eq_false_iff_not.2 (fun e => h2 (h1 e))
  clear h h'
  go_enter Tryz.func42, Tryz.ntmps42
  by_cases c0 : r.name = q.name
  rotate_left
  · have hn := no (congrArg CaseD.name) c0
    replace hn := hid hn
    have e0 := str_no c0
    replace c0 := hid c0
    go_wp2_with (first | (go_at_call 108; (with_reducible refine Calls.mono (eqInts ..) ?_); rintro e wk ⟨rfl, st⟩) | (go_at_call 107; (with_reducible refine Calls.mono (eqStrs ..) ?_); rintro e wk ⟨rfl, st⟩))
    go_ret
    exact ⟨by rw [hn.out]; rfl, mkStep⟩
  have e0 := str_yes c0
  replace c0 := hid c0
  by_cases c1 : r.lines = q.lines
  rotate_left
  · have hn := no (congrArg CaseD.lines) c1
    replace hn := hid hn
    have e1 := decide_eq_false c1
    replace c1 := hid c1
    go_wp2_with (first | (go_at_call 108; (with_reducible refine Calls.mono (eqInts ..) ?_); rintro e wk ⟨rfl, st⟩) | (go_at_call 107; (with_reducible refine Calls.mono (eqStrs ..) ?_); rintro e wk ⟨rfl, st⟩))
    go_ret
    exact ⟨by rw [hn.out]; rfl, mkStep⟩
  have e1 := decide_eq_true c1
  replace c1 := hid c1
  by_cases c2 : r.input = q.input
  rotate_left
  · have hn := no (congrArg CaseD.input) c2
    replace hn := hid hn
    have e2 := decide_eq_false c2
    replace c2 := hid c2
    go_wp2_with (first | (go_at_call 108; (with_reducible refine Calls.mono (eqInts ..) ?_); rintro e wk ⟨rfl, st⟩) | (go_at_call 107; (with_reducible refine Calls.mono (eqStrs ..) ?_); rintro e wk ⟨rfl, st⟩))
    go_ret
    exact ⟨by rw [hn.out]; rfl, mkStep⟩
  have e2 := decide_eq_true c2
  replace c2 := hid c2
  by_cases c3 : r.want = q.want
  rotate_left
  · have hn := no (congrArg CaseD.want) c3
    replace hn := hid hn
    have e3 := decide_eq_false c3
    replace c3 := hid c3
    go_wp2_with (first | (go_at_call 108; (with_reducible refine Calls.mono (eqInts ..) ?_); rintro e wk ⟨rfl, st⟩) | (go_at_call 107; (with_reducible refine Calls.mono (eqStrs ..) ?_); rintro e wk ⟨rfl, st⟩))
    go_ret
    exact ⟨by rw [hn.out]; rfl, mkStep⟩
  have e3 := decide_eq_true c3
  replace c3 := hid c3
  have hy : decide (r = q) = true := decide_eq_true_iff.2 (CaseD.ext c0.out c1.out c2.out c3.out)
  replace hy := hid hy
  go_wp2_with (first | (go_at_call 108; (with_reducible refine Calls.mono (eqInts ..) ?_); rintro e wk ⟨rfl, st⟩) | (go_at_call 107; (with_reducible refine Calls.mono (eqStrs ..) ?_); rintro e wk ⟨rfl, st⟩))
  go_ret
  exact ⟨by rw [hy.out]; rfl, mkStep⟩

set_option maxHeartbeats 1000000 in
theorem eqCaseS {F G : List Nat} {v u : Value} (l m : List CaseD) (w : World) [h : Shows w F l [v]] [h' : Shows w G m [u]] :
    Calls Tryz.prog 13 #[v, u] w fun e w' => e = .returned (.bool (decide (l = m))) ∧ Step w w' := by
  obtain ⟨a, cap, cl, FF, hv, _, hvw, hr, hml⟩ := list_open h.is
  cases hv
  obtain ⟨a', cap', cl', FF', hv', _, hvw', hr', hml'⟩ := list_open h'.is
  cases hv'
  unfold maxLen at hml hml'
  clear h h'
  go_enter Tryz.func13, Tryz.ntmps13
  by_cases hl : l.length = m.length
  · go_wp2
    have l1 : l.length ≤ m.length := by omega
    have l2 : m.length ≤ l.length := by omega
    clear hl
    go_loopw [5] (fun i wr => ∃ k : Nat, k ≤ l.length ∧ i = .int .i64 k ∧ Step w wr ∧ Hid (∀ j : Nat, j < k → l[j]? = m[j]?)) (fun i _ => l.length - (intOf i).toNat)
    case atStart => exact ⟨0, by omega, rfl, mkStep, fun j hj => by omega⟩
    case round =>
      obtain ⟨k, hk, rfl, st, heq⟩ := hrel
      by_cases hlt : k < l.length
      · have hlt' : k < m.length := by omega
        obtain ⟨b, o, G, cs, rfl, hG, hI, hc, ho⟩ := hvw.row hr rfl (by decide) k hlt
        have hI0 := hI
        obtain ⟨a1, k1, a2, k2, a3, k3, F1, F2, F3, rfl, rfl, h1, h2, h3, i0⟩ := case_open hI0
        have ke : Known w _ l[k] _ := ⟨hI⟩
        have c0 := (hc 0 _ rfl).1
        replace c0 : w.cell? ⟨b, o + k * 4, none⟩ = _ := c0
        have c1 := (hc 1 _ rfl).1
        replace c1 : w.cell? ⟨b, o + k * 4 + 1, none⟩ = _ := c1
        have c2 := (hc 2 _ rfl).1
        replace c2 : w.cell? ⟨b, o + k * 4 + 2, none⟩ = _ := c2
        have c3 := (hc 3 _ rfl).1
        replace c3 : w.cell? ⟨b, o + k * 4 + 3, none⟩ = _ := c3
        clear hc
        obtain ⟨b', o', G', cs', rfl, hG', hI', hc', ho'⟩ := hvw'.row hr' rfl (by decide) k hlt'
        have hI0' := hI'
        obtain ⟨a1', k1', a2', k2', a3', k3', F1', F2', F3', rfl, rfl, h1', h2', h3', i0'⟩ := case_open hI0'
        have ke' : Known w _ m[k] _ := ⟨hI'⟩
        have c0' := (hc' 0 _ rfl).1
        replace c0' : w.cell? ⟨b', o' + k * 4, none⟩ = _ := c0'
        have c1' := (hc' 1 _ rfl).1
        replace c1' : w.cell? ⟨b', o' + k * 4 + 1, none⟩ = _ := c1'
        have c2' := (hc' 2 _ rfl).1
        replace c2' : w.cell? ⟨b', o' + k * 4 + 2, none⟩ = _ := c2'
        have c3' := (hc' 3 _ rfl).1
        replace c3' : w.cell? ⟨b', o' + k * 4 + 3, none⟩ = _ := c3'
        clear hc'
        have b1 : (0 : Int) ≤ (k : Int) := by omega
        have b2 : (k : Int) < (l.length : Int) := by omega
        have b3 : (k : Int) < (m.length : Int) := by omega
        by_cases he : l[k] = m[k]
        · have e1 := decide_eq_true he
          replace he := hid he
          go_wp2_with fail
          refine rg_begin0 (n := 10) (by kernel_rfl) rfl fun rg0 => ?_
          refine rg_read (i := 0) (a1 := _) rfl (by kernel_rfl) rfl (by simp) (by intro wq hwq; go_wp2; exact ⟨rfl, rfl⟩) mkStep ?_
          refine rg_read (i := 1) (a1 := _) rfl (by kernel_rfl) rfl (by simp) (by intro wq hwq; go_wp2; exact ⟨rfl, rfl⟩) mkStep ?_
          refine rg_read (i := 2) (a1 := _) rfl (by kernel_rfl) rfl (by simp) (by intro wq hwq; go_wp2; exact ⟨rfl, rfl⟩) mkStep ?_
          refine rg_read (i := 3) (a1 := _) rfl (by kernel_rfl) rfl (by simp) (by intro wq hwq; go_wp2; exact ⟨rfl, rfl⟩) mkStep ?_
          refine rg_read (i := 4) (a1 := _) rfl (by kernel_rfl) rfl (by simp) (by intro wq hwq; go_wp2; exact ⟨rfl, rfl⟩) mkStep ?_
          refine rg_read (i := 5) (a1 := _) rfl (by kernel_rfl) rfl (by simp) (by intro wq hwq; go_wp2; exact ⟨rfl, rfl⟩) mkStep ?_
          refine rg_read (i := 6) (a1 := _) rfl (by kernel_rfl) rfl (by simp) (by intro wq hwq; go_wp2; exact ⟨rfl, rfl⟩) mkStep ?_
          refine rg_read (i := 7) (a1 := _) rfl (by kernel_rfl) rfl (by simp) (by intro wq hwq; go_wp2; exact ⟨rfl, rfl⟩) mkStep ?_
          refine rg_eff (i := 8) rfl (by kernel_rfl) ?_
          simp only [List.getElem_toArray, List.getElem_cons_succ, List.getElem_cons_zero]
          go_wp2_with (first | (go_at_call 42; (with_reducible refine Calls.mono (eqCase ..) ?_); rintro e wk ⟨rfl, st⟩))
          refine ⟨mkStep, ?_⟩
          refine rg_read (i := 9) (a1 := _) rfl (by kernel_rfl) rfl (by simp) (by intro wq hwq; go_wp2; exact ⟨rfl, rfl⟩) mkStep ?_
          refine rg_done (by kernel_rfl) ?_
          go_wp2
          go_roundw
          case rel => exact ⟨k + 1, by omega, by go_num, mkStep, upto_step heq.out hlt (by omega) he.out⟩
          case measure => simp [intOf]; omega
        · have e1 := decide_eq_false he
          replace he := hid he
          go_wp2_with fail
          refine rg_begin0 (n := 10) (by kernel_rfl) rfl fun rg0 => ?_
          refine rg_read (i := 0) (a1 := _) rfl (by kernel_rfl) rfl (by simp) (by intro wq hwq; go_wp2; exact ⟨rfl, rfl⟩) mkStep ?_
          refine rg_read (i := 1) (a1 := _) rfl (by kernel_rfl) rfl (by simp) (by intro wq hwq; go_wp2; exact ⟨rfl, rfl⟩) mkStep ?_
          refine rg_read (i := 2) (a1 := _) rfl (by kernel_rfl) rfl (by simp) (by intro wq hwq; go_wp2; exact ⟨rfl, rfl⟩) mkStep ?_
          refine rg_read (i := 3) (a1 := _) rfl (by kernel_rfl) rfl (by simp) (by intro wq hwq; go_wp2; exact ⟨rfl, rfl⟩) mkStep ?_
          refine rg_read (i := 4) (a1 := _) rfl (by kernel_rfl) rfl (by simp) (by intro wq hwq; go_wp2; exact ⟨rfl, rfl⟩) mkStep ?_
          refine rg_read (i := 5) (a1 := _) rfl (by kernel_rfl) rfl (by simp) (by intro wq hwq; go_wp2; exact ⟨rfl, rfl⟩) mkStep ?_
          refine rg_read (i := 6) (a1 := _) rfl (by kernel_rfl) rfl (by simp) (by intro wq hwq; go_wp2; exact ⟨rfl, rfl⟩) mkStep ?_
          refine rg_read (i := 7) (a1 := _) rfl (by kernel_rfl) rfl (by simp) (by intro wq hwq; go_wp2; exact ⟨rfl, rfl⟩) mkStep ?_
          refine rg_eff (i := 8) rfl (by kernel_rfl) ?_
          simp only [List.getElem_toArray, List.getElem_cons_succ, List.getElem_cons_zero]
          go_wp2_with (first | (go_at_call 42; (with_reducible refine Calls.mono (eqCase ..) ?_); rintro e wk ⟨rfl, st⟩))
          refine ⟨mkStep, ?_⟩
          refine rg_read (i := 9) (a1 := _) rfl (by kernel_rfl) rfl (by simp) (by intro wq hwq; go_wp2; exact ⟨rfl, rfl⟩) mkStep ?_
          refine rg_done (by kernel_rfl) ?_
          go_wp2
          go_ret
          exact ⟨by rw [upto_ne hlt (by omega) he.out]; rfl, mkStep⟩
      · go_wp2
        go_ret
        exact ⟨by rw [upto_all (by omega) (by omega) heq.out]; rfl, mkStep⟩
  · go_wp2
    go_ret
    exact ⟨ret_bool (by simp; intro e; exact hl (by rw [e])), mkStep⟩
theorem Tryz.cases_tab : Tryz.prog.underlying 43 = some (.slice 76) ∧ (Tryz.prog.info? 76).map (fun i => (i.zero, i.size, i.bytes)) = some (some (.agg #[.string ByteArray.empty, .slice none 0 0, .slice none 0 0, .slice none 0 0]), 4, 88) ∧ (.agg #[.string ByteArray.empty, .slice none 0 0, .slice none 0 0, .slice none 0 0] : Value).cells.size = 4 ∧ 0 < 4 ∧ 0 < 88 :=
  ⟨by kernel_rfl, by kernel_rfl, rfl, by decide, by decide⟩
end Go.Proofs.YtociekeaiigpfaaGreatDoor
