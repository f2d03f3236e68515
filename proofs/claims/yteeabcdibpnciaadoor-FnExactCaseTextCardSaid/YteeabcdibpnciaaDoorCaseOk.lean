/- Contracts: CaseOk, both sides. -/
import Derived.Test.YteeabcdibpnciaaDoorCase
import Derived.Test.YteeabcdibpnciaaDoorNum
namespace Go.Proofs.YteeabcdibpnciaaDoor
attribute [local go_sem ↓] Go.wp_at_zero Go.wp_at_succ
open Go.RowKit
open Rep (Is sz)


def in32 (n : Int) : Bool := decide (-2147483648 ≤ n ∧ n ≤ 2147483647)
theorem wrap_in32 (n : Int) : wrap32 n = n ↔ in32 n = true := by
  unfold in32 wrap32
  rw [decide_eq_true_iff]
  omega
def caseOk (c : CaseD) : Bool := nameB c.name && decide (1 ≤ c.lines.length) && decide (c.input.length ≤ 40) && c.input.all in32 && linesB c.lines && linesB c.want

set_option maxHeartbeats 1000000 in
theorem scaseok {F : List Nat} {cs : List Value} (c : CaseD) (w : World) (hb : c.name.size ≤ 1048576) [h : Shows w F c cs] :
    Calls Tryd.prog 28 #[.agg cs.toArray] w fun e w' => e = .returned (.bool (caseOk c)) ∧ Step w w' := by
  obtain ⟨a1, k1, a2, k2, a3, k3, F1, F2, F3, rfl, rfl, h1, h2, h3, i0⟩ := case_open h.is
  have n1 : Known w F1 c.lines [.slice a1 c.lines.length k1] := ⟨h1⟩
  have n3 : Known w F3 c.want [.slice a3 c.want.length k3] := ⟨h3⟩
  obtain ⟨_, _, hv, _, hvw, hin, hml⟩ := ints_open h2
  cases hv
  unfold maxLen at hml
  clear h
  have hm : caseOk c = (nameB c.name && decide (1 ≤ c.lines.length) && decide (c.input.length ≤ 40) && c.input.all in32 && linesB c.lines && linesB c.want) := rfl
  replace hm := hid hm
  go_enter Tryd.func28, Tryd.ntmps28
  go_wp2
  refine wp_name ?_
  intro A sA
  go_loopw [8] (fun i wr => ∃ k : Nat, k ≤ c.input.length ∧ i = .int .i64 k ∧ Step A wr ∧ Hid (∀ j : Nat, j < k → ∀ x, c.input[j]? = some x → in32 x = true)) (fun i _ => c.input.length - (intOf i).toNat)
  case atStart => exact ⟨0, by omega, rfl, mkStep, fun j hj => by omega⟩
  case round =>
    obtain ⟨k, hk, rfl, st, heq⟩ := hrel
    by_cases hlt : k < c.input.length
    · obtain ⟨b, o, rfl, hc, _, ho⟩ := hvw.get k hlt (.int .i64 c.input[k]) (by simp [intVs, hlt])
      have hw := wrap_in32 c.input[k]
      cases hq : in32 c.input[k]
      · have e1 : (wrap32 c.input[k] != c.input[k]) = true := by rw [bne_iff_ne, ne_eq, hw, hq]; simp
        replace hw := hid hw
        go_wp2_with (first | (go_at_call 61; (with_reducible refine Calls.mono (swrap_any ..) ?_); rintro e wk ⟨rfl, rfl⟩))
        go_ret
        exact ⟨by rw [hm.out, all_no hlt hq]; simp, mkStep⟩
      · have e1 : (wrap32 c.input[k] != c.input[k]) = false := by rw [bne_eq_false_iff_eq, hw, hq]
        replace hw := hid hw
        go_wp2_with (first | (go_at_call 61; (with_reducible refine Calls.mono (swrap_any ..) ?_); rintro e wk ⟨rfl, rfl⟩))
        go_roundw
        case rel => exact ⟨k + 1, by omega, by go_num, mkStep, all_step hlt hq heq.out⟩
        case measure => simp [intOf]; omega
    · have hq := hid (all_yes (p := in32) (by omega) heq.out)
      cases q1 : nameB c.name
      · go_wp2_with (first | (go_at_call 62; (with_reducible refine Calls.mono (snameok _ _ (by omega)) ?_); rintro e wk ⟨rfl, st⟩))
        go_ret
        exact ⟨by rw [hm.out, q1]; rfl, mkStep⟩
      by_cases q2 : 1 ≤ c.lines.length
      rotate_left
      · go_wp2_with (first | (go_at_call 62; (with_reducible refine Calls.mono (snameok _ _ (by omega)) ?_); rintro e wk ⟨rfl, st⟩))
        go_ret
        exact ⟨by rw [hm.out, q1, decide_eq_false q2]; rfl, mkStep⟩
      cases q3 : linesB c.lines
      · go_wp2_with (first | (go_at_call 62; (with_reducible refine Calls.mono (snameok _ _ (by omega)) ?_); rintro e wk ⟨rfl, st⟩) | (go_at_call 63; (with_reducible refine Calls.mono (slines ..) ?_); rintro e wk ⟨rfl, st⟩))
        go_ret
        exact ⟨ret_bool (by rw [hm.out, q3]; simp), mkStep⟩
      cases q4 : linesB c.want
      · go_wp2_with (first | (go_at_call 62; (with_reducible refine Calls.mono (snameok _ _ (by omega)) ?_); rintro e wk ⟨rfl, st⟩) | (go_at_call 63; (with_reducible refine Calls.mono (slines ..) ?_); rintro e wk ⟨rfl, st⟩))
        go_ret
        exact ⟨ret_bool (by rw [hm.out, q4]; simp), mkStep⟩
      go_wp2_with (first | (go_at_call 62; (with_reducible refine Calls.mono (snameok _ _ (by omega)) ?_); rintro e wk ⟨rfl, st⟩) | (go_at_call 63; (with_reducible refine Calls.mono (slines ..) ?_); rintro e wk ⟨rfl, st⟩))
      go_ret
      exact ⟨ret_bool (by rw [hm.out, q1, q3, q4, hq.out]; simp [q2] <;> omega), mkStep⟩

theorem caseOk_eq (c : CaseD) : caseOk c = (nameB c.name && (decide (1 ≤ c.lines.length) && decide (c.lines.length ≤ 60)) && decide (c.want.length ≤ 60) && decide (c.input.length ≤ 40) && c.input.all in32 && c.lines.all lineB && c.want.all lineB) := by
  unfold caseOk linesB
  cases nameB c.name <;> cases decide (1 ≤ c.lines.length) <;> cases decide (c.lines.length ≤ 60) <;> cases decide (c.want.length ≤ 60) <;> cases decide (c.input.length ≤ 40) <;> cases c.input.all in32 <;> cases c.lines.all lineB <;> cases c.want.all lineB <;> rfl

set_option maxHeartbeats 1000000 in
theorem icaseok {F : List Nat} {cs : List Value} (c : CaseD) (w : World) (hb : c.name.size ≤ 1048576) [h : Shows w F c cs] [hA : HasAsc w] :
    Calls Tryd.prog 32 #[.agg cs.toArray] w fun e w' => e = .returned (.bool (caseOk c)) ∧ Step w w' := by
  obtain ⟨a1, k1, a2, k2, a3, k3, F1, F2, F3, rfl, rfl, h1, h2, h3, i0⟩ := case_open h.is
  have n1 : Known w F1 c.lines [.slice a1 c.lines.length k1] := ⟨h1⟩
  have n3 : Known w F3 c.want [.slice a3 c.want.length k3] := ⟨h3⟩
  obtain ⟨_, _, hv, _, hvw, hin, hml⟩ := ints_open h2
  cases hv
  unfold maxLen at hml
  clear h
  have ka := hA.known
  have hm := hid (caseOk_eq c)
  go_enter Tryd.func32, Tryd.ntmps32
  cases q1 : nameB c.name
  · go_wp2_with (first | (go_at_call 65; (with_reducible refine Calls.mono (inameok _ _ (by omega)) ?_); rintro e wk ⟨rfl, st⟩))
    go_ret
    exact ⟨by rw [hm.out, q1]; rfl, mkStep⟩
  by_cases q2 : 1 ≤ (c.lines.length : Int) ∧ (c.lines.length : Int) ≤ 60
  rotate_left
  · have e2 := decide_eq_false q2
    have e3 : (decide (1 ≤ c.lines.length) && decide (c.lines.length ≤ 60)) = false := by rw [Bool.eq_false_iff]; simp; omega
    replace e3 := hid e3
    go_wp2_with (first | (go_at_call 65; (with_reducible refine Calls.mono (inameok _ _ (by omega)) ?_); rintro e wk ⟨rfl, st⟩) | (go_at_call 66; (with_reducible refine Calls.mono (within_any ..) ?_); rintro e wk ⟨rfl, rfl⟩))
    go_ret
    exact ⟨by rw [hm.out, q1, e3.out]; rfl, mkStep⟩
  have e2 := decide_eq_true q2
  have e3 : (decide (1 ≤ c.lines.length) && decide (c.lines.length ≤ 60)) = true := by simp; omega
  replace e3 := hid e3
  by_cases q3 : c.want.length ≤ 60
  rotate_left
  · go_wp2_with (first | (go_at_call 65; (with_reducible refine Calls.mono (inameok _ _ (by omega)) ?_); rintro e wk ⟨rfl, st⟩) | (go_at_call 66; (with_reducible refine Calls.mono (within_any ..) ?_); rintro e wk ⟨rfl, rfl⟩))
    go_ret
    exact ⟨by rw [hm.out, q1, e3.out, decide_eq_false q3]; rfl, mkStep⟩
  by_cases q4 : c.input.length ≤ 40
  rotate_left
  · go_wp2_with (first | (go_at_call 65; (with_reducible refine Calls.mono (inameok _ _ (by omega)) ?_); rintro e wk ⟨rfl, st⟩) | (go_at_call 66; (with_reducible refine Calls.mono (within_any ..) ?_); rintro e wk ⟨rfl, rfl⟩))
    go_ret
    exact ⟨by rw [hm.out, q1, e3.out, decide_eq_true q3, decide_eq_false q4]; rfl, mkStep⟩
  go_wp2_with (first | (go_at_call 65; (with_reducible refine Calls.mono (inameok _ _ (by omega)) ?_); rintro e wk ⟨rfl, st⟩) | (go_at_call 66; (with_reducible refine Calls.mono (within_any ..) ?_); rintro e wk ⟨rfl, rfl⟩))
  refine wp_name ?_
  intro A sA
  go_loopw [32] (fun i wr => ∃ k : Nat, k ≤ c.input.length ∧ i = .int .i64 k ∧ Step A wr ∧ Hid (∀ j : Nat, j < k → ∀ x, c.input[j]? = some x → in32 x = true)) (fun i _ => c.input.length - (intOf i).toNat)
  case atStart => exact ⟨0, by omega, rfl, mkStep, fun j hj => by omega⟩
  case round =>
    obtain ⟨k, hk, rfl, st, heq⟩ := hrel
    by_cases hlt : k < c.input.length
    · obtain ⟨b, o, rfl, hc, _, ho⟩ := hvw.get k hlt (.int .i64 c.input[k]) (by simp [intVs, hlt])
      have hw : decide (-2147483648 ≤ c.input[k] ∧ c.input[k] ≤ 2147483647) = in32 c.input[k] := rfl
      cases hq : in32 c.input[k]
      · rw [hq] at hw
        go_wp2_with (first | (go_at_call 66; (with_reducible refine Calls.mono (within_any ..) ?_); rintro e wk ⟨rfl, rfl⟩))
        go_ret
        exact ⟨ret_bool (by rw [hm.out, all_no hlt hq]; simp), mkStep⟩
      · rw [hq] at hw
        go_wp2_with (first | (go_at_call 66; (with_reducible refine Calls.mono (within_any ..) ?_); rintro e wk ⟨rfl, rfl⟩))
        go_roundw
        case rel => exact ⟨k + 1, by omega, by go_num, mkStep, all_step hlt hq heq.out⟩
        case measure => simp [intOf]; omega
    · have hq := hid (all_yes (p := in32) (by omega) heq.out)
      cases q5 : c.lines.all lineB
      · go_wp2_with (first | (go_at_call 69; (with_reducible refine Calls.mono (icf ..) ?_); rintro e wk ⟨rfl, st⟩))
        go_ret
        exact ⟨ret_bool (by rw [hm.out, q5]; simp), mkStep⟩
      cases q6 : c.want.all lineB
      · go_wp2_with (first | (go_at_call 69; (with_reducible refine Calls.mono (icf ..) ?_); rintro e wk ⟨rfl, st⟩))
        go_ret
        exact ⟨ret_bool (by rw [hm.out, q6]; simp), mkStep⟩
      go_wp2_with (first | (go_at_call 69; (with_reducible refine Calls.mono (icf ..) ?_); rintro e wk ⟨rfl, st⟩))
      go_ret
      exact ⟨ret_bool (by rw [hm.out, q1, e3.out, q5, q6, hq.out, decide_eq_true q3, decide_eq_true q4]; simp), mkStep⟩
end Go.Proofs.YteeabcdibpnciaaDoor
