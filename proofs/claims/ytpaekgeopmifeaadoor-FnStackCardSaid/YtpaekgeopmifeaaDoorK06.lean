/- Contracts: InsOk, both sides; all of a body. -/
import Derived.Test.YtpaekgeopmifeaaDoorK05
namespace Go.Proofs.YtpaekgeopmifeaaDoor
attribute [local go_sem ↓] Go.wp_at_zero Go.wp_at_succ
open Go.RowKit
open Rep (Is sz)

theorem insOk_no {i : InsD} (h : knownB i.op = false) : insOk i = false := by unfold insOk; rw [h]; rfl
theorem insOk_1 {i : InsD} (h : knownB i.op = true) (k : kindOf i.op = 1) : insOk i = decide ((i.a = 0 ∨ i.a = 1) ∧ i.b = 0) := by unfold insOk; rw [h, k]; rfl
theorem insOk_2 {i : InsD} (h : knownB i.op = true) (k : kindOf i.op = 2) : insOk i = decide (0 ≤ i.a ∧ i.a ≤ 1000 ∧ i.b = 0) := by unfold insOk; rw [h, k]; rfl
theorem insOk_3 {i : InsD} (h : knownB i.op = true) (k : kindOf i.op = 3) : insOk i = decide (0 ≤ i.a ∧ i.a ≤ 2147483647 ∧ 0 ≤ i.b ∧ i.b ≤ 2) := by unfold insOk; rw [h, k]; rfl
theorem insOk_4 {i : InsD} (h : knownB i.op = true) (k : kindOf i.op = 4) : insOk i = decide (-2147483648 ≤ i.a ∧ i.a ≤ 2147483647 ∧ i.b = 0) := by unfold insOk; rw [h, k]; rfl
theorem insOk_0 {i : InsD} (h : knownB i.op = true) (k : kindOf i.op = 0) : insOk i = decide (i.a = 0 ∧ i.b = 0) := by unfold insOk; rw [h, k]; rfl


set_option maxHeartbeats 2000000 in
theorem sinsok {F : List Nat} {cs : List Value} (i : InsD) (w : World) [h : Shows w F i cs] : Calls Tryd.prog 70 #[.agg cs.toArray] w fun e w' => e = .returned (.bool (insOk i)) ∧ Step w w' := by
  obtain ⟨rfl, rfl, i0, i1, i2⟩ := ins_open h.is
  clear h
  have hkn := opName_known i.op
  have hc := kind_cases i.op
  go_enter Tryd.func70, Tryd.ntmps70
  cases q : knownB i.op
  · rw [q] at hkn
    have z : (opName i.op).toList = [] := str_void (by simpa using hkn.symm)
    have hr := hid (insOk_no q)
    clear hkn hc q
    go_wp2_with (first | (go_at_call 75; (with_reducible refine Calls.mono (sopname _ _ (by assumption)) ?_); rintro e wk ⟨rfl, st⟩))
    all_goals (go_ret; exact ⟨by rw [hr.out]; rfl, mkStep⟩)
  rw [q] at hkn
  obtain ⟨z1, z2⟩ := str_full (s := opName i.op) (by simpa using hkn.symm)
  clear hkn
  rcases hc with ⟨k, h5⟩ | ⟨k, h5⟩ | ⟨k, h5⟩ | ⟨k, h5⟩ | ⟨k, h5⟩ <;> clear h5
  · have hr := hid (insOk_1 q k)
    clear q
    by_cases ha : i.a = 0 ∨ i.a = 1 <;> by_cases hb : i.b = 0
    all_goals
      go_wp2_with (first | (go_at_call 75; (with_reducible refine Calls.mono (sopname _ _ (by assumption)) ?_); rintro e wk ⟨rfl, st⟩) | (go_at_call 39; (with_reducible refine Calls.mono (skind ..) ?_); rintro e wk ⟨rfl, st⟩))
      all_goals (go_ret; refine ⟨ret_bool ?_, mkStep⟩; rw [hr.out]; (try (first | (simp; done) | (simp [hb]; done) | (simp [ha, hb]; done) | (simp [hb]; omega) | (simp; omega) | (simp at *; omega))))
  · have hr := hid (insOk_2 q k)
    clear q
    by_cases ha : 0 ≤ i.a ∧ i.a ≤ 1000 <;> by_cases hb : i.b = 0
    all_goals
      go_wp2_with (first | (go_at_call 75; (with_reducible refine Calls.mono (sopname _ _ (by assumption)) ?_); rintro e wk ⟨rfl, st⟩) | (go_at_call 39; (with_reducible refine Calls.mono (skind ..) ?_); rintro e wk ⟨rfl, st⟩))
      all_goals (go_ret; refine ⟨ret_bool ?_, mkStep⟩; rw [hr.out]; (try (first | (simp; done) | (simp [hb]; done) | (simp [ha, hb]; done) | (simp [hb]; omega) | (simp; omega) | (simp at *; omega))))
  · have hr := hid (insOk_3 q k)
    clear q
    by_cases ha : 0 ≤ i.a ∧ i.a ≤ 2147483647 <;> by_cases hb : 0 ≤ i.b ∧ i.b ≤ 2
    all_goals
      go_wp2_with (first | (go_at_call 75; (with_reducible refine Calls.mono (sopname _ _ (by assumption)) ?_); rintro e wk ⟨rfl, st⟩) | (go_at_call 39; (with_reducible refine Calls.mono (skind ..) ?_); rintro e wk ⟨rfl, st⟩))
      all_goals (go_ret; refine ⟨ret_bool ?_, mkStep⟩; rw [hr.out]; (try (first | (simp; done) | (simp [hb]; done) | (simp [ha, hb]; done) | (simp [hb]; omega) | (simp; omega) | (simp at *; omega))))
  · have hr := hid (insOk_4 q k)
    clear q
    have hw := wrap_in32' i.a
    by_cases ha : -2147483648 ≤ i.a ∧ i.a ≤ 2147483647
    · have e1 : (wrap32 i.a == i.a) = true := beq_iff_eq.2 (hw.2 ha)
      replace hw := hid hw
      by_cases hb : i.b = 0
      all_goals
        go_wp2_with (first | (go_at_call 75; (with_reducible refine Calls.mono (sopname _ _ (by assumption)) ?_); rintro e wk ⟨rfl, st⟩) | (go_at_call 39; (with_reducible refine Calls.mono (skind ..) ?_); rintro e wk ⟨rfl, st⟩))
        refine rg_begin0 (n := 12) (by kernel_rfl) rfl fun rg0 => ?_
        refine rg_read (i := 0) (a1 := _) rfl (by kernel_rfl) rfl (by simp) (by intro wq hwq; go_wp2; exact ⟨rfl, rfl⟩) mkStep ?_
        refine rg_read (i := 1) (a1 := _) rfl (by kernel_rfl) rfl (by simp) (by intro wq hwq; go_wp2; exact ⟨rfl, rfl⟩) mkStep ?_
        refine rg_read (i := 3) (a1 := _) rfl (by kernel_rfl) rfl (by simp) (by intro wq hwq; go_wp2; exact ⟨rfl, rfl⟩) mkStep ?_
        refine rg_read (i := 4) (a1 := _) rfl (by kernel_rfl) rfl (by simp) (by intro wq hwq; go_wp2; exact ⟨rfl, rfl⟩) mkStep ?_
        refine rg_eff (i := 2) rfl (by kernel_rfl) ?_
        simp only [List.getElem_toArray, List.getElem_cons_succ, List.getElem_cons_zero]
        go_wp2_with (first | (go_at_call 40; (with_reducible refine Calls.mono (swrap_any ..) ?_); rintro e wk ⟨rfl, rfl⟩))
        refine ⟨mkStep, ?_⟩
        refine rg_read (i := 5) (a1 := _) rfl (by kernel_rfl) rfl (by simp) (by intro wq hwq; go_wp2; exact ⟨rfl, rfl⟩) mkStep ?_
        refine rg_read (i := 6) (a1 := _) rfl (by kernel_rfl) rfl (by simp) (by intro wq hwq; go_wp2; exact ⟨rfl, rfl⟩) mkStep ?_
        refine rg_read (i := 7) (a1 := _) rfl (by kernel_rfl) rfl (by simp) (by intro wq hwq; go_wp2; exact ⟨rfl, rfl⟩) mkStep ?_
        refine rg_read (i := 8) (a1 := _) rfl (by kernel_rfl) rfl (by simp) (by intro wq hwq; go_wp2; exact ⟨rfl, rfl⟩) mkStep ?_
        refine rg_read (i := 9) (a1 := _) rfl (by kernel_rfl) rfl (by simp) (by intro wq hwq; go_wp2; exact ⟨rfl, rfl⟩) mkStep ?_
        refine rg_read (i := 10) (a1 := _) rfl (by kernel_rfl) rfl (by simp) (by intro wq hwq; go_wp2; exact ⟨rfl, rfl⟩) mkStep ?_
        refine rg_read (i := 11) (a1 := _) rfl (by kernel_rfl) rfl (by simp) (by intro wq hwq; go_wp2; exact ⟨rfl, rfl⟩) mkStep ?_
        refine rg_done (by kernel_rfl) ?_
        go_wp2
        all_goals (go_ret; refine ⟨ret_bool ?_, mkStep⟩; rw [hr.out]; (try (first | (simp; done) | (simp [hb]; done) | (simp [ha, hb]; done) | (simp [hb]; omega) | (simp; omega) | (simp at *; omega))))
    · have e1 : (wrap32 i.a == i.a) = false := beq_eq_false_iff_ne.2 (fun e => ha (hw.1 e))
      replace hw := hid hw
      by_cases hb : i.b = 0
      all_goals
        go_wp2_with (first | (go_at_call 75; (with_reducible refine Calls.mono (sopname _ _ (by assumption)) ?_); rintro e wk ⟨rfl, st⟩) | (go_at_call 39; (with_reducible refine Calls.mono (skind ..) ?_); rintro e wk ⟨rfl, st⟩))
        refine rg_begin0 (n := 12) (by kernel_rfl) rfl fun rg0 => ?_
        refine rg_read (i := 0) (a1 := _) rfl (by kernel_rfl) rfl (by simp) (by intro wq hwq; go_wp2; exact ⟨rfl, rfl⟩) mkStep ?_
        refine rg_read (i := 1) (a1 := _) rfl (by kernel_rfl) rfl (by simp) (by intro wq hwq; go_wp2; exact ⟨rfl, rfl⟩) mkStep ?_
        refine rg_read (i := 3) (a1 := _) rfl (by kernel_rfl) rfl (by simp) (by intro wq hwq; go_wp2; exact ⟨rfl, rfl⟩) mkStep ?_
        refine rg_read (i := 4) (a1 := _) rfl (by kernel_rfl) rfl (by simp) (by intro wq hwq; go_wp2; exact ⟨rfl, rfl⟩) mkStep ?_
        refine rg_eff (i := 2) rfl (by kernel_rfl) ?_
        simp only [List.getElem_toArray, List.getElem_cons_succ, List.getElem_cons_zero]
        go_wp2_with (first | (go_at_call 40; (with_reducible refine Calls.mono (swrap_any ..) ?_); rintro e wk ⟨rfl, rfl⟩))
        refine ⟨mkStep, ?_⟩
        refine rg_read (i := 5) (a1 := _) rfl (by kernel_rfl) rfl (by simp) (by intro wq hwq; go_wp2; exact ⟨rfl, rfl⟩) mkStep ?_
        refine rg_read (i := 6) (a1 := _) rfl (by kernel_rfl) rfl (by simp) (by intro wq hwq; go_wp2; exact ⟨rfl, rfl⟩) mkStep ?_
        refine rg_read (i := 7) (a1 := _) rfl (by kernel_rfl) rfl (by simp) (by intro wq hwq; go_wp2; exact ⟨rfl, rfl⟩) mkStep ?_
        refine rg_read (i := 8) (a1 := _) rfl (by kernel_rfl) rfl (by simp) (by intro wq hwq; go_wp2; exact ⟨rfl, rfl⟩) mkStep ?_
        refine rg_read (i := 9) (a1 := _) rfl (by kernel_rfl) rfl (by simp) (by intro wq hwq; go_wp2; exact ⟨rfl, rfl⟩) mkStep ?_
        refine rg_read (i := 10) (a1 := _) rfl (by kernel_rfl) rfl (by simp) (by intro wq hwq; go_wp2; exact ⟨rfl, rfl⟩) mkStep ?_
        refine rg_read (i := 11) (a1 := _) rfl (by kernel_rfl) rfl (by simp) (by intro wq hwq; go_wp2; exact ⟨rfl, rfl⟩) mkStep ?_
        refine rg_done (by kernel_rfl) ?_
        go_wp2
        all_goals (go_ret; refine ⟨ret_bool ?_, mkStep⟩; rw [hr.out]; (try (first | (simp; done) | (simp [hb]; done) | (simp [ha, hb]; done) | (simp [hb]; omega) | (simp; omega) | (simp at *; omega))))
  · have hr := hid (insOk_0 q k)
    clear q
    by_cases ha : i.a = 0 <;> by_cases hb : i.b = 0
    all_goals
      go_wp2_with (first | (go_at_call 75; (with_reducible refine Calls.mono (sopname _ _ (by assumption)) ?_); rintro e wk ⟨rfl, st⟩) | (go_at_call 39; (with_reducible refine Calls.mono (skind ..) ?_); rintro e wk ⟨rfl, st⟩))
      all_goals (go_ret; refine ⟨ret_bool ?_, mkStep⟩; rw [hr.out]; (try (first | (simp; done) | (simp [hb]; done) | (simp [ha, hb]; done) | (simp [hb]; omega) | (simp; omega) | (simp at *; omega))))

set_option maxHeartbeats 2000000 in
theorem iinsok {F : List Nat} {cs : List Value} (i : InsD) (w : World) [h : Shows w F i cs] : Calls Tryd.prog 54 #[.agg cs.toArray] w fun e w' => e = .returned (.bool (insOk i)) ∧ Step w w' := by
  obtain ⟨rfl, rfl, i0, i1, i2⟩ := ins_open h.is
  clear h
  have hc := kind_cases i.op
  go_enter Tryd.func54, Tryd.ntmps54
  cases q : knownB i.op
  · have q' : decide (i.op ∈ codesL) = false := q
    have hr := hid (insOk_no q)
    clear hc q
    go_wp2_with fail
    refine rg_begin0 (n := 5) (by kernel_rfl) rfl fun rg0 => ?_
    refine rg_read (i := 1) (a1 := _) rfl (by kernel_rfl) rfl (by simp) (by intro wq hwq; go_wp2; exact ⟨rfl, rfl⟩) mkStep ?_
    refine rg_read (i := 2) (a1 := _) rfl (by kernel_rfl) rfl (by simp) (by intro wq hwq; go_wp2; exact ⟨rfl, rfl⟩) mkStep ?_
    refine rg_eff (i := 0) rfl (by kernel_rfl) ?_
    simp only [List.getElem_toArray, List.getElem_cons_zero]
    go_wp2_with (first | (go_at_call 67; (with_reducible refine Calls.mono (iopcodes ..) ?_); rintro e wk ⟨av, cv, F, rfl, kn, st⟩) | (go_at_call 66; (with_reducible refine Calls.mono (iconti ..) ?_); rintro e wk ⟨rfl, st⟩))
    refine ⟨mkStep, ?_⟩
    refine rg_eff (i := 3) rfl (by kernel_rfl) ?_
    simp only [List.getElem_toArray, List.getElem_cons_succ, List.getElem_cons_zero]
    go_wp2_with (first | (go_at_call 67; (with_reducible refine Calls.mono (iopcodes ..) ?_); rintro e wk ⟨av, cv, F, rfl, kn, st⟩) | (go_at_call 66; (with_reducible refine Calls.mono (iconti ..) ?_); rintro e wk ⟨rfl, st⟩))
    refine ⟨mkStep, ?_⟩
    refine rg_read (i := 4) (a1 := _) rfl (by kernel_rfl) rfl (by simp) (by intro wq hwq; go_wp2; exact ⟨rfl, rfl⟩) mkStep ?_
    refine rg_done (by kernel_rfl) ?_
    go_wp2
    all_goals (go_ret; exact ⟨by rw [hr.out]; rfl, mkStep⟩)
  have q' : decide (i.op ∈ codesL) = true := q
  rcases hc with ⟨k, hk⟩ | ⟨k, hk⟩ | ⟨k, hk⟩ | ⟨k, hk⟩ | ⟨k, hk⟩
  · have hr := hid (insOk_1 q k)
    clear q
    clear hk
    by_cases ha : 0 ≤ i.a ∧ i.a ≤ 1 <;> by_cases hb : i.b = 0
    all_goals
      go_wp2_with fail
      refine rg_begin0 (n := 5) (by kernel_rfl) rfl fun rg0 => ?_
      refine rg_read (i := 1) (a1 := _) rfl (by kernel_rfl) rfl (by simp) (by intro wq hwq; go_wp2; exact ⟨rfl, rfl⟩) mkStep ?_
      refine rg_read (i := 2) (a1 := _) rfl (by kernel_rfl) rfl (by simp) (by intro wq hwq; go_wp2; exact ⟨rfl, rfl⟩) mkStep ?_
      refine rg_eff (i := 0) rfl (by kernel_rfl) ?_
      simp only [List.getElem_toArray, List.getElem_cons_zero]
      go_wp2_with (first | (go_at_call 67; (with_reducible refine Calls.mono (iopcodes ..) ?_); rintro e wk ⟨av, cv, F, rfl, kn, st⟩) | (go_at_call 66; (with_reducible refine Calls.mono (iconti ..) ?_); rintro e wk ⟨rfl, st⟩))
      refine ⟨mkStep, ?_⟩
      refine rg_eff (i := 3) rfl (by kernel_rfl) ?_
      simp only [List.getElem_toArray, List.getElem_cons_succ, List.getElem_cons_zero]
      go_wp2_with (first | (go_at_call 67; (with_reducible refine Calls.mono (iopcodes ..) ?_); rintro e wk ⟨av, cv, F, rfl, kn, st⟩) | (go_at_call 66; (with_reducible refine Calls.mono (iconti ..) ?_); rintro e wk ⟨rfl, st⟩))
      refine ⟨mkStep, ?_⟩
      refine rg_read (i := 4) (a1 := _) rfl (by kernel_rfl) rfl (by simp) (by intro wq hwq; go_wp2; exact ⟨rfl, rfl⟩) mkStep ?_
      refine rg_done (by kernel_rfl) ?_
      go_wp2_with (first | (go_at_call 55; (with_reducible refine Calls.mono (ibegins ..) ?_); rintro e wk ⟨rfl, st⟩) | (go_at_call 68; (with_reducible refine Calls.mono (iindexed ..) ?_); rintro e wk ⟨rfl, st⟩) | (go_at_call 69; (with_reducible refine Calls.mono (imem ..) ?_); rintro e wk ⟨rfl, st⟩) | (go_at_call 17; (with_reducible refine Calls.mono (within_any ..) ?_); rintro e wk ⟨rfl, rfl⟩))
      all_goals (go_ret; refine ⟨ret_bool ?_, mkStep⟩; rw [hr.out]; (try (first | (simp; done) | (simp [hb]; done) | (simp [hb]; omega) | (simp; omega) | (simp at *; omega))))
  · have hr := hid (insOk_2 q k)
    clear q
    clear hk
    by_cases ha : 0 ≤ i.a ∧ i.a ≤ 1000 <;> by_cases hb : i.b = 0
    all_goals
      go_wp2_with fail
      refine rg_begin0 (n := 5) (by kernel_rfl) rfl fun rg0 => ?_
      refine rg_read (i := 1) (a1 := _) rfl (by kernel_rfl) rfl (by simp) (by intro wq hwq; go_wp2; exact ⟨rfl, rfl⟩) mkStep ?_
      refine rg_read (i := 2) (a1 := _) rfl (by kernel_rfl) rfl (by simp) (by intro wq hwq; go_wp2; exact ⟨rfl, rfl⟩) mkStep ?_
      refine rg_eff (i := 0) rfl (by kernel_rfl) ?_
      simp only [List.getElem_toArray, List.getElem_cons_zero]
      go_wp2_with (first | (go_at_call 67; (with_reducible refine Calls.mono (iopcodes ..) ?_); rintro e wk ⟨av, cv, F, rfl, kn, st⟩) | (go_at_call 66; (with_reducible refine Calls.mono (iconti ..) ?_); rintro e wk ⟨rfl, st⟩))
      refine ⟨mkStep, ?_⟩
      refine rg_eff (i := 3) rfl (by kernel_rfl) ?_
      simp only [List.getElem_toArray, List.getElem_cons_succ, List.getElem_cons_zero]
      go_wp2_with (first | (go_at_call 67; (with_reducible refine Calls.mono (iopcodes ..) ?_); rintro e wk ⟨av, cv, F, rfl, kn, st⟩) | (go_at_call 66; (with_reducible refine Calls.mono (iconti ..) ?_); rintro e wk ⟨rfl, st⟩))
      refine ⟨mkStep, ?_⟩
      refine rg_read (i := 4) (a1 := _) rfl (by kernel_rfl) rfl (by simp) (by intro wq hwq; go_wp2; exact ⟨rfl, rfl⟩) mkStep ?_
      refine rg_done (by kernel_rfl) ?_
      go_wp2_with (first | (go_at_call 55; (with_reducible refine Calls.mono (ibegins ..) ?_); rintro e wk ⟨rfl, st⟩) | (go_at_call 68; (with_reducible refine Calls.mono (iindexed ..) ?_); rintro e wk ⟨rfl, st⟩) | (go_at_call 69; (with_reducible refine Calls.mono (imem ..) ?_); rintro e wk ⟨rfl, st⟩) | (go_at_call 17; (with_reducible refine Calls.mono (within_any ..) ?_); rintro e wk ⟨rfl, rfl⟩))
      all_goals (go_ret; refine ⟨ret_bool ?_, mkStep⟩; rw [hr.out]; (try (first | (simp; done) | (simp [hb]; done) | (simp [ha, hb]; done) | (simp [hb]; omega) | (simp; omega) | (simp at *; omega))))
  · have hr := hid (insOk_3 q k)
    clear q
    clear hk
    by_cases ha : 0 ≤ i.a ∧ i.a ≤ 2147483647 <;> by_cases hb : 0 ≤ i.b ∧ i.b ≤ 2
    all_goals
      go_wp2_with fail
      refine rg_begin0 (n := 5) (by kernel_rfl) rfl fun rg0 => ?_
      refine rg_read (i := 1) (a1 := _) rfl (by kernel_rfl) rfl (by simp) (by intro wq hwq; go_wp2; exact ⟨rfl, rfl⟩) mkStep ?_
      refine rg_read (i := 2) (a1 := _) rfl (by kernel_rfl) rfl (by simp) (by intro wq hwq; go_wp2; exact ⟨rfl, rfl⟩) mkStep ?_
      refine rg_eff (i := 0) rfl (by kernel_rfl) ?_
      simp only [List.getElem_toArray, List.getElem_cons_zero]
      go_wp2_with (first | (go_at_call 67; (with_reducible refine Calls.mono (iopcodes ..) ?_); rintro e wk ⟨av, cv, F, rfl, kn, st⟩) | (go_at_call 66; (with_reducible refine Calls.mono (iconti ..) ?_); rintro e wk ⟨rfl, st⟩))
      refine ⟨mkStep, ?_⟩
      refine rg_eff (i := 3) rfl (by kernel_rfl) ?_
      simp only [List.getElem_toArray, List.getElem_cons_succ, List.getElem_cons_zero]
      go_wp2_with (first | (go_at_call 67; (with_reducible refine Calls.mono (iopcodes ..) ?_); rintro e wk ⟨av, cv, F, rfl, kn, st⟩) | (go_at_call 66; (with_reducible refine Calls.mono (iconti ..) ?_); rintro e wk ⟨rfl, st⟩))
      refine ⟨mkStep, ?_⟩
      refine rg_read (i := 4) (a1 := _) rfl (by kernel_rfl) rfl (by simp) (by intro wq hwq; go_wp2; exact ⟨rfl, rfl⟩) mkStep ?_
      refine rg_done (by kernel_rfl) ?_
      go_wp2_with (first | (go_at_call 55; (with_reducible refine Calls.mono (ibegins ..) ?_); rintro e wk ⟨rfl, st⟩) | (go_at_call 68; (with_reducible refine Calls.mono (iindexed ..) ?_); rintro e wk ⟨rfl, st⟩) | (go_at_call 69; (with_reducible refine Calls.mono (imem ..) ?_); rintro e wk ⟨rfl, st⟩) | (go_at_call 17; (with_reducible refine Calls.mono (within_any ..) ?_); rintro e wk ⟨rfl, rfl⟩))
      all_goals (go_ret; refine ⟨ret_bool ?_, mkStep⟩; rw [hr.out]; (try (first | (simp; done) | (simp [hb]; done) | (simp [ha, hb]; done) | (simp [hb]; omega) | (simp; omega) | (simp at *; omega))))
  · have hr := hid (insOk_4 q k)
    clear q
    have b1 : (i.op == 65) = true := by simp [hk]
    clear hk
    by_cases ha : -2147483648 ≤ i.a ∧ i.a ≤ 2147483647 <;> by_cases hb : i.b = 0
    all_goals
      go_wp2_with fail
      refine rg_begin0 (n := 5) (by kernel_rfl) rfl fun rg0 => ?_
      refine rg_read (i := 1) (a1 := _) rfl (by kernel_rfl) rfl (by simp) (by intro wq hwq; go_wp2; exact ⟨rfl, rfl⟩) mkStep ?_
      refine rg_read (i := 2) (a1 := _) rfl (by kernel_rfl) rfl (by simp) (by intro wq hwq; go_wp2; exact ⟨rfl, rfl⟩) mkStep ?_
      refine rg_eff (i := 0) rfl (by kernel_rfl) ?_
      simp only [List.getElem_toArray, List.getElem_cons_zero]
      go_wp2_with (first | (go_at_call 67; (with_reducible refine Calls.mono (iopcodes ..) ?_); rintro e wk ⟨av, cv, F, rfl, kn, st⟩) | (go_at_call 66; (with_reducible refine Calls.mono (iconti ..) ?_); rintro e wk ⟨rfl, st⟩))
      refine ⟨mkStep, ?_⟩
      refine rg_eff (i := 3) rfl (by kernel_rfl) ?_
      simp only [List.getElem_toArray, List.getElem_cons_succ, List.getElem_cons_zero]
      go_wp2_with (first | (go_at_call 67; (with_reducible refine Calls.mono (iopcodes ..) ?_); rintro e wk ⟨av, cv, F, rfl, kn, st⟩) | (go_at_call 66; (with_reducible refine Calls.mono (iconti ..) ?_); rintro e wk ⟨rfl, st⟩))
      refine ⟨mkStep, ?_⟩
      refine rg_read (i := 4) (a1 := _) rfl (by kernel_rfl) rfl (by simp) (by intro wq hwq; go_wp2; exact ⟨rfl, rfl⟩) mkStep ?_
      refine rg_done (by kernel_rfl) ?_
      go_wp2_with (first | (go_at_call 55; (with_reducible refine Calls.mono (ibegins ..) ?_); rintro e wk ⟨rfl, st⟩) | (go_at_call 68; (with_reducible refine Calls.mono (iindexed ..) ?_); rintro e wk ⟨rfl, st⟩) | (go_at_call 69; (with_reducible refine Calls.mono (imem ..) ?_); rintro e wk ⟨rfl, st⟩) | (go_at_call 17; (with_reducible refine Calls.mono (within_any ..) ?_); rintro e wk ⟨rfl, rfl⟩))
      all_goals (go_ret; refine ⟨ret_bool ?_, mkStep⟩; rw [hr.out]; (try (first | (simp; done) | (simp [hb]; done) | (simp [ha, hb]; done) | (simp [hb]; omega) | (simp; omega) | (simp at *; omega))))
  · have hr := hid (insOk_0 q k)
    clear q
    have b1 : (i.op == 65) = false := by simp [hk]
    clear hk
    by_cases ha : i.a = 0 <;> by_cases hb : i.b = 0
    all_goals
      go_wp2_with fail
      refine rg_begin0 (n := 5) (by kernel_rfl) rfl fun rg0 => ?_
      refine rg_read (i := 1) (a1 := _) rfl (by kernel_rfl) rfl (by simp) (by intro wq hwq; go_wp2; exact ⟨rfl, rfl⟩) mkStep ?_
      refine rg_read (i := 2) (a1 := _) rfl (by kernel_rfl) rfl (by simp) (by intro wq hwq; go_wp2; exact ⟨rfl, rfl⟩) mkStep ?_
      refine rg_eff (i := 0) rfl (by kernel_rfl) ?_
      simp only [List.getElem_toArray, List.getElem_cons_zero]
      go_wp2_with (first | (go_at_call 67; (with_reducible refine Calls.mono (iopcodes ..) ?_); rintro e wk ⟨av, cv, F, rfl, kn, st⟩) | (go_at_call 66; (with_reducible refine Calls.mono (iconti ..) ?_); rintro e wk ⟨rfl, st⟩))
      refine ⟨mkStep, ?_⟩
      refine rg_eff (i := 3) rfl (by kernel_rfl) ?_
      simp only [List.getElem_toArray, List.getElem_cons_succ, List.getElem_cons_zero]
      go_wp2_with (first | (go_at_call 67; (with_reducible refine Calls.mono (iopcodes ..) ?_); rintro e wk ⟨av, cv, F, rfl, kn, st⟩) | (go_at_call 66; (with_reducible refine Calls.mono (iconti ..) ?_); rintro e wk ⟨rfl, st⟩))
      refine ⟨mkStep, ?_⟩
      refine rg_read (i := 4) (a1 := _) rfl (by kernel_rfl) rfl (by simp) (by intro wq hwq; go_wp2; exact ⟨rfl, rfl⟩) mkStep ?_
      refine rg_done (by kernel_rfl) ?_
      go_wp2_with (first | (go_at_call 55; (with_reducible refine Calls.mono (ibegins ..) ?_); rintro e wk ⟨rfl, st⟩) | (go_at_call 68; (with_reducible refine Calls.mono (iindexed ..) ?_); rintro e wk ⟨rfl, st⟩) | (go_at_call 69; (with_reducible refine Calls.mono (imem ..) ?_); rintro e wk ⟨rfl, st⟩) | (go_at_call 17; (with_reducible refine Calls.mono (within_any ..) ?_); rintro e wk ⟨rfl, rfl⟩))
      all_goals (go_ret; refine ⟨ret_bool ?_, mkStep⟩; rw [hr.out]; (try (first | (simp; done) | (simp [hb]; done) | (simp [ha, hb]; done) | (simp [hb]; omega) | (simp; omega) | (simp at *; omega))))
end Go.Proofs.YtpaekgeopmifeaaDoor
