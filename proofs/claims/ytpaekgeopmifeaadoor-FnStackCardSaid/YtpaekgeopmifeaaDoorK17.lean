/- Contracts: what goes through a body, spec's side: an instruction; the begin. -/
import Derived.Test.YtpaekgeopmifeaaDoorK16
namespace Go.Proofs.YtpaekgeopmifeaaDoor
attribute [local go_sem ↓] Go.wp_at_zero Go.wp_at_succ
open Go.RowKit
open Rep (Is sz)

theorem mh_open {w : World} {F : List Nat} {m : ModuleD} {M : MH} (h : Is w F m M.cells) :
    ∃ a1 k1 a2 k2 a3 k3 a4 k4 a5 k5 a6 k6 F1 F2 F3 F4 F5 F6, M = ⟨.slice a1 m.sigs.length k1, .slice a2 m.imports.length k2, .slice a3 m.funcs.length k3, m.pages, m.most, .slice a4 m.globals.length k4, .slice a5 m.exports.length k5, .slice a6 m.data.length k6⟩ ∧ F = F1 ++ F2 ++ F3 ++ F4 ++ F5 ++ F6 ∧ Is w F1 m.sigs [.slice a1 m.sigs.length k1] ∧ Is w F2 m.imports [.slice a2 m.imports.length k2] ∧ Is w F3 m.funcs [.slice a3 m.funcs.length k3] ∧ Is w F4 m.globals [.slice a4 m.globals.length k4] ∧ Is w F5 m.exports [.slice a5 m.exports.length k5] ∧ Is w F6 m.data [.slice a6 m.data.length k6] ∧ In64 m.pages ∧ In64 m.most := by
  obtain ⟨a1, k1, a2, k2, a3, k3, a4, k4, a5, k5, a6, k6, F1, F2, F3, F4, F5, F6, hc, hF, h1, h2, h3, h4, h5, h6, i3, i4⟩ := module_open h
  refine ⟨a1, k1, a2, k2, a3, k3, a4, k4, a5, k5, a6, k6, F1, F2, F3, F4, F5, F6, ?_, hF, h1, h2, h3, h4, h5, h6, i3, i4⟩
  obtain ⟨s, i, f, pg, mo, g, e, d⟩ := M
  simp only [List.cons.injEq, Value.int.injEq, true_and, and_true] at hc
  obtain ⟨rfl, rfl, rfl, rfl, rfl, rfl, rfl, rfl⟩ := hc
  rfl
theorem mh_of {w : World} {F : List Nat} {m : ModuleD} {cs : List Value} (h : Is w F m cs) : ∃ M : MH, cs = M.cells := by
  obtain ⟨a1, k1, a2, k2, a3, k3, a4, k4, a5, k5, a6, k6, F1, F2, F3, F4, F5, F6, hc, -⟩ := module_open h
  exact ⟨⟨_, _, _, _, _, _, _, _⟩, hc⟩

theorem hasC_16 {m : ModuleD} {loc : Int} {i : InsD} (h : i.op = 16) : hasC m loc i = (sigC m i.a).isSome := if_pos h
theorem hasC_get {m : ModuleD} {loc : Int} {i : InsD} (h : i.op = 32 ∨ i.op = 33 ∨ i.op = 34) : hasC m loc i = decide (i.a < loc) := by unfold hasC; rw [if_neg (by omega), if_pos h]
theorem hasC_35 {m : ModuleD} {loc : Int} {i : InsD} (h : i.op = 35) : hasC m loc i = decide (i.a < m.globals.length) := by unfold hasC; rw [if_neg (by omega), if_neg (by omega), if_pos h]
theorem hasC_36 {m : ModuleD} {loc : Int} {i : InsD} {k : Nat} (h : i.op = 36) (e : i.a = (k : Int)) (hk : k < m.globals.length) : hasC m loc i = m.globals[k].isMut := by
  unfold hasC
  rw [if_neg (by omega), if_neg (by omega), if_neg (by omega), if_pos h, e, Int.toNat_natCast, List.getElem?_eq_getElem hk, decide_eq_true (by omega)]
  rfl
theorem hasC_36n {m : ModuleD} {loc : Int} {i : InsD} (h : i.op = 36) (hk : ¬ i.a < m.globals.length) : hasC m loc i = false := by
  unfold hasC
  rw [if_neg (by omega), if_neg (by omega), if_neg (by omega), if_pos h, decide_eq_false hk]
  rfl
theorem hasC_mem {m : ModuleD} {loc : Int} {i : InsD} (h : i.op = 40 ∨ i.op = 54 ∨ i.op = 63 ∨ i.op = 64) : hasC m loc i = decide (0 ≤ m.pages) := by unfold hasC; rw [if_neg (by omega), if_neg (by omega), if_neg (by omega), if_neg (by omega), if_pos h]
theorem hasC_other {m : ModuleD} {loc : Int} {i : InsD} (h : ¬ (i.op = 16 ∨ (32 ≤ i.op ∧ i.op ≤ 36) ∨ i.op = 40 ∨ i.op = 54 ∨ i.op = 63 ∨ i.op = 64)) : hasC m loc i = true := by unfold hasC; rw [if_neg (by omega), if_neg (by omega), if_neg (by omega), if_neg (by omega), if_neg (by omega)]

set_option maxRecDepth 10000 in
set_option maxHeartbeats 2000000 in
theorem shasB {p : Nat} {F : List Nat} {M : MH} {loc h : Int} {st : Value} {bad : Bool} (m : ModuleD) (i : InsD) (w : World) (pa : SigIn m) (hk2 : i.op = 12 ∨ i.op = 13 ∨ i.op = 16 ∨ (32 ≤ i.op ∧ i.op ≤ 36) → 0 ≤ i.a ∧ i.a ≤ 1000) [bx : BoxL w p (sv M loc h st bad)] [hm : Shows w F m M.cells] :
    Calls Tryd.prog 29 #[.pointer (some ⟨p, 0, none⟩), .agg #[.int .i64 i.op, .int .i64 i.a, .int .i64 i.b]] w fun e w' => e = .returned (.bool (hasC m loc i)) ∧ Step w w' := by
  have kk := hm.known
  obtain ⟨a1, k1, a2, k2, a3, k3, a4, k4, a5, k5, a6, k6, F1, F2, F3, F4, F5, F6, rfl, rfl, h1, h2, h3, h4, h5, h6, i3, i4⟩ := mh_open hm.is
  clear hm
  obtain ⟨_, _, cl4, FF4, hv, _, hvw4, hr4, hml4⟩ := list_open h4
  cases hv
  unfold maxLen at hml4
  have opp := bx.old
  have hgl : (m.globals.length : Int) ≤ 9223372036854775807 := by omega
  obtain ⟨op, a, b⟩ := i
  simp only at hk2
  by_cases o16 : op = 16
  · subst o16
    have r := hid (hasC_16 (m := m) (loc := loc) (i := ⟨16, a, b⟩) rfl)
    clear hk2
    go_enter Tryd.func29, Tryd.ntmps29
    go_wp2_with fail
    have nbA : ∀ o, NewB (w.alloc o) (w.heap.size + 1) := fun o => ⟨by simp⟩
    refine rg_begin0 (n := 13) (by kernel_rfl) rfl fun rg0 => ?_
    refine rg_read (i := 0) (a1 := _) rfl (by kernel_rfl) rfl (by simp) (by intro wq hwq; go_wp2; exact ⟨rfl, rfl⟩) mkStep ?_
    refine rg_read (i := 1) (a1 := _) rfl (by kernel_rfl) rfl (by simp) (by intro wq hwq; go_wp2; exact ⟨rfl, rfl⟩) mkStep ?_
    refine rg_read (i := 2) (a1 := _) rfl (by kernel_rfl) rfl (by simp) (by intro wq hwq; go_wp2; exact ⟨rfl, rfl⟩) mkStep ?_
    refine rg_read (i := 3) (a1 := _) rfl (by kernel_rfl) rfl (by simp) (by intro wq hwq; go_wp2; exact ⟨rfl, rfl⟩) mkStep ?_
    refine rg_read (i := 4) (a1 := _) rfl (by kernel_rfl) rfl (by simp) (by intro wq hwq; go_wp2; exact ⟨rfl, rfl⟩) mkStep ?_
    refine rg_read (i := 5) (a1 := _) rfl (by kernel_rfl) rfl (by simp) (by intro wq hwq; go_wp2; exact ⟨rfl, rfl⟩) mkStep ?_
    refine rg_two (i := 6) (j := 10) rfl rfl (by kernel_rfl) ?_ ?_
    · simp only [List.getElem_toArray, List.getElem_cons_succ, List.getElem_cons_zero]
      go_wp2_with (first | (go_at_call 50; (with_reducible refine Calls.mono (ssig _ _ _ (by assumption)) ?_); rintro e wk ⟨rfl, st⟩))
      refine ⟨mkStep, ?_⟩
      refine rg_read (i := 7) (a1 := _) rfl (by kernel_rfl) rfl (by simp) (by intro wq hwq; go_wp2; exact ⟨rfl, rfl⟩) mkStep ?_
      refine rg_read (i := 8) (a1 := _) rfl (by kernel_rfl) rfl (by simp) (by intro wq hwq; go_wp2; exact ⟨rfl, rfl⟩) mkStep ?_
      refine rg_read (i := 9) (a1 := _) rfl (by kernel_rfl) rfl (by simp) (by intro wq hwq; go_wp2; exact ⟨rfl, rfl⟩) mkStep ?_
      refine rg_eff (i := 10) rfl (by kernel_rfl) ?_
      simp only [List.getElem_toArray, List.getElem_cons_succ, List.getElem_cons_zero]
      go_wp2_with (first | (go_at_call 50; (with_reducible refine Calls.mono (ssig _ _ _ (by assumption)) ?_); rintro e wk ⟨rfl, st⟩))
      refine ⟨mkStep, ?_⟩
      refine rg_eff (i := 11) rfl (by kernel_rfl) ?_
      simp only [List.getElem_toArray, List.getElem_cons_succ, List.getElem_cons_zero]
      go_wp2_with (first | (go_at_call 50; (with_reducible refine Calls.mono (ssig _ _ _ (by assumption)) ?_); rintro e wk ⟨rfl, st⟩))
      refine ⟨mkStep, ?_⟩
      refine rg_read (i := 12) (a1 := _) rfl (by kernel_rfl) rfl (by simp) (by intro wq hwq; go_wp2; exact ⟨rfl, rfl⟩) mkStep ?_
      refine rg_done (by kernel_rfl) ?_
      go_wp2
      go_ret
      exact ⟨by rw [r.out]; rfl, mkStep⟩
    · simp only [List.getElem_toArray, List.getElem_cons_succ, List.getElem_cons_zero]
      go_wp2_with (first | (go_at_call 50; (with_reducible refine Calls.mono (ssig _ _ _ (by assumption)) ?_); rintro e wk ⟨rfl, st⟩))
      refine ⟨mkStep, ?_⟩
      refine rg_eff (i := 6) rfl (by kernel_rfl) ?_
      simp only [List.getElem_toArray, List.getElem_cons_succ, List.getElem_cons_zero]
      go_wp2_with (first | (go_at_call 50; (with_reducible refine Calls.mono (ssig _ _ _ (by assumption)) ?_); rintro e wk ⟨rfl, st⟩))
      refine ⟨mkStep, ?_⟩
      refine rg_read (i := 7) (a1 := _) rfl (by kernel_rfl) rfl (by simp) (by intro wq hwq; go_wp2; exact ⟨rfl, rfl⟩) mkStep ?_
      refine rg_read (i := 8) (a1 := _) rfl (by kernel_rfl) rfl (by simp) (by intro wq hwq; go_wp2; exact ⟨rfl, rfl⟩) mkStep ?_
      refine rg_read (i := 9) (a1 := _) rfl (by kernel_rfl) rfl (by simp) (by intro wq hwq; go_wp2; exact ⟨rfl, rfl⟩) mkStep ?_
      refine rg_eff (i := 11) rfl (by kernel_rfl) ?_
      simp only [List.getElem_toArray, List.getElem_cons_succ, List.getElem_cons_zero]
      go_wp2_with (first | (go_at_call 50; (with_reducible refine Calls.mono (ssig _ _ _ (by assumption)) ?_); rintro e wk ⟨rfl, st⟩))
      refine ⟨mkStep, ?_⟩
      refine rg_read (i := 12) (a1 := _) rfl (by kernel_rfl) rfl (by simp) (by intro wq hwq; go_wp2; exact ⟨rfl, rfl⟩) mkStep ?_
      refine rg_done (by kernel_rfl) ?_
      go_wp2
      go_ret
      exact ⟨by rw [r.out]; rfl, mkStep⟩
  by_cases oget : op = 32 ∨ op = 33 ∨ op = 34
  · have r := hid (hasC_get (m := m) (loc := loc) (i := ⟨op, a, b⟩) oget)
    clear hk2 o16
    rcases oget with rfl | rfl | rfl
    all_goals
      go_enter Tryd.func29, Tryd.ntmps29
      go_wp2_with fail
      refine rg_begin0 (n := 8) (by kernel_rfl) rfl fun rg0 => ?_
      refine rg_read (i := 0) (a1 := _) rfl (by kernel_rfl) rfl (by simp) (by intro wq hwq; go_wp2; exact ⟨rfl, rfl⟩) mkStep ?_
      refine rg_read (i := 1) (a1 := _) rfl (by kernel_rfl) rfl (by simp) (by intro wq hwq; go_wp2; exact ⟨rfl, rfl⟩) mkStep ?_
      refine rg_read (i := 2) (a1 := _) rfl (by kernel_rfl) rfl (by simp) (by intro wq hwq; go_wp2; exact ⟨rfl, rfl⟩) mkStep ?_
      refine rg_read (i := 3) (a1 := _) rfl (by kernel_rfl) rfl (by simp) (by intro wq hwq; go_wp2; exact ⟨rfl, rfl⟩) mkStep ?_
      refine rg_read (i := 4) (a1 := _) rfl (by kernel_rfl) rfl (by simp) (by intro wq hwq; go_wp2; exact ⟨rfl, rfl⟩) mkStep ?_
      refine rg_read (i := 5) (a1 := _) rfl (by kernel_rfl) rfl (by simp) (by intro wq hwq; go_wp2; exact ⟨rfl, rfl⟩) mkStep ?_
      refine rg_read (i := 6) (a1 := _) rfl (by kernel_rfl) rfl (by simp) (by intro wq hwq; go_wp2; exact ⟨rfl, rfl⟩) mkStep ?_
      refine rg_read (i := 7) (a1 := _) rfl (by kernel_rfl) rfl (by simp) (by intro wq hwq; go_wp2; exact ⟨rfl, rfl⟩) mkStep ?_
      refine rg_done (by kernel_rfl) ?_
      go_wp2
      go_ret
      exact ⟨by rw [r.out]; rfl, mkStep⟩
  by_cases o35 : op = 35
  · subst o35
    have r := hid (hasC_35 (m := m) (loc := loc) (i := ⟨35, a, b⟩) rfl)
    clear hk2
    go_enter Tryd.func29, Tryd.ntmps29
    go_wp2_with fail
    refine rg_begin0 (n := 10) (by kernel_rfl) rfl fun rg0 => ?_
    refine rg_read (i := 0) (a1 := _) rfl (by kernel_rfl) rfl (by simp) (by intro wq hwq; go_wp2; exact ⟨rfl, rfl⟩) mkStep ?_
    refine rg_read (i := 1) (a1 := _) rfl (by kernel_rfl) rfl (by simp) (by intro wq hwq; go_wp2; exact ⟨rfl, rfl⟩) mkStep ?_
    refine rg_read (i := 2) (a1 := _) rfl (by kernel_rfl) rfl (by simp) (by intro wq hwq; go_wp2; exact ⟨rfl, rfl⟩) mkStep ?_
    refine rg_read (i := 3) (a1 := _) rfl (by kernel_rfl) rfl (by simp) (by intro wq hwq; go_wp2; exact ⟨rfl, rfl⟩) mkStep ?_
    refine rg_read (i := 4) (a1 := _) rfl (by kernel_rfl) rfl (by simp) (by intro wq hwq; go_wp2; exact ⟨rfl, rfl⟩) mkStep ?_
    refine rg_read (i := 5) (a1 := _) rfl (by kernel_rfl) rfl (by simp) (by intro wq hwq; go_wp2; exact ⟨rfl, rfl⟩) mkStep ?_
    refine rg_read (i := 6) (a1 := _) rfl (by kernel_rfl) rfl (by simp) (by intro wq hwq; go_wp2; exact ⟨rfl, rfl⟩) mkStep ?_
    refine rg_read (i := 7) (a1 := _) rfl (by kernel_rfl) rfl (by simp) (by intro wq hwq; go_wp2; exact ⟨rfl, rfl⟩) mkStep ?_
    refine rg_read (i := 8) (a1 := _) rfl (by kernel_rfl) rfl (by simp) (by intro wq hwq; go_wp2; exact ⟨rfl, rfl⟩) mkStep ?_
    refine rg_read (i := 9) (a1 := _) rfl (by kernel_rfl) rfl (by simp) (by intro wq hwq; go_wp2; exact ⟨rfl, rfl⟩) mkStep ?_
    refine rg_done (by kernel_rfl) ?_
    go_wp2
    go_ret
    exact ⟨by rw [r.out]; rfl, mkStep⟩
  by_cases o36 : op = 36
  · subst o36
    obtain ⟨k, rfl⟩ := Int.eq_ofNat_of_zero_le (hk2 (by omega)).1
    clear hk2
    by_cases hk : k < m.globals.length
    · have r := hid (hasC_36 (m := m) (loc := loc) (i := ⟨36, (k : Int), b⟩) rfl rfl hk)
      obtain ⟨be, oe, Ge, cse, rfl, hGe, hIe, hce, hoe⟩ := hvw4.row hr4 rfl (by decide) k hk
      have hI0e := hIe
      obtain ⟨rfl, rfl, i1e⟩ := global_open hI0e
      have kee : Known w _ m.globals[k] _ := ⟨hIe⟩
      have c0e := (hce 0 _ rfl).1
      replace c0e : w.cell? ⟨be, oe + k * 2, none⟩ = _ := c0e
      have c1e := (hce 1 _ rfl).1
      replace c1e : w.cell? ⟨be, oe + k * 2 + 1, none⟩ = _ := c1e
      clear hce
      go_enter Tryd.func29, Tryd.ntmps29
      go_wp2_with fail
      refine rg_begin0 (n := 22) (by kernel_rfl) rfl fun rg0 => ?_
      refine rg_read (i := 0) (a1 := _) rfl (by kernel_rfl) rfl (by simp) (by intro wq hwq; go_wp2; exact ⟨rfl, rfl⟩) mkStep ?_
      refine rg_read (i := 1) (a1 := _) rfl (by kernel_rfl) rfl (by simp) (by intro wq hwq; go_wp2; exact ⟨rfl, rfl⟩) mkStep ?_
      refine rg_read (i := 2) (a1 := _) rfl (by kernel_rfl) rfl (by simp) (by intro wq hwq; go_wp2; exact ⟨rfl, rfl⟩) mkStep ?_
      refine rg_read (i := 3) (a1 := _) rfl (by kernel_rfl) rfl (by simp) (by intro wq hwq; go_wp2; exact ⟨rfl, rfl⟩) mkStep ?_
      refine rg_read (i := 4) (a1 := _) rfl (by kernel_rfl) rfl (by simp) (by intro wq hwq; go_wp2; exact ⟨rfl, rfl⟩) mkStep ?_
      refine rg_read (i := 5) (a1 := _) rfl (by kernel_rfl) rfl (by simp) (by intro wq hwq; go_wp2; exact ⟨rfl, rfl⟩) mkStep ?_
      refine rg_read (i := 6) (a1 := _) rfl (by kernel_rfl) rfl (by simp) (by intro wq hwq; go_wp2; exact ⟨rfl, rfl⟩) mkStep ?_
      refine rg_read (i := 7) (a1 := _) rfl (by kernel_rfl) rfl (by simp) (by intro wq hwq; go_wp2; exact ⟨rfl, rfl⟩) mkStep ?_
      refine rg_read (i := 8) (a1 := _) rfl (by kernel_rfl) rfl (by simp) (by intro wq hwq; go_wp2; exact ⟨rfl, rfl⟩) mkStep ?_
      refine rg_read (i := 9) (a1 := _) rfl (by kernel_rfl) rfl (by simp) (by intro wq hwq; go_wp2; exact ⟨rfl, rfl⟩) mkStep ?_
      refine rg_read (i := 10) (a1 := _) rfl (by kernel_rfl) rfl (by simp) (by intro wq hwq; go_wp2; exact ⟨rfl, rfl⟩) mkStep ?_
      refine rg_read (i := 11) (a1 := _) rfl (by kernel_rfl) rfl (by simp) (by intro wq hwq; go_wp2; exact ⟨rfl, rfl⟩) mkStep ?_
      refine rg_read (i := 12) (a1 := _) rfl (by kernel_rfl) rfl (by simp) (by intro wq hwq; go_wp2; exact ⟨rfl, rfl⟩) mkStep ?_
      refine rg_read (i := 13) (a1 := _) rfl (by kernel_rfl) rfl (by simp) (by intro wq hwq; go_wp2; exact ⟨rfl, rfl⟩) mkStep ?_
      refine rg_read (i := 14) (a1 := _) rfl (by kernel_rfl) rfl (by simp) (by intro wq hwq; go_wp2; exact ⟨rfl, rfl⟩) mkStep ?_
      refine rg_read (i := 15) (a1 := _) rfl (by kernel_rfl) rfl (by simp) (by intro wq hwq; go_wp2; exact ⟨rfl, rfl⟩) mkStep ?_
      refine rg_read (i := 16) (a1 := _) rfl (by kernel_rfl) rfl (by simp) (by intro wq hwq; go_wp2; exact ⟨rfl, rfl⟩) mkStep ?_
      refine rg_read (i := 17) (a1 := _) rfl (by kernel_rfl) rfl (by simp) (by intro wq hwq; go_wp2; exact ⟨rfl, rfl⟩) mkStep ?_
      refine rg_read (i := 18) (a1 := _) rfl (by kernel_rfl) rfl (by simp) (by intro wq hwq; go_wp2; exact ⟨rfl, rfl⟩) mkStep ?_
      refine rg_read (i := 19) (a1 := _) rfl (by kernel_rfl) rfl (by simp) (by intro wq hwq; go_wp2; exact ⟨rfl, rfl⟩) mkStep ?_
      refine rg_read (i := 20) (a1 := _) rfl (by kernel_rfl) rfl (by simp) (by intro wq hwq; go_wp2; exact ⟨rfl, rfl⟩) mkStep ?_
      refine rg_read (i := 21) (a1 := _) rfl (by kernel_rfl) rfl (by simp) (by intro wq hwq; go_wp2; exact ⟨rfl, rfl⟩) mkStep ?_
      refine rg_done (by kernel_rfl) ?_
      go_wp2
      go_ret
      exact ⟨by rw [r.out]; rfl, mkStep⟩
    · have r := hid (hasC_36n (m := m) (loc := loc) (i := ⟨36, (k : Int), b⟩) rfl (by show ¬ (k : Int) < _; omega))
      go_enter Tryd.func29, Tryd.ntmps29
      go_wp2_with fail
      refine rg_begin0 (n := 22) (by kernel_rfl) rfl fun rg0 => ?_
      refine rg_read (i := 0) (a1 := _) rfl (by kernel_rfl) rfl (by simp) (by intro wq hwq; go_wp2; exact ⟨rfl, rfl⟩) mkStep ?_
      refine rg_read (i := 1) (a1 := _) rfl (by kernel_rfl) rfl (by simp) (by intro wq hwq; go_wp2; exact ⟨rfl, rfl⟩) mkStep ?_
      refine rg_read (i := 2) (a1 := _) rfl (by kernel_rfl) rfl (by simp) (by intro wq hwq; go_wp2; exact ⟨rfl, rfl⟩) mkStep ?_
      refine rg_read (i := 3) (a1 := _) rfl (by kernel_rfl) rfl (by simp) (by intro wq hwq; go_wp2; exact ⟨rfl, rfl⟩) mkStep ?_
      refine rg_read (i := 4) (a1 := _) rfl (by kernel_rfl) rfl (by simp) (by intro wq hwq; go_wp2; exact ⟨rfl, rfl⟩) mkStep ?_
      refine rg_read (i := 5) (a1 := _) rfl (by kernel_rfl) rfl (by simp) (by intro wq hwq; go_wp2; exact ⟨rfl, rfl⟩) mkStep ?_
      refine rg_read (i := 6) (a1 := _) rfl (by kernel_rfl) rfl (by simp) (by intro wq hwq; go_wp2; exact ⟨rfl, rfl⟩) mkStep ?_
      refine rg_read (i := 7) (a1 := _) rfl (by kernel_rfl) rfl (by simp) (by intro wq hwq; go_wp2; exact ⟨rfl, rfl⟩) mkStep ?_
      refine rg_read (i := 8) (a1 := _) rfl (by kernel_rfl) rfl (by simp) (by intro wq hwq; go_wp2; exact ⟨rfl, rfl⟩) mkStep ?_
      refine rg_read (i := 9) (a1 := _) rfl (by kernel_rfl) rfl (by simp) (by intro wq hwq; go_wp2; exact ⟨rfl, rfl⟩) mkStep ?_
      refine rg_read (i := 10) (a1 := _) rfl (by kernel_rfl) rfl (by simp) (by intro wq hwq; go_wp2; exact ⟨rfl, rfl⟩) mkStep ?_
      refine rg_read (i := 11) (a1 := _) rfl (by kernel_rfl) rfl (by simp) (by intro wq hwq; go_wp2; exact ⟨rfl, rfl⟩) mkStep ?_
      refine rg_read (i := 12) (a1 := _) rfl (by kernel_rfl) rfl (by simp) (by intro wq hwq; go_wp2; exact ⟨rfl, rfl⟩) mkStep ?_
      refine rg_read (i := 13) (a1 := _) rfl (by kernel_rfl) rfl (by simp) (by intro wq hwq; go_wp2; exact ⟨rfl, rfl⟩) mkStep ?_
      refine rg_read (i := 14) (a1 := _) rfl (by kernel_rfl) rfl (by simp) (by intro wq hwq; go_wp2; exact ⟨rfl, rfl⟩) mkStep ?_
      refine rg_read (i := 15) (a1 := _) rfl (by kernel_rfl) rfl (by simp) (by intro wq hwq; go_wp2; exact ⟨rfl, rfl⟩) mkStep ?_
      refine rg_read (i := 16) (a1 := _) rfl (by kernel_rfl) rfl (by simp) (by intro wq hwq; go_wp2; exact ⟨rfl, rfl⟩) mkStep ?_
      refine rg_read (i := 17) (a1 := _) rfl (by kernel_rfl) rfl (by simp) (by intro wq hwq; go_wp2; exact ⟨rfl, rfl⟩) mkStep ?_
      refine rg_read (i := 18) (a1 := _) rfl (by kernel_rfl) rfl (by simp) (by intro wq hwq; go_wp2; exact ⟨rfl, rfl⟩) mkStep ?_
      refine rg_read (i := 19) (a1 := _) rfl (by kernel_rfl) rfl (by simp) (by intro wq hwq; go_wp2; exact ⟨rfl, rfl⟩) mkStep ?_
      refine rg_read (i := 20) (a1 := _) rfl (by kernel_rfl) rfl (by simp) (by intro wq hwq; go_wp2; exact ⟨rfl, rfl⟩) mkStep ?_
      refine rg_read (i := 21) (a1 := _) rfl (by kernel_rfl) rfl (by simp) (by intro wq hwq; go_wp2; exact ⟨rfl, rfl⟩) mkStep ?_
      refine rg_done (by kernel_rfl) ?_
      go_wp2
      go_ret
      exact ⟨by rw [r.out]; rfl, mkStep⟩
  by_cases omem : op = 40 ∨ op = 54 ∨ op = 63 ∨ op = 64
  · have r := hid (hasC_mem (m := m) (loc := loc) (i := ⟨op, a, b⟩) omem)
    clear hk2 o16 oget o35 o36
    rcases omem with rfl | rfl | rfl | rfl
    all_goals
      go_enter Tryd.func29, Tryd.ntmps29
      go_wp2
      go_ret
      exact ⟨by rw [r.out]; rfl, mkStep⟩
  · have r := hid (hasC_other (m := m) (loc := loc) (i := ⟨op, a, b⟩) (by show ¬ (op = 16 ∨ (32 ≤ op ∧ op ≤ 36) ∨ op = 40 ∨ op = 54 ∨ op = 63 ∨ op = 64); omega))
    have n16 : (op == 16) = false := beq_eq_false_iff_ne.2 (by omega)
    have n32 : (op == 32) = false := beq_eq_false_iff_ne.2 (by omega)
    have n33 : (op == 33) = false := beq_eq_false_iff_ne.2 (by omega)
    have n34 : (op == 34) = false := beq_eq_false_iff_ne.2 (by omega)
    have n35 : (op == 35) = false := beq_eq_false_iff_ne.2 (by omega)
    have n36 : (op == 36) = false := beq_eq_false_iff_ne.2 (by omega)
    have n40 : (op == 40) = false := beq_eq_false_iff_ne.2 (by omega)
    have n54 : (op == 54) = false := beq_eq_false_iff_ne.2 (by omega)
    have n63 : (op == 63) = false := beq_eq_false_iff_ne.2 (by omega)
    have n64 : (op == 64) = false := beq_eq_false_iff_ne.2 (by omega)
    clear hk2 o16 oget o35 o36 omem
    go_enter Tryd.func29, Tryd.ntmps29
    go_wp2
    go_ret
    exact ⟨by rw [r.out]; rfl, mkStep⟩

theorem shas {p B g : Nat} {F : List Nat} {M : MH} {loc : Int} {s : ChkS} {bad : Bool} (m : ModuleD) (i : InsD) (w : World) (pa : PartsP m) (hi : insOk i = true) [hS : SB w p B g M loc s bad] [hm : Shows w F m M.cells] :
    Calls Tryd.prog 29 #[.pointer (some ⟨p, 0, none⟩), .agg #[.int .i64 i.op, .int .i64 i.a, .int .i64 i.b]] w fun e w' => e = .returned (.bool (hasC m loc i)) ∧ Step w w' := by
  obtain ⟨⟨cap, bx, own⟩, ne, bp⟩ := hS
  exact shasB m i w pa.sigIn (ins_kind2 hi)

theorem takes_cases (op : Int) : op = 1 ∨ op = 16 ∨ (op = 26 ∨ op = 33 ∨ op = 36) ∨ op = 27 ∨ (op = 32 ∨ op = 35 ∨ op = 63 ∨ op = 65) ∨ (op = 34 ∨ op = 40 ∨ op = 64 ∨ op = 69) ∨ op = 54 ∨
    (¬ op = 1 ∧ ¬ op = 16 ∧ ¬ op = 26 ∧ ¬ op = 33 ∧ ¬ op = 36 ∧ ¬ op = 27 ∧ ¬ op = 32 ∧ ¬ op = 35 ∧ ¬ op = 63 ∧ ¬ op = 65 ∧ ¬ op = 34 ∧ ¬ op = 40 ∧ ¬ op = 64 ∧ ¬ op = 69 ∧ ¬ op = 54) := by omega
theorem takes_16 {m : ModuleD} {i : InsD} (h : i.op = 16) : takesC m i = (((sigC m i.a).getD ⟨0, 0⟩).params, ((sigC m i.a).getD ⟨0, 0⟩).results) := by unfold takesC; rw [if_neg (by omega), if_pos h]
theorem takes_rest {m : ModuleD} {i : InsD} (h : ¬ i.op = 1 ∧ ¬ i.op = 16 ∧ ¬ i.op = 26 ∧ ¬ i.op = 33 ∧ ¬ i.op = 36 ∧ ¬ i.op = 27 ∧ ¬ i.op = 32 ∧ ¬ i.op = 35 ∧ ¬ i.op = 63 ∧ ¬ i.op = 65 ∧ ¬ i.op = 34 ∧ ¬ i.op = 40 ∧ ¬ i.op = 64 ∧ ¬ i.op = 69 ∧ ¬ i.op = 54) : takesC m i = if 103 ≤ i.op ∧ i.op ≤ 105 then (1, 1) else (2, 1) := by
  unfold takesC
  rw [if_neg (by omega), if_neg (by omega), if_neg (by omega), if_neg (by omega), if_neg (by omega), if_neg (by omega), if_neg (by omega)]

set_option maxRecDepth 10000 in
set_option maxHeartbeats 2000000 in
theorem stakesW {F : List Nat} {cs : List Value} (m : ModuleD) (i : InsD) (w : World) (pa : SigIn m) [hm : Shows w F m cs] :
    Calls Tryd.prog 30 #[.agg cs.toArray, .agg #[.int .i64 i.op, .int .i64 i.a, .int .i64 i.b]] w fun e w' => e = .returned (.tuple #[.int .i64 (takesC m i).1, .int .i64 (takesC m i).2]) ∧ Step w w' := by
  have kk := hm.known
  obtain ⟨a1, k1, a2, k2, a3, k3, a4, k4, a5, k5, a6, k6, F1, F2, F3, F4, F5, F6, rfl, rfl, h1, h2, h3, h4, h5, h6, i3, i4⟩ := module_open hm.is
  clear hm
  obtain ⟨op, a, b⟩ := i
  obtain ⟨t, ht⟩ : ∃ t, takesC m ⟨op, a, b⟩ = t := ⟨_, rfl⟩
  rw [ht]
  rcases takes_cases op with rfl | rfl | h | rfl | h | h | rfl | h
  · have r := hid (show t = (0, 0) from ht.symm)
    clear ht
    go_enter Tryd.func30, Tryd.ntmps30
    go_wp2
    go_ret2
    exact ⟨by rw [r.out]; rfl, mkStep⟩
  · have r := hid (ht.symm.trans (takes_16 rfl))
    clear ht
    go_enter Tryd.func30, Tryd.ntmps30
    go_wp2_with fail
    with_reducible refine Calls.mono (ssig m a _ pa) ?_
    rintro e w1 ⟨rfl, st1⟩
    go_wp2_with fail
    refine rg_begin0 (n := 6) (by kernel_rfl) rfl fun rg0 => ?_
    refine rg_read (i := 0) (a1 := _) rfl (by kernel_rfl) rfl (by simp) (by intro wq hwq; go_wp2; exact ⟨rfl, rfl⟩) mkStep ?_
    refine rg_read (i := 1) (a1 := _) rfl (by kernel_rfl) rfl (by simp) (by intro wq hwq; go_wp2; exact ⟨rfl, rfl⟩) mkStep ?_
    refine rg_read (i := 2) (a1 := _) rfl (by kernel_rfl) rfl (by simp) (by intro wq hwq; go_wp2; exact ⟨rfl, rfl⟩) mkStep ?_
    refine rg_read (i := 3) (a1 := _) rfl (by kernel_rfl) rfl (by simp) (by intro wq hwq; go_wp2; exact ⟨rfl, rfl⟩) mkStep ?_
    refine rg_read (i := 4) (a1 := _) rfl (by kernel_rfl) rfl (by simp) (by intro wq hwq; go_wp2; exact ⟨rfl, rfl⟩) mkStep ?_
    refine rg_read (i := 5) (a1 := _) rfl (by kernel_rfl) rfl (by simp) (by intro wq hwq; go_wp2; exact ⟨rfl, rfl⟩) mkStep ?_
    refine rg_done (by kernel_rfl) ?_
    go_wp2
    go_ret2
    exact ⟨by rw [r.out]; rfl, mkStep⟩
  · have r := hid (show t = (1, 0) by rw [← ht]; rcases h with rfl | rfl | rfl <;> rfl)
    clear ht
    rcases h with rfl | rfl | rfl
    all_goals
      go_enter Tryd.func30, Tryd.ntmps30
      go_wp2
      go_ret2
      exact ⟨by rw [r.out]; rfl, mkStep⟩
  · have r := hid (show t = (3, 1) from ht.symm)
    clear ht
    go_enter Tryd.func30, Tryd.ntmps30
    go_wp2
    go_ret2
    exact ⟨by rw [r.out]; rfl, mkStep⟩
  · have r := hid (show t = (0, 1) by rw [← ht]; rcases h with rfl | rfl | rfl | rfl <;> rfl)
    clear ht
    rcases h with rfl | rfl | rfl | rfl
    all_goals
      go_enter Tryd.func30, Tryd.ntmps30
      go_wp2
      go_ret2
      exact ⟨by rw [r.out]; rfl, mkStep⟩
  · have r := hid (show t = (1, 1) by rw [← ht]; rcases h with rfl | rfl | rfl | rfl <;> rfl)
    clear ht
    rcases h with rfl | rfl | rfl | rfl
    all_goals
      go_enter Tryd.func30, Tryd.ntmps30
      go_wp2
      go_ret2
      exact ⟨by rw [r.out]; rfl, mkStep⟩
  · have r := hid (show t = (2, 0) from ht.symm)
    clear ht
    go_enter Tryd.func30, Tryd.ntmps30
    go_wp2
    go_ret2
    exact ⟨by rw [r.out]; rfl, mkStep⟩
  · have r := hid (ht.symm.trans (takes_rest h))
    clear ht
    obtain ⟨q1, q2, q3, q4, q5, q6, q7, q8, q9, q10, q11, q12, q13, q14, q15⟩ := h
    replace q1 := beq_eq_false_iff_ne.2 q1
    replace q2 := beq_eq_false_iff_ne.2 q2
    replace q3 := beq_eq_false_iff_ne.2 q3
    replace q4 := beq_eq_false_iff_ne.2 q4
    replace q5 := beq_eq_false_iff_ne.2 q5
    replace q6 := beq_eq_false_iff_ne.2 q6
    replace q7 := beq_eq_false_iff_ne.2 q7
    replace q8 := beq_eq_false_iff_ne.2 q8
    replace q9 := beq_eq_false_iff_ne.2 q9
    replace q10 := beq_eq_false_iff_ne.2 q10
    replace q11 := beq_eq_false_iff_ne.2 q11
    replace q12 := beq_eq_false_iff_ne.2 q12
    replace q13 := beq_eq_false_iff_ne.2 q13
    replace q14 := beq_eq_false_iff_ne.2 q14
    replace q15 := beq_eq_false_iff_ne.2 q15
    by_cases c1 : 103 ≤ op
    · by_cases c2 : op ≤ 105
      · have r2 := hid (r.out.trans (if_pos ⟨c1, c2⟩))
        go_enter Tryd.func30, Tryd.ntmps30
        go_wp2
        go_ret2
        exact ⟨by rw [r2.out]; rfl, mkStep⟩
      · have r2 := hid (r.out.trans (if_neg (fun h => c2 h.2)))
        go_enter Tryd.func30, Tryd.ntmps30
        go_wp2
        go_ret2
        exact ⟨by rw [r2.out]; rfl, mkStep⟩
    · have r2 := hid (r.out.trans (if_neg (fun h => c1 h.1)))
      go_enter Tryd.func30, Tryd.ntmps30
      go_wp2
      go_ret2
      exact ⟨by rw [r2.out]; rfl, mkStep⟩
theorem stakes {F : List Nat} {cs : List Value} (m : ModuleD) (i : InsD) (w : World) (pa : PartsP m) [hm : Shows w F m cs] :
    Calls Tryd.prog 30 #[.agg cs.toArray, .agg #[.int .i64 i.op, .int .i64 i.a, .int .i64 i.b]] w fun e w' => e = .returned (.tuple #[.int .i64 (takesC m i).1, .int .i64 (takesC m i).2]) ∧ Step w w' := stakesW m i w pa.sigIn
end Go.Proofs.YtpaekgeopmifeaaDoor
