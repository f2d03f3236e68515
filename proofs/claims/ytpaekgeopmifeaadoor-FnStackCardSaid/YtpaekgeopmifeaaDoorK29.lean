/- Contracts: spec's FormOk. -/
import Derived.Test.YtpaekgeopmifeaaDoorK28
namespace Go.Proofs.YtpaekgeopmifeaaDoor
attribute [local go_sem ↓] Go.wp_at_zero Go.wp_at_succ
open Go.RowKit
open Rep (Is sz)


set_option maxHeartbeats 16000000 in
theorem sform {F : List Nat} {cs : List Value} (m : ModuleD) (w : World) (hb : moduleCost m ≤ 1048576) [h : Shows w F m cs] : Calls Tryd.prog 26 #[.agg cs.toArray] w fun e w' => e = .returned (.bool (pB (FormP m))) ∧ Step w w' := by
  have hb2 := hb
  obtain ⟨a1, k1, a2, k2, a3, k3, a4, k4, a5, k5, a6, k6, F1, F2, F3, F4, F5, F6, rfl, rfl, h1, h2, h3, h4, h5, h6, i3, i4⟩ := module_open h.is
  have kk := h.known
  clear h
  have hzI : importsCost m.imports ≤ 1048576 := by unfold moduleCost at hb; omega
  have hzF : funcsCost m.funcs ≤ 1048576 := by unfold moduleCost at hb; omega
  have hzE : exportsCost m.exports ≤ 1048576 := by unfold moduleCost at hb; omega
  have hci := hid (fun (k : Nat) (hk : k < m.imports.length) => cost_at importCost hzI hk)
  have hcf := hid (fun (k : Nat) (hk : k < m.funcs.length) => cost_at funcCost hzF hk)
  have hce := hid (fun (k : Nat) (hk : k < m.exports.length) => cost_at exportCost hzE hk)
  have hl2 : m.imports.length ≤ 1048576 := by unfold importsCost at hzI; omega
  have hl3 : m.funcs.length ≤ 1048576 := by unfold funcsCost at hzF; omega
  clear hzI hzF hzE hb
  obtain ⟨_, _, cl4, FF4, hv, _, hvw4, hr4, hml4⟩ := list_open h4
  cases hv
  unfold maxLen at hml4
  obtain ⟨_, _, cl5, FF5, hv, _, hvw5, hr5, hml5⟩ := list_open h5
  cases hv
  unfold maxLen at hml5
  obtain ⟨_, _, cl6, FF6, hv, _, hvw6, hr6, hml6⟩ := list_open h6
  cases hv
  unfold maxLen at hml6
  go_enter Tryd.func26, Tryd.ntmps26
  go_wp2_with fail
  with_reducible refine Calls.mono (sparts _ _ (by assumption)) ?_
  rintro e w2 ⟨rfl, st0⟩
  cases c1x : pB (PartsP m)
  · have hz := hid (pB_no (p := FormP m) (fun h => nb c1x (pB_yes h.pa)))
    go_wp2_with (first | (go_at_call 45; (with_reducible refine Calls.mono (sparts _ _ (by assumption)) ?_); rintro e wk ⟨rfl, st⟩) | (go_at_call 40; (with_reducible refine Calls.mono (swrap_any ..) ?_); rintro e wk ⟨rfl, rfl⟩) | (go_at_call 46; (with_reducible refine Calls.mono (sname3 _ _ (by assumption)) ?_); rintro e wk ⟨rfl, st⟩))
    go_ret
    exact ⟨by rw [hz.out]; rfl, mkStep⟩
  by_cases c2x : -1 ≤ m.pages
  rotate_left
  · have hz := hid (pB_no (p := FormP m) (fun h => c2x (h.g0)))
    go_wp2_with (first | (go_at_call 45; (with_reducible refine Calls.mono (sparts _ _ (by assumption)) ?_); rintro e wk ⟨rfl, st⟩) | (go_at_call 40; (with_reducible refine Calls.mono (swrap_any ..) ?_); rintro e wk ⟨rfl, rfl⟩) | (go_at_call 46; (with_reducible refine Calls.mono (sname3 _ _ (by assumption)) ?_); rintro e wk ⟨rfl, st⟩))
    go_ret
    exact ⟨by rw [hz.out]; rfl, mkStep⟩
  have c2xp := hid c2x
  by_cases c3x : m.pages ≤ 2
  rotate_left
  · have hz := hid (pB_no (p := FormP m) (fun h => c3x (h.g1)))
    go_wp2_with (first | (go_at_call 45; (with_reducible refine Calls.mono (sparts _ _ (by assumption)) ?_); rintro e wk ⟨rfl, st⟩) | (go_at_call 40; (with_reducible refine Calls.mono (swrap_any ..) ?_); rintro e wk ⟨rfl, rfl⟩) | (go_at_call 46; (with_reducible refine Calls.mono (sname3 _ _ (by assumption)) ?_); rintro e wk ⟨rfl, st⟩))
    go_ret
    exact ⟨by rw [hz.out]; rfl, mkStep⟩
  have c3xp := hid c3x
  have hcase : (m.pages = -1 ∧ ¬ m.most = -1) ∨ (¬ m.pages = -1 ∧ ¬ m.most = -1 ∧ ¬ m.pages ≤ m.most) ∨ (¬ m.pages = -1 ∧ ¬ m.most = -1 ∧ m.pages ≤ m.most ∧ ¬ m.most ≤ 65536) ∨ ((m.most = -1 ∨ (m.pages ≠ -1 ∧ m.pages ≤ m.most ∧ m.most ≤ 65536)) ∧ ((m.pages = -1 ∧ m.most = -1) ∨ (¬ m.pages = -1 ∧ m.most = -1) ∨ (¬ m.pages = -1 ∧ ¬ m.most = -1 ∧ m.pages ≤ m.most ∧ m.most ≤ 65536))) := by omega
  rcases hcase with ⟨e1, e2⟩ | ⟨e1, e2, e3⟩ | ⟨e1, e2, e3, e4⟩ | ⟨hM, hcase⟩
  · have hz := hid (pB_no (p := FormP m) (fun h => by have := h.mo; omega))
    have n2 : (m.most != -1) = true := by simp [e2]
    go_wp2_with (first | (go_at_call 45; (with_reducible refine Calls.mono (sparts _ _ (by assumption)) ?_); rintro e wk ⟨rfl, st⟩) | (go_at_call 40; (with_reducible refine Calls.mono (swrap_any ..) ?_); rintro e wk ⟨rfl, rfl⟩) | (go_at_call 46; (with_reducible refine Calls.mono (sname3 _ _ (by assumption)) ?_); rintro e wk ⟨rfl, st⟩))
    go_ret
    exact ⟨by rw [hz.out]; rfl, mkStep⟩
  · have hz := hid (pB_no (p := FormP m) (fun h => by have := h.mo; omega))
    have n2 : (m.most != -1) = true := by simp [e2]
    go_wp2_with (first | (go_at_call 45; (with_reducible refine Calls.mono (sparts _ _ (by assumption)) ?_); rintro e wk ⟨rfl, st⟩) | (go_at_call 40; (with_reducible refine Calls.mono (swrap_any ..) ?_); rintro e wk ⟨rfl, rfl⟩) | (go_at_call 46; (with_reducible refine Calls.mono (sname3 _ _ (by assumption)) ?_); rintro e wk ⟨rfl, st⟩))
    go_ret
    exact ⟨by rw [hz.out]; rfl, mkStep⟩
  · have hz := hid (pB_no (p := FormP m) (fun h => by have := h.mo; omega))
    have n2 : (m.most != -1) = true := by simp [e2]
    go_wp2_with (first | (go_at_call 45; (with_reducible refine Calls.mono (sparts _ _ (by assumption)) ?_); rintro e wk ⟨rfl, st⟩) | (go_at_call 40; (with_reducible refine Calls.mono (swrap_any ..) ?_); rintro e wk ⟨rfl, rfl⟩) | (go_at_call 46; (with_reducible refine Calls.mono (sname3 _ _ (by assumption)) ?_); rintro e wk ⟨rfl, st⟩))
    go_ret
    exact ⟨by rw [hz.out]; rfl, mkStep⟩
  replace hM := hid hM
  rcases hcase with ⟨e1, e2⟩ | ⟨e1, e2⟩ | ⟨e1, e2, e3, e4⟩
  rotate_left 2
  have n2 : (m.most != -1) = true := by simp [e2]
  rotate_left
  all_goals
    by_cases c4x : (m.globals.length : Int) ≤ 30
    rotate_left
    · have hz := hid (pB_no (p := FormP m) (fun h => c4x (h.z2)))
      go_wp2_with (first | (go_at_call 45; (with_reducible refine Calls.mono (sparts _ _ (by assumption)) ?_); rintro e wk ⟨rfl, st⟩) | (go_at_call 40; (with_reducible refine Calls.mono (swrap_any ..) ?_); rintro e wk ⟨rfl, rfl⟩) | (go_at_call 46; (with_reducible refine Calls.mono (sname3 _ _ (by assumption)) ?_); rintro e wk ⟨rfl, st⟩))
      go_ret
      exact ⟨by rw [hz.out]; rfl, mkStep⟩
    have c4xp := hid c4x
    by_cases c5x : (m.exports.length : Int) ≤ 60
    rotate_left
    · have hz := hid (pB_no (p := FormP m) (fun h => c5x (h.z3)))
      go_wp2_with (first | (go_at_call 45; (with_reducible refine Calls.mono (sparts _ _ (by assumption)) ?_); rintro e wk ⟨rfl, st⟩) | (go_at_call 40; (with_reducible refine Calls.mono (swrap_any ..) ?_); rintro e wk ⟨rfl, rfl⟩) | (go_at_call 46; (with_reducible refine Calls.mono (sname3 _ _ (by assumption)) ?_); rintro e wk ⟨rfl, st⟩))
      go_ret
      exact ⟨by rw [hz.out]; rfl, mkStep⟩
    have c5xp := hid c5x
    by_cases c6x : (m.data.length : Int) ≤ 20
    rotate_left
    · have hz := hid (pB_no (p := FormP m) (fun h => c6x (h.z4)))
      go_wp2_with (first | (go_at_call 45; (with_reducible refine Calls.mono (sparts _ _ (by assumption)) ?_); rintro e wk ⟨rfl, st⟩) | (go_at_call 40; (with_reducible refine Calls.mono (swrap_any ..) ?_); rintro e wk ⟨rfl, rfl⟩) | (go_at_call 46; (with_reducible refine Calls.mono (sname3 _ _ (by assumption)) ?_); rintro e wk ⟨rfl, st⟩))
      go_ret
      exact ⟨by rw [hz.out]; rfl, mkStep⟩
    have c6xp := hid c6x
    go_wp2_with (first | (go_at_call 45; (with_reducible refine Calls.mono (sparts _ _ (by assumption)) ?_); rintro e wk ⟨rfl, st⟩) | (go_at_call 40; (with_reducible refine Calls.mono (swrap_any ..) ?_); rintro e wk ⟨rfl, rfl⟩) | (go_at_call 46; (with_reducible refine Calls.mono (sname3 _ _ (by assumption)) ?_); rintro e wk ⟨rfl, st⟩))
    refine wp_name ?_
    intro A4 sA4
    go_loopw [68] (fun i wr => ∃ k : Nat, k ≤ m.globals.length ∧ i = .int .i64 k ∧ Step A4 wr ∧ Hid (∀ j : Nat, j < k → ∀ x, m.globals[j]? = some x → GlobalP x)) (fun i _ => m.globals.length - (intOf i).toNat)
    case atStart => exact ⟨0, by omega, rfl, mkStep, fun j hj => by omega⟩
    case round =>
      obtain ⟨k, hk, rfl, st4, hq4⟩ := hrel
      by_cases hlt : k < m.globals.length
      · clear hk
        obtain ⟨be, oe, Ge, cse, rfl, hGe, hIe, hce, hoe⟩ := hvw4.row hr4 rfl (by decide) k hlt
        have hI0e := hIe
        obtain ⟨rfl, rfl, i1e⟩ := global_open hI0e
        have kee : Known w _ m.globals[k] _ := ⟨hIe⟩
        have c0e := (hce 0 _ rfl).1
        replace c0e : w.cell? ⟨be, oe + k * 2, none⟩ = _ := c0e
        have c1e := (hce 1 _ rfl).1
        replace c1e : w.cell? ⟨be, oe + k * 2 + 1, none⟩ = _ := c1e
        clear hce
        by_cases c7x : -2147483648 ≤ m.globals[k].init ∧ m.globals[k].init ≤ 2147483647
        rotate_left
        · have hz := hid (pB_no (p := FormP m) (fun h => c7x (⟨(h.gls _ (List.getElem_mem hlt)).i0, (h.gls _ (List.getElem_mem hlt)).i1⟩)))
          have c7xd : (wrap32 (m.globals[k].init) == m.globals[k].init) = false := beq_eq_false_iff_ne.2 (fun hh => c7x (by unfold wrap32 at hh; omega))
          have c7xm : (wrap32 (m.globals[k].init) != m.globals[k].init) = true := by rw [bne, c7xd]; rfl
          replace c7x := hid c7x
          go_wp2_with fail
          refine rg_begin0 (n := 6) (by kernel_rfl) rfl fun rg0 => ?_
          refine rg_read (i := 0) (a1 := _) rfl (by kernel_rfl) rfl (by simp) (by intro wq hwq; go_wp2; exact ⟨rfl, rfl⟩) mkStep ?_
          refine rg_read (i := 1) (a1 := _) rfl (by kernel_rfl) rfl (by simp) (by intro wq hwq; go_wp2; exact ⟨rfl, rfl⟩) mkStep ?_
          refine rg_read (i := 3) (a1 := _) rfl (by kernel_rfl) rfl (by simp) (by intro wq hwq; go_wp2; exact ⟨rfl, rfl⟩) mkStep ?_
          refine rg_read (i := 4) (a1 := _) rfl (by kernel_rfl) rfl (by simp) (by intro wq hwq; go_wp2; exact ⟨rfl, rfl⟩) mkStep ?_
          refine rg_eff (i := 2) rfl (by kernel_rfl) ?_
          simp only [List.getElem_toArray, List.getElem_cons_succ, List.getElem_cons_zero]
          go_wp2_with (first | (go_at_call 40; (with_reducible refine Calls.mono (swrap_any ..) ?_); rintro e wk ⟨rfl, rfl⟩))
          refine ⟨mkStep, ?_⟩
          refine rg_read (i := 5) (a1 := _) rfl (by kernel_rfl) rfl (by simp) (by intro wq hwq; go_wp2; exact ⟨rfl, rfl⟩) mkStep ?_
          refine rg_done (by kernel_rfl) ?_
          go_wp2_with (first | (go_at_call 45; (with_reducible refine Calls.mono (sparts _ _ (by assumption)) ?_); rintro e wk ⟨rfl, st⟩) | (go_at_call 40; (with_reducible refine Calls.mono (swrap_any ..) ?_); rintro e wk ⟨rfl, rfl⟩) | (go_at_call 46; (with_reducible refine Calls.mono (sname3 _ _ (by assumption)) ?_); rintro e wk ⟨rfl, st⟩))
          go_ret
          exact ⟨by rw [hz.out]; rfl, mkStep⟩
        have c7xd : (wrap32 (m.globals[k].init) == m.globals[k].init) = true := beq_iff_eq.2 (by unfold wrap32; omega)
        have c7xm : (wrap32 (m.globals[k].init) != m.globals[k].init) = false := by rw [bne, c7xd]; rfl
        replace c7x := hid c7x
        go_wp2_with fail
        refine rg_begin0 (n := 6) (by kernel_rfl) rfl fun rg0 => ?_
        refine rg_read (i := 0) (a1 := _) rfl (by kernel_rfl) rfl (by simp) (by intro wq hwq; go_wp2; exact ⟨rfl, rfl⟩) mkStep ?_
        refine rg_read (i := 1) (a1 := _) rfl (by kernel_rfl) rfl (by simp) (by intro wq hwq; go_wp2; exact ⟨rfl, rfl⟩) mkStep ?_
        refine rg_read (i := 3) (a1 := _) rfl (by kernel_rfl) rfl (by simp) (by intro wq hwq; go_wp2; exact ⟨rfl, rfl⟩) mkStep ?_
        refine rg_read (i := 4) (a1 := _) rfl (by kernel_rfl) rfl (by simp) (by intro wq hwq; go_wp2; exact ⟨rfl, rfl⟩) mkStep ?_
        refine rg_eff (i := 2) rfl (by kernel_rfl) ?_
        simp only [List.getElem_toArray, List.getElem_cons_succ, List.getElem_cons_zero]
        go_wp2_with (first | (go_at_call 40; (with_reducible refine Calls.mono (swrap_any ..) ?_); rintro e wk ⟨rfl, rfl⟩))
        refine ⟨mkStep, ?_⟩
        refine rg_read (i := 5) (a1 := _) rfl (by kernel_rfl) rfl (by simp) (by intro wq hwq; go_wp2; exact ⟨rfl, rfl⟩) mkStep ?_
        refine rg_done (by kernel_rfl) ?_
        go_wp2_with (first | (go_at_call 45; (with_reducible refine Calls.mono (sparts _ _ (by assumption)) ?_); rintro e wk ⟨rfl, st⟩) | (go_at_call 40; (with_reducible refine Calls.mono (swrap_any ..) ?_); rintro e wk ⟨rfl, rfl⟩) | (go_at_call 46; (with_reducible refine Calls.mono (sname3 _ _ (by assumption)) ?_); rintro e wk ⟨rfl, st⟩))
        go_roundw
        case rel => exact ⟨k + 1, by omega, by go_num, mkStep, allP_step hlt ⟨c7x.out.1, c7x.out.2⟩ hq4.out⟩
        case measure => simp [intOf]; omega
      · have hQ4 := hid (allP_mem (by omega) hq4.out)
        go_wp2_with (first | (go_at_call 45; (with_reducible refine Calls.mono (sparts _ _ (by assumption)) ?_); rintro e wk ⟨rfl, st⟩) | (go_at_call 40; (with_reducible refine Calls.mono (swrap_any ..) ?_); rintro e wk ⟨rfl, rfl⟩) | (go_at_call 46; (with_reducible refine Calls.mono (sname3 _ _ (by assumption)) ?_); rintro e wk ⟨rfl, st⟩))
        refine wp_name ?_
        intro A5 sA5
        go_loopw [82] (fun i wr => ∃ k : Nat, k ≤ m.exports.length ∧ i = .int .i64 k ∧ Step A5 wr ∧ Hid (∀ j : Nat, j < k → ∀ x, m.exports[j]? = some x → ExportP x)) (fun i _ => m.exports.length - (intOf i).toNat)
        case atStart => exact ⟨0, by omega, rfl, mkStep, fun j hj => by omega⟩
        case round =>
          obtain ⟨k, hk, rfl, st5, hq5⟩ := hrel
          by_cases hlt : k < m.exports.length
          · clear hk
            obtain ⟨be, oe, Ge, cse, rfl, hGe, hIe, hce, hoe⟩ := hvw5.row hr5 rfl (by decide) k hlt
            have hI0e := hIe
            obtain ⟨rfl, rfl, i0e, i1e, i2e⟩ := export_open hI0e
            have kee : Known w _ m.exports[k] _ := ⟨hIe⟩
            have c0e := (hce 0 _ rfl).1
            replace c0e : w.cell? ⟨be, oe + k * 3, none⟩ = _ := c0e
            have c1e := (hce 1 _ rfl).1
            replace c1e : w.cell? ⟨be, oe + k * 3 + 1, none⟩ = _ := c1e
            have c2e := (hce 2 _ rfl).1
            replace c2e : w.cell? ⟨be, oe + k * 3 + 2, none⟩ = _ := c2e
            clear hce
            have zz := hce.out k hlt
            have z1 : m.exports[k].name.size ≤ 1099511627776 := by unfold exportCost at zz; omega
            clear zz
            cases c8x : nameB3 m.exports[k].name
            · have hz := hid (pB_no (p := FormP m) (fun h => nb c8x ((h.exs _ (List.getElem_mem hlt)).nm)))
              go_wp2_with (first | (go_at_call 45; (with_reducible refine Calls.mono (sparts _ _ (by assumption)) ?_); rintro e wk ⟨rfl, st⟩) | (go_at_call 40; (with_reducible refine Calls.mono (swrap_any ..) ?_); rintro e wk ⟨rfl, rfl⟩) | (go_at_call 46; (with_reducible refine Calls.mono (sname3 _ _ (by assumption)) ?_); rintro e wk ⟨rfl, st⟩))
              go_ret
              exact ⟨by rw [hz.out]; rfl, mkStep⟩
            have hcase : ((m.exports[k].kind != 0) = true ∧ (m.exports[k].kind != 2) = true ∧ (m.exports[k].kind != 3) = true ∧ ¬ (m.exports[k].kind = 0 ∨ m.exports[k].kind = 2 ∨ m.exports[k].kind = 3)) ∨ ((m.exports[k].kind = 0 ∨ m.exports[k].kind = 2 ∨ m.exports[k].kind = 3) ∧ (((m.exports[k].kind != 0) = false) ∨ ((m.exports[k].kind != 0) = true ∧ (m.exports[k].kind != 2) = false) ∨ ((m.exports[k].kind != 0) = true ∧ (m.exports[k].kind != 2) = true ∧ (m.exports[k].kind != 3) = false))) := by simp only [bne_iff_ne, bne_eq_false_iff_eq, ne_eq]; omega
            rcases hcase with ⟨e1, e2, e3, hn⟩ | ⟨hkd, hcase⟩
            · have hz := hid (pB_no (p := FormP m) (fun h => hn (h.exs _ (List.getElem_mem hlt)).kd))
              clear hn
              go_wp2_with (first | (go_at_call 45; (with_reducible refine Calls.mono (sparts _ _ (by assumption)) ?_); rintro e wk ⟨rfl, st⟩) | (go_at_call 40; (with_reducible refine Calls.mono (swrap_any ..) ?_); rintro e wk ⟨rfl, rfl⟩) | (go_at_call 46; (with_reducible refine Calls.mono (sname3 _ _ (by assumption)) ?_); rintro e wk ⟨rfl, st⟩))
              go_ret
              exact ⟨by rw [hz.out]; rfl, mkStep⟩
            replace hkd := hid hkd
            rcases hcase with e1 | ⟨e1, e2⟩ | ⟨e1, e2, e3⟩
            all_goals
              by_cases c9x : 0 ≤ m.exports[k].index
              rotate_left
              · have hz := hid (pB_no (p := FormP m) (fun h => c9x ((h.exs _ (List.getElem_mem hlt)).i0)))
                go_wp2_with (first | (go_at_call 45; (with_reducible refine Calls.mono (sparts _ _ (by assumption)) ?_); rintro e wk ⟨rfl, st⟩) | (go_at_call 40; (with_reducible refine Calls.mono (swrap_any ..) ?_); rintro e wk ⟨rfl, rfl⟩) | (go_at_call 46; (with_reducible refine Calls.mono (sname3 _ _ (by assumption)) ?_); rintro e wk ⟨rfl, st⟩))
                go_ret
                exact ⟨by rw [hz.out]; rfl, mkStep⟩
              have c9xp := hid c9x
              by_cases c10x : m.exports[k].index ≤ 1000
              rotate_left
              · have hz := hid (pB_no (p := FormP m) (fun h => c10x ((h.exs _ (List.getElem_mem hlt)).i1)))
                go_wp2_with (first | (go_at_call 45; (with_reducible refine Calls.mono (sparts _ _ (by assumption)) ?_); rintro e wk ⟨rfl, st⟩) | (go_at_call 40; (with_reducible refine Calls.mono (swrap_any ..) ?_); rintro e wk ⟨rfl, rfl⟩) | (go_at_call 46; (with_reducible refine Calls.mono (sname3 _ _ (by assumption)) ?_); rintro e wk ⟨rfl, st⟩))
                go_ret
                exact ⟨by rw [hz.out]; rfl, mkStep⟩
              have c10xp := hid c10x
              go_wp2_with (first | (go_at_call 45; (with_reducible refine Calls.mono (sparts _ _ (by assumption)) ?_); rintro e wk ⟨rfl, st⟩) | (go_at_call 40; (with_reducible refine Calls.mono (swrap_any ..) ?_); rintro e wk ⟨rfl, rfl⟩) | (go_at_call 46; (with_reducible refine Calls.mono (sname3 _ _ (by assumption)) ?_); rintro e wk ⟨rfl, st⟩))
              go_roundw
              case rel => exact ⟨k + 1, by omega, by go_num, mkStep, allP_step hlt ⟨c8x, hkd.out, c9xp.out, c10xp.out⟩ hq5.out⟩
              case measure => simp [intOf]; omega
          · have hQ5 := hid (allP_mem (by omega) hq5.out)
            go_wp2_with (first | (go_at_call 45; (with_reducible refine Calls.mono (sparts _ _ (by assumption)) ?_); rintro e wk ⟨rfl, st⟩) | (go_at_call 40; (with_reducible refine Calls.mono (swrap_any ..) ?_); rintro e wk ⟨rfl, rfl⟩) | (go_at_call 46; (with_reducible refine Calls.mono (sname3 _ _ (by assumption)) ?_); rintro e wk ⟨rfl, st⟩))
            refine wp_name ?_
            intro A6 sA6
            go_loopw [119] (fun i wr => ∃ k : Nat, k ≤ m.data.length ∧ i = .int .i64 k ∧ Step A6 wr ∧ Hid (∀ j : Nat, j < k → ∀ x, m.data[j]? = some x → DataP x)) (fun i _ => m.data.length - (intOf i).toNat)
            case atStart => exact ⟨0, by omega, rfl, mkStep, fun j hj => by omega⟩
            case round =>
              obtain ⟨k, hk, rfl, st6, hq6⟩ := hrel
              by_cases hlt : k < m.data.length
              · clear hk
                obtain ⟨be, oe, Ge, cse, rfl, hGe, hIe, hce, hoe⟩ := hvw6.row hr6 rfl (by decide) k hlt
                have hI0e := hIe
                obtain ⟨a1e, k1e, F1e, rfl, rfl, h1e, i0e⟩ := data_open hI0e
                have kee : Known w _ m.data[k] _ := ⟨hIe⟩
                have c0e := (hce 0 _ rfl).1
                replace c0e : w.cell? ⟨be, oe + k * 2, none⟩ = _ := c0e
                have c1e := (hce 1 _ rfl).1
                replace c1e : w.cell? ⟨be, oe + k * 2 + 1, none⟩ = _ := c1e
                clear hce
                by_cases c11x : -2147483648 ≤ m.data[k].pos ∧ m.data[k].pos ≤ 2147483647
                rotate_left
                · have hz := hid (pB_no (p := FormP m) (fun h => c11x (⟨(h.das _ (List.getElem_mem hlt)).a0, (h.das _ (List.getElem_mem hlt)).a1⟩)))
                  have c11xd : (wrap32 (m.data[k].pos) == m.data[k].pos) = false := beq_eq_false_iff_ne.2 (fun hh => c11x (by unfold wrap32 at hh; omega))
                  have c11xm : (wrap32 (m.data[k].pos) != m.data[k].pos) = true := by rw [bne, c11xd]; rfl
                  replace c11x := hid c11x
                  go_wp2_with fail
                  refine rg_begin0 (n := 12) (by kernel_rfl) rfl fun rg0 => ?_
                  refine rg_read (i := 0) (a1 := _) rfl (by kernel_rfl) rfl (by simp) (by intro wq hwq; go_wp2; exact ⟨rfl, rfl⟩) mkStep ?_
                  refine rg_read (i := 1) (a1 := _) rfl (by kernel_rfl) rfl (by simp) (by intro wq hwq; go_wp2; exact ⟨rfl, rfl⟩) mkStep ?_
                  refine rg_read (i := 3) (a1 := _) rfl (by kernel_rfl) rfl (by simp) (by intro wq hwq; go_wp2; exact ⟨rfl, rfl⟩) mkStep ?_
                  refine rg_read (i := 4) (a1 := _) rfl (by kernel_rfl) rfl (by simp) (by intro wq hwq; go_wp2; exact ⟨rfl, rfl⟩) mkStep ?_
                  refine rg_eff (i := 2) rfl (by kernel_rfl) ?_
                  simp only [List.getElem_toArray, List.getElem_cons_succ, List.getElem_cons_zero]
                  go_wp2_with (first | (go_at_call 40; (with_reducible refine Calls.mono (swrap_any ..) ?_); rintro e wk ⟨rfl, rfl⟩))
                  refine ⟨mkStep, ?_⟩
                  refine rg_read (i := 5) (a1 := _) rfl (by kernel_rfl) rfl (by simp) (by intro wq hwq; go_wp2; exact ⟨rfl, rfl⟩) mkStep ?_
                  refine rg_read (i := 6) (a1 := _) rfl (by kernel_rfl) rfl (by simp) (by intro wq hwq; go_wp2; exact ⟨rfl, rfl⟩) mkStep ?_
                  refine rg_read (i := 7) (a1 := _) rfl (by kernel_rfl) rfl (by simp) (by intro wq hwq; go_wp2; exact ⟨rfl, rfl⟩) mkStep ?_
                  refine rg_read (i := 8) (a1 := _) rfl (by kernel_rfl) rfl (by simp) (by intro wq hwq; go_wp2; exact ⟨rfl, rfl⟩) mkStep ?_
                  refine rg_read (i := 9) (a1 := _) rfl (by kernel_rfl) rfl (by simp) (by intro wq hwq; go_wp2; exact ⟨rfl, rfl⟩) mkStep ?_
                  refine rg_read (i := 10) (a1 := _) rfl (by kernel_rfl) rfl (by simp) (by intro wq hwq; go_wp2; exact ⟨rfl, rfl⟩) mkStep ?_
                  refine rg_read (i := 11) (a1 := _) rfl (by kernel_rfl) rfl (by simp) (by intro wq hwq; go_wp2; exact ⟨rfl, rfl⟩) mkStep ?_
                  refine rg_done (by kernel_rfl) ?_
                  go_wp2_with (first | (go_at_call 45; (with_reducible refine Calls.mono (sparts _ _ (by assumption)) ?_); rintro e wk ⟨rfl, st⟩) | (go_at_call 40; (with_reducible refine Calls.mono (swrap_any ..) ?_); rintro e wk ⟨rfl, rfl⟩) | (go_at_call 46; (with_reducible refine Calls.mono (sname3 _ _ (by assumption)) ?_); rintro e wk ⟨rfl, st⟩))
                  go_ret
                  exact ⟨by rw [hz.out]; rfl, mkStep⟩
                have c11xd : (wrap32 (m.data[k].pos) == m.data[k].pos) = true := beq_iff_eq.2 (by unfold wrap32; omega)
                have c11xm : (wrap32 (m.data[k].pos) != m.data[k].pos) = false := by rw [bne, c11xd]; rfl
                replace c11x := hid c11x
                by_cases c12x : (m.data[k].bytes.length : Int) ≤ 2000
                rotate_left
                · have hz := hid (pB_no (p := FormP m) (fun h => c12x ((h.das _ (List.getElem_mem hlt)).b1)))
                  go_wp2_with fail
                  refine rg_begin0 (n := 12) (by kernel_rfl) rfl fun rg0 => ?_
                  refine rg_read (i := 0) (a1 := _) rfl (by kernel_rfl) rfl (by simp) (by intro wq hwq; go_wp2; exact ⟨rfl, rfl⟩) mkStep ?_
                  refine rg_read (i := 1) (a1 := _) rfl (by kernel_rfl) rfl (by simp) (by intro wq hwq; go_wp2; exact ⟨rfl, rfl⟩) mkStep ?_
                  refine rg_read (i := 3) (a1 := _) rfl (by kernel_rfl) rfl (by simp) (by intro wq hwq; go_wp2; exact ⟨rfl, rfl⟩) mkStep ?_
                  refine rg_read (i := 4) (a1 := _) rfl (by kernel_rfl) rfl (by simp) (by intro wq hwq; go_wp2; exact ⟨rfl, rfl⟩) mkStep ?_
                  refine rg_eff (i := 2) rfl (by kernel_rfl) ?_
                  simp only [List.getElem_toArray, List.getElem_cons_succ, List.getElem_cons_zero]
                  go_wp2_with (first | (go_at_call 40; (with_reducible refine Calls.mono (swrap_any ..) ?_); rintro e wk ⟨rfl, rfl⟩))
                  refine ⟨mkStep, ?_⟩
                  refine rg_read (i := 5) (a1 := _) rfl (by kernel_rfl) rfl (by simp) (by intro wq hwq; go_wp2; exact ⟨rfl, rfl⟩) mkStep ?_
                  refine rg_read (i := 6) (a1 := _) rfl (by kernel_rfl) rfl (by simp) (by intro wq hwq; go_wp2; exact ⟨rfl, rfl⟩) mkStep ?_
                  refine rg_read (i := 7) (a1 := _) rfl (by kernel_rfl) rfl (by simp) (by intro wq hwq; go_wp2; exact ⟨rfl, rfl⟩) mkStep ?_
                  refine rg_read (i := 8) (a1 := _) rfl (by kernel_rfl) rfl (by simp) (by intro wq hwq; go_wp2; exact ⟨rfl, rfl⟩) mkStep ?_
                  refine rg_read (i := 9) (a1 := _) rfl (by kernel_rfl) rfl (by simp) (by intro wq hwq; go_wp2; exact ⟨rfl, rfl⟩) mkStep ?_
                  refine rg_read (i := 10) (a1 := _) rfl (by kernel_rfl) rfl (by simp) (by intro wq hwq; go_wp2; exact ⟨rfl, rfl⟩) mkStep ?_
                  refine rg_read (i := 11) (a1 := _) rfl (by kernel_rfl) rfl (by simp) (by intro wq hwq; go_wp2; exact ⟨rfl, rfl⟩) mkStep ?_
                  refine rg_done (by kernel_rfl) ?_
                  go_wp2_with (first | (go_at_call 45; (with_reducible refine Calls.mono (sparts _ _ (by assumption)) ?_); rintro e wk ⟨rfl, st⟩) | (go_at_call 40; (with_reducible refine Calls.mono (swrap_any ..) ?_); rintro e wk ⟨rfl, rfl⟩) | (go_at_call 46; (with_reducible refine Calls.mono (sname3 _ _ (by assumption)) ?_); rintro e wk ⟨rfl, st⟩))
                  go_ret
                  exact ⟨by rw [hz.out]; rfl, mkStep⟩
                have c12xp := hid c12x
                go_wp2_with fail
                refine rg_begin0 (n := 12) (by kernel_rfl) rfl fun rg0 => ?_
                refine rg_read (i := 0) (a1 := _) rfl (by kernel_rfl) rfl (by simp) (by intro wq hwq; go_wp2; exact ⟨rfl, rfl⟩) mkStep ?_
                refine rg_read (i := 1) (a1 := _) rfl (by kernel_rfl) rfl (by simp) (by intro wq hwq; go_wp2; exact ⟨rfl, rfl⟩) mkStep ?_
                refine rg_read (i := 3) (a1 := _) rfl (by kernel_rfl) rfl (by simp) (by intro wq hwq; go_wp2; exact ⟨rfl, rfl⟩) mkStep ?_
                refine rg_read (i := 4) (a1 := _) rfl (by kernel_rfl) rfl (by simp) (by intro wq hwq; go_wp2; exact ⟨rfl, rfl⟩) mkStep ?_
                refine rg_eff (i := 2) rfl (by kernel_rfl) ?_
                simp only [List.getElem_toArray, List.getElem_cons_succ, List.getElem_cons_zero]
                go_wp2_with (first | (go_at_call 40; (with_reducible refine Calls.mono (swrap_any ..) ?_); rintro e wk ⟨rfl, rfl⟩))
                refine ⟨mkStep, ?_⟩
                refine rg_read (i := 5) (a1 := _) rfl (by kernel_rfl) rfl (by simp) (by intro wq hwq; go_wp2; exact ⟨rfl, rfl⟩) mkStep ?_
                refine rg_read (i := 6) (a1 := _) rfl (by kernel_rfl) rfl (by simp) (by intro wq hwq; go_wp2; exact ⟨rfl, rfl⟩) mkStep ?_
                refine rg_read (i := 7) (a1 := _) rfl (by kernel_rfl) rfl (by simp) (by intro wq hwq; go_wp2; exact ⟨rfl, rfl⟩) mkStep ?_
                refine rg_read (i := 8) (a1 := _) rfl (by kernel_rfl) rfl (by simp) (by intro wq hwq; go_wp2; exact ⟨rfl, rfl⟩) mkStep ?_
                refine rg_read (i := 9) (a1 := _) rfl (by kernel_rfl) rfl (by simp) (by intro wq hwq; go_wp2; exact ⟨rfl, rfl⟩) mkStep ?_
                refine rg_read (i := 10) (a1 := _) rfl (by kernel_rfl) rfl (by simp) (by intro wq hwq; go_wp2; exact ⟨rfl, rfl⟩) mkStep ?_
                refine rg_read (i := 11) (a1 := _) rfl (by kernel_rfl) rfl (by simp) (by intro wq hwq; go_wp2; exact ⟨rfl, rfl⟩) mkStep ?_
                refine rg_done (by kernel_rfl) ?_
                go_wp2_with (first | (go_at_call 45; (with_reducible refine Calls.mono (sparts _ _ (by assumption)) ?_); rintro e wk ⟨rfl, st⟩) | (go_at_call 40; (with_reducible refine Calls.mono (swrap_any ..) ?_); rintro e wk ⟨rfl, rfl⟩) | (go_at_call 46; (with_reducible refine Calls.mono (sname3 _ _ (by assumption)) ?_); rintro e wk ⟨rfl, st⟩))
                go_roundw
                case rel => exact ⟨k + 1, by omega, by go_num, mkStep, allP_step hlt ⟨c11x.out.1, c11x.out.2, c12xp.out⟩ hq6.out⟩
                case measure => simp [intOf]; omega
              · have hQ6 := hid (allP_mem (by omega) hq6.out)
                go_wp2_with (first | (go_at_call 45; (with_reducible refine Calls.mono (sparts _ _ (by assumption)) ?_); rintro e wk ⟨rfl, st⟩) | (go_at_call 40; (with_reducible refine Calls.mono (swrap_any ..) ?_); rintro e wk ⟨rfl, rfl⟩) | (go_at_call 46; (with_reducible refine Calls.mono (sname3 _ _ (by assumption)) ?_); rintro e wk ⟨rfl, st⟩))
                go_ret
                exact ⟨by rw [pB_yes ⟨pB_iff.1 c1x, c2xp.out, c3xp.out, hM.out, c4xp.out, c5xp.out, c6xp.out, hQ4.out, hQ5.out, hQ6.out⟩]; rfl, mkStep⟩
end Go.Proofs.YtpaekgeopmifeaaDoor
