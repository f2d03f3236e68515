/- Contracts: impl's FormOk. -/
import Derived.Test.YtpaekgeopmifeaaDoorK32
namespace Go.Proofs.YtpaekgeopmifeaaDoor
attribute [local go_sem ↓] Go.wp_at_zero Go.wp_at_succ
open Go.RowKit
open Rep (Is sz)


set_option maxRecDepth 20000 in
set_option maxHeartbeats 16000000 in
theorem iform_a {F : List Nat} {cs : List Value} (m : ModuleD) (w : World) (hb : moduleCost m ≤ 1048576) (e1 : m.most = -1) [h : Shows w F m cs] [hU : HasU8 w] : Calls Tryd.prog 16 #[.agg cs.toArray] w fun e w' => e = .returned (.bool (pB (FormP m))) ∧ Step w w' := by
  have ka := hU.known
  obtain ⟨a1, k1, a2, k2, a3, k3, a4, k4, a5, k5, a6, k6, F1, F2, F3, F4, F5, F6, rfl, rfl, h1, h2, h3, h4, h5, h6, i3, i4⟩ := module_open h.is
  have kk := h.known
  clear h
  have hzI : importsCost m.imports ≤ 1048576 := by unfold moduleCost at hb; omega
  have hzF : funcsCost m.funcs ≤ 1048576 := by unfold moduleCost at hb; omega
  have hzE : exportsCost m.exports ≤ 1048576 := by unfold moduleCost at hb; omega
  have hci := hid (fun (k : Nat) (hk : k < m.imports.length) => cost_at importCost hzI hk)
  have hcf := hid (fun (k : Nat) (hk : k < m.funcs.length) => cost_at funcCost hzF hk)
  have hce := hid (fun (k : Nat) (hk : k < m.exports.length) => cost_at exportCost hzE hk)
  have hl2 : m.imports.length ≤ 1048576 := by unfold importsCost at hzI; omega
  have hl3 : m.funcs.length ≤ 1048576 := by unfold funcsCost at hzF; omega
  clear hzI hzF hzE hb
  obtain ⟨_, _, cl1, FF1, hv, _, hvw1, hr1, hml1⟩ := list_open h1
  cases hv
  unfold maxLen at hml1
  obtain ⟨_, _, cl2, FF2, hv, _, hvw2, hr2, hml2⟩ := list_open h2
  cases hv
  unfold maxLen at hml2
  obtain ⟨_, _, cl3, FF3, hv, _, hvw3, hr3, hml3⟩ := list_open h3
  cases hv
  unfold maxLen at hml3
  obtain ⟨_, _, cl4, FF4, hv, _, hvw4, hr4, hml4⟩ := list_open h4
  cases hv
  unfold maxLen at hml4
  obtain ⟨_, _, cl5, FF5, hv, _, hvw5, hr5, hml5⟩ := list_open h5
  cases hv
  unfold maxLen at hml5
  obtain ⟨_, _, cl6, FF6, hv, _, hvw6, hr6, hml6⟩ := list_open h6
  cases hv
  unfold maxLen at hml6
  go_enter Tryd.func16, Tryd.ntmps16
  by_cases c1x : (m.sigs.length : Int) ≤ 30
  rotate_left
  · have hz := hid (pB_no (p := FormP m) (fun h => c1x (h.pa.z0)))
    go_wp2_with (first | (go_at_call 17; (with_reducible refine Calls.mono (within_any ..) ?_); rintro e wk ⟨rfl, rfl⟩) | (go_at_call 32; (with_reducible refine Calls.mono (iname3 _ _ (by assumption)) ?_); rintro e wk ⟨rfl, st⟩) | (go_at_call 33; (with_reducible refine Calls.mono (iallok ..) ?_); rintro e wk ⟨rfl, st⟩) | (go_at_call 34; (with_reducible refine Calls.mono (ishape _ _ (by omega)) ?_); rintro e wk ⟨rfl, st⟩))
    go_ret
    exact ⟨by rw [hz.out]; rfl, mkStep⟩
  have c1xp := hid c1x
  by_cases c2x : (m.imports.length : Int) + m.funcs.length ≤ 60
  rotate_left
  · have hz := hid (pB_no (p := FormP m) (fun h => c2x (h.pa.z1)))
    go_wp2_with (first | (go_at_call 17; (with_reducible refine Calls.mono (within_any ..) ?_); rintro e wk ⟨rfl, rfl⟩) | (go_at_call 32; (with_reducible refine Calls.mono (iname3 _ _ (by assumption)) ?_); rintro e wk ⟨rfl, st⟩) | (go_at_call 33; (with_reducible refine Calls.mono (iallok ..) ?_); rintro e wk ⟨rfl, st⟩) | (go_at_call 34; (with_reducible refine Calls.mono (ishape _ _ (by omega)) ?_); rintro e wk ⟨rfl, st⟩))
    go_ret
    exact ⟨by rw [hz.out]; rfl, mkStep⟩
  have c2xp := hid c2x
  by_cases c3x : (m.globals.length : Int) ≤ 30
  rotate_left
  · have hz := hid (pB_no (p := FormP m) (fun h => c3x (h.z2)))
    go_wp2_with (first | (go_at_call 17; (with_reducible refine Calls.mono (within_any ..) ?_); rintro e wk ⟨rfl, rfl⟩) | (go_at_call 32; (with_reducible refine Calls.mono (iname3 _ _ (by assumption)) ?_); rintro e wk ⟨rfl, st⟩) | (go_at_call 33; (with_reducible refine Calls.mono (iallok ..) ?_); rintro e wk ⟨rfl, st⟩) | (go_at_call 34; (with_reducible refine Calls.mono (ishape _ _ (by omega)) ?_); rintro e wk ⟨rfl, st⟩))
    go_ret
    exact ⟨by rw [hz.out]; rfl, mkStep⟩
  have c3xp := hid c3x
  by_cases c4x : (m.exports.length : Int) ≤ 60
  rotate_left
  · have hz := hid (pB_no (p := FormP m) (fun h => c4x (h.z3)))
    go_wp2_with (first | (go_at_call 17; (with_reducible refine Calls.mono (within_any ..) ?_); rintro e wk ⟨rfl, rfl⟩) | (go_at_call 32; (with_reducible refine Calls.mono (iname3 _ _ (by assumption)) ?_); rintro e wk ⟨rfl, st⟩) | (go_at_call 33; (with_reducible refine Calls.mono (iallok ..) ?_); rintro e wk ⟨rfl, st⟩) | (go_at_call 34; (with_reducible refine Calls.mono (ishape _ _ (by omega)) ?_); rintro e wk ⟨rfl, st⟩))
    go_ret
    exact ⟨by rw [hz.out]; rfl, mkStep⟩
  have c4xp := hid c4x
  by_cases c5x : (m.data.length : Int) ≤ 20
  rotate_left
  · have hz := hid (pB_no (p := FormP m) (fun h => c5x (h.z4)))
    go_wp2_with (first | (go_at_call 17; (with_reducible refine Calls.mono (within_any ..) ?_); rintro e wk ⟨rfl, rfl⟩) | (go_at_call 32; (with_reducible refine Calls.mono (iname3 _ _ (by assumption)) ?_); rintro e wk ⟨rfl, st⟩) | (go_at_call 33; (with_reducible refine Calls.mono (iallok ..) ?_); rintro e wk ⟨rfl, st⟩) | (go_at_call 34; (with_reducible refine Calls.mono (ishape _ _ (by omega)) ?_); rintro e wk ⟨rfl, st⟩))
    go_ret
    exact ⟨by rw [hz.out]; rfl, mkStep⟩
  have c5xp := hid c5x
  by_cases c6x : -1 ≤ m.pages ∧ m.pages ≤ 2
  rotate_left
  · have hz := hid (pB_no (p := FormP m) (fun h => c6x (⟨h.g0, h.g1⟩)))
    have c6xd := decide_eq_false c6x
    replace c6x := hid c6x
    go_wp2_with (first | (go_at_call 17; (with_reducible refine Calls.mono (within_any ..) ?_); rintro e wk ⟨rfl, rfl⟩) | (go_at_call 32; (with_reducible refine Calls.mono (iname3 _ _ (by assumption)) ?_); rintro e wk ⟨rfl, st⟩) | (go_at_call 33; (with_reducible refine Calls.mono (iallok ..) ?_); rintro e wk ⟨rfl, st⟩) | (go_at_call 34; (with_reducible refine Calls.mono (ishape _ _ (by omega)) ?_); rintro e wk ⟨rfl, st⟩))
    go_ret
    exact ⟨by rw [hz.out]; rfl, mkStep⟩
  have c6xd := decide_eq_true c6x
  replace c6x := hid c6x
  have hM := hid (show m.most = -1 ∨ (m.pages ≠ -1 ∧ m.pages ≤ m.most ∧ m.most ≤ 65536) from .inl e1)
  focus
    go_wp2_with (first | (go_at_call 17; (with_reducible refine Calls.mono (within_any ..) ?_); rintro e wk ⟨rfl, rfl⟩) | (go_at_call 32; (with_reducible refine Calls.mono (iname3 _ _ (by assumption)) ?_); rintro e wk ⟨rfl, st⟩) | (go_at_call 33; (with_reducible refine Calls.mono (iallok ..) ?_); rintro e wk ⟨rfl, st⟩) | (go_at_call 34; (with_reducible refine Calls.mono (ishape _ _ (by omega)) ?_); rintro e wk ⟨rfl, st⟩))
    refine wp_name ?_
    intro A1 sA1
    go_loopw [72] (fun i wr => ∃ k : Nat, k ≤ m.sigs.length ∧ i = .int .i64 k ∧ Step A1 wr ∧ Hid (∀ j : Nat, j < k → ∀ x, m.sigs[j]? = some x → SigP x)) (fun i _ => m.sigs.length - (intOf i).toNat)
    case atStart => exact ⟨0, by omega, rfl, mkStep, fun j hj => by omega⟩
    case round =>
      obtain ⟨k, hk, rfl, st1, hq1⟩ := hrel
      by_cases hlt : k < m.sigs.length
      · clear hk
        obtain ⟨be, oe, Ge, cse, rfl, hGe, hIe, hce, hoe⟩ := hvw1.row hr1 rfl (by decide) k hlt
        have hI0e := hIe
        obtain ⟨rfl, rfl, i0e, i1e⟩ := sig_open hI0e
        have kee : Known w _ m.sigs[k] _ := ⟨hIe⟩
        have c0e := (hce 0 _ rfl).1
        replace c0e : w.cell? ⟨be, oe + k * 2, none⟩ = _ := c0e
        have c1e := (hce 1 _ rfl).1
        replace c1e : w.cell? ⟨be, oe + k * 2 + 1, none⟩ = _ := c1e
        clear hce
        by_cases c7x : 0 ≤ m.sigs[k].params ∧ m.sigs[k].params ≤ 60
        rotate_left
        · have hz := hid (pB_no (p := FormP m) (fun h => c7x (⟨(h.pa.sigs _ (List.getElem_mem hlt)).p0, (h.pa.sigs _ (List.getElem_mem hlt)).p1⟩)))
          have c7xd := decide_eq_false c7x
          replace c7x := hid c7x
          go_wp2_with (first | (go_at_call 17; (with_reducible refine Calls.mono (within_any ..) ?_); rintro e wk ⟨rfl, rfl⟩) | (go_at_call 32; (with_reducible refine Calls.mono (iname3 _ _ (by assumption)) ?_); rintro e wk ⟨rfl, st⟩) | (go_at_call 33; (with_reducible refine Calls.mono (iallok ..) ?_); rintro e wk ⟨rfl, st⟩) | (go_at_call 34; (with_reducible refine Calls.mono (ishape _ _ (by omega)) ?_); rintro e wk ⟨rfl, st⟩))
          go_ret
          exact ⟨by rw [hz.out]; rfl, mkStep⟩
        have c7xd := decide_eq_true c7x
        replace c7x := hid c7x
        by_cases c8x : 0 ≤ m.sigs[k].results ∧ m.sigs[k].results ≤ 1
        rotate_left
        · have hz := hid (pB_no (p := FormP m) (fun h => c8x (⟨(h.pa.sigs _ (List.getElem_mem hlt)).r0, (h.pa.sigs _ (List.getElem_mem hlt)).r1⟩)))
          have c8xd := decide_eq_false c8x
          replace c8x := hid c8x
          go_wp2_with (first | (go_at_call 17; (with_reducible refine Calls.mono (within_any ..) ?_); rintro e wk ⟨rfl, rfl⟩) | (go_at_call 32; (with_reducible refine Calls.mono (iname3 _ _ (by assumption)) ?_); rintro e wk ⟨rfl, st⟩) | (go_at_call 33; (with_reducible refine Calls.mono (iallok ..) ?_); rintro e wk ⟨rfl, st⟩) | (go_at_call 34; (with_reducible refine Calls.mono (ishape _ _ (by omega)) ?_); rintro e wk ⟨rfl, st⟩))
          go_ret
          exact ⟨by rw [hz.out]; rfl, mkStep⟩
        have c8xd := decide_eq_true c8x
        replace c8x := hid c8x
        go_wp2_with (first | (go_at_call 17; (with_reducible refine Calls.mono (within_any ..) ?_); rintro e wk ⟨rfl, rfl⟩) | (go_at_call 32; (with_reducible refine Calls.mono (iname3 _ _ (by assumption)) ?_); rintro e wk ⟨rfl, st⟩) | (go_at_call 33; (with_reducible refine Calls.mono (iallok ..) ?_); rintro e wk ⟨rfl, st⟩) | (go_at_call 34; (with_reducible refine Calls.mono (ishape _ _ (by omega)) ?_); rintro e wk ⟨rfl, st⟩))
        go_roundw
        case rel => exact ⟨k + 1, by omega, by go_num, mkStep, allP_step hlt ⟨c7x.out.1, c7x.out.2, c8x.out.1, c8x.out.2⟩ hq1.out⟩
        case measure => simp [intOf]; omega
      · have hQ1 := hid (allP_mem (by omega) hq1.out)
        go_wp2_with (first | (go_at_call 17; (with_reducible refine Calls.mono (within_any ..) ?_); rintro e wk ⟨rfl, rfl⟩) | (go_at_call 32; (with_reducible refine Calls.mono (iname3 _ _ (by assumption)) ?_); rintro e wk ⟨rfl, st⟩) | (go_at_call 33; (with_reducible refine Calls.mono (iallok ..) ?_); rintro e wk ⟨rfl, st⟩) | (go_at_call 34; (with_reducible refine Calls.mono (ishape _ _ (by omega)) ?_); rintro e wk ⟨rfl, st⟩))
        refine wp_name ?_
        intro A2 sA2
        go_loopw [90] (fun i wr => ∃ k : Nat, k ≤ m.imports.length ∧ i = .int .i64 k ∧ Step A2 wr ∧ Hid (∀ j : Nat, j < k → ∀ x, m.imports[j]? = some x → ImportP m.sigs.length x)) (fun i _ => m.imports.length - (intOf i).toNat)
        case atStart => exact ⟨0, by omega, rfl, mkStep, fun j hj => by omega⟩
        case round =>
          obtain ⟨k, hk, rfl, st2, hq2⟩ := hrel
          by_cases hlt : k < m.imports.length
          · clear hk
            obtain ⟨be, oe, Ge, cse, rfl, hGe, hIe, hce, hoe⟩ := hvw2.row hr2 rfl (by decide) k hlt
            have hI0e := hIe
            obtain ⟨rfl, rfl, i0e, i1e, i2e⟩ := import_open hI0e
            have kee : Known w _ m.imports[k] _ := ⟨hIe⟩
            have c0e := (hce 0 _ rfl).1
            replace c0e : w.cell? ⟨be, oe + k * 3, none⟩ = _ := c0e
            have c1e := (hce 1 _ rfl).1
            replace c1e : w.cell? ⟨be, oe + k * 3 + 1, none⟩ = _ := c1e
            have c2e := (hce 2 _ rfl).1
            replace c2e : w.cell? ⟨be, oe + k * 3 + 2, none⟩ = _ := c2e
            clear hce
            have zz := hci.out k hlt
            have z1 : m.imports[k].mod.size ≤ 1099511627776 := by unfold importCost at zz; omega
            have z2 : m.imports[k].name.size ≤ 1099511627776 := by unfold importCost at zz; omega
            clear zz
            by_cases c9x : 0 ≤ m.imports[k].sig ∧ m.imports[k].sig ≤ (m.sigs.length : Int) - 1
            rotate_left
            · have hz := hid (pB_no (p := FormP m) (fun h => c9x (⟨(h.pa.imps _ (List.getElem_mem hlt)).s0, by have := (h.pa.imps _ (List.getElem_mem hlt)).s1; omega⟩)))
              have c9xd := decide_eq_false c9x
              replace c9x := hid c9x
              go_wp2_with (first | (go_at_call 17; (with_reducible refine Calls.mono (within_any ..) ?_); rintro e wk ⟨rfl, rfl⟩) | (go_at_call 32; (with_reducible refine Calls.mono (iname3 _ _ (by assumption)) ?_); rintro e wk ⟨rfl, st⟩) | (go_at_call 33; (with_reducible refine Calls.mono (iallok ..) ?_); rintro e wk ⟨rfl, st⟩) | (go_at_call 34; (with_reducible refine Calls.mono (ishape _ _ (by omega)) ?_); rintro e wk ⟨rfl, st⟩))
              go_ret
              exact ⟨by rw [hz.out]; rfl, mkStep⟩
            have c9xd := decide_eq_true c9x
            replace c9x := hid c9x
            cases c10x : nameB3 m.imports[k].mod
            · have hz := hid (pB_no (p := FormP m) (fun h => nb c10x ((h.pa.imps _ (List.getElem_mem hlt)).md)))
              go_wp2_with (first | (go_at_call 17; (with_reducible refine Calls.mono (within_any ..) ?_); rintro e wk ⟨rfl, rfl⟩) | (go_at_call 32; (with_reducible refine Calls.mono (iname3 _ _ (by assumption)) ?_); rintro e wk ⟨rfl, st⟩) | (go_at_call 33; (with_reducible refine Calls.mono (iallok ..) ?_); rintro e wk ⟨rfl, st⟩) | (go_at_call 34; (with_reducible refine Calls.mono (ishape _ _ (by omega)) ?_); rintro e wk ⟨rfl, st⟩))
              go_ret
              exact ⟨by rw [hz.out]; rfl, mkStep⟩
            cases c11x : nameB3 m.imports[k].name
            · have hz := hid (pB_no (p := FormP m) (fun h => nb c11x ((h.pa.imps _ (List.getElem_mem hlt)).nm)))
              go_wp2_with (first | (go_at_call 17; (with_reducible refine Calls.mono (within_any ..) ?_); rintro e wk ⟨rfl, rfl⟩) | (go_at_call 32; (with_reducible refine Calls.mono (iname3 _ _ (by assumption)) ?_); rintro e wk ⟨rfl, st⟩) | (go_at_call 33; (with_reducible refine Calls.mono (iallok ..) ?_); rintro e wk ⟨rfl, st⟩) | (go_at_call 34; (with_reducible refine Calls.mono (ishape _ _ (by omega)) ?_); rintro e wk ⟨rfl, st⟩))
              go_ret
              exact ⟨by rw [hz.out]; rfl, mkStep⟩
            go_wp2_with (first | (go_at_call 17; (with_reducible refine Calls.mono (within_any ..) ?_); rintro e wk ⟨rfl, rfl⟩) | (go_at_call 32; (with_reducible refine Calls.mono (iname3 _ _ (by assumption)) ?_); rintro e wk ⟨rfl, st⟩) | (go_at_call 33; (with_reducible refine Calls.mono (iallok ..) ?_); rintro e wk ⟨rfl, st⟩) | (go_at_call 34; (with_reducible refine Calls.mono (ishape _ _ (by omega)) ?_); rintro e wk ⟨rfl, st⟩))
            go_roundw
            case rel => exact ⟨k + 1, by omega, by go_num, mkStep, allP_step hlt ⟨c10x, c11x, c9x.out.1, by have := c9x.out.2; omega⟩ hq2.out⟩
            case measure => simp [intOf]; omega
          · have hQ2 := hid (allP_mem (by omega) hq2.out)
            go_wp2_with (first | (go_at_call 17; (with_reducible refine Calls.mono (within_any ..) ?_); rintro e wk ⟨rfl, rfl⟩) | (go_at_call 32; (with_reducible refine Calls.mono (iname3 _ _ (by assumption)) ?_); rintro e wk ⟨rfl, st⟩) | (go_at_call 33; (with_reducible refine Calls.mono (iallok ..) ?_); rintro e wk ⟨rfl, st⟩) | (go_at_call 34; (with_reducible refine Calls.mono (ishape _ _ (by omega)) ?_); rintro e wk ⟨rfl, st⟩))
            refine wp_name ?_
            intro A3 sA3
            go_loopw [118] (fun i wr => ∃ k : Nat, k ≤ m.funcs.length ∧ i = .int .i64 k ∧ Step A3 wr ∧ Hid (∀ j : Nat, j < k → ∀ x, m.funcs[j]? = some x → FuncP m.sigs.length x)) (fun i _ => m.funcs.length - (intOf i).toNat)
            case atStart => exact ⟨0, by omega, rfl, mkStep, fun j hj => by omega⟩
            case round =>
              obtain ⟨k, hk, rfl, st3, hq3⟩ := hrel
              by_cases hlt : k < m.funcs.length
              · clear hk
                obtain ⟨be, oe, Ge, cse, rfl, hGe, hIe, hce, hoe⟩ := hvw3.row hr3 rfl (by decide) k hlt
                have hI0e := hIe
                obtain ⟨a1e, k1e, F1e, rfl, rfl, h1e, i0e, i1e⟩ := func_open hI0e
                have kee : Known w _ m.funcs[k] _ := ⟨hIe⟩
                have c0e := (hce 0 _ rfl).1
                replace c0e : w.cell? ⟨be, oe + k * 3, none⟩ = _ := c0e
                have c1e := (hce 1 _ rfl).1
                replace c1e : w.cell? ⟨be, oe + k * 3 + 1, none⟩ = _ := c1e
                have c2e := (hce 2 _ rfl).1
                replace c2e : w.cell? ⟨be, oe + k * 3 + 2, none⟩ = _ := c2e
                clear hce
                have zz := hcf.out k hlt
                have z1 : m.funcs[k].body.length ≤ 1048576 := by unfold funcCost inssCost at zz; omega
                clear zz
                have nb1 : Known w _ m.funcs[k].body _ := ⟨h1e⟩
                by_cases c12x : 0 ≤ m.funcs[k].sig ∧ m.funcs[k].sig ≤ (m.sigs.length : Int) - 1
                rotate_left
                · have hz := hid (pB_no (p := FormP m) (fun h => c12x (⟨(h.pa.fns _ (List.getElem_mem hlt)).s0, by have := (h.pa.fns _ (List.getElem_mem hlt)).s1; omega⟩)))
                  have c12xd := decide_eq_false c12x
                  replace c12x := hid c12x
                  go_wp2_with (first | (go_at_call 17; (with_reducible refine Calls.mono (within_any ..) ?_); rintro e wk ⟨rfl, rfl⟩) | (go_at_call 32; (with_reducible refine Calls.mono (iname3 _ _ (by assumption)) ?_); rintro e wk ⟨rfl, st⟩) | (go_at_call 33; (with_reducible refine Calls.mono (iallok ..) ?_); rintro e wk ⟨rfl, st⟩) | (go_at_call 34; (with_reducible refine Calls.mono (ishape _ _ (by omega)) ?_); rintro e wk ⟨rfl, st⟩))
                  go_ret
                  exact ⟨by rw [hz.out]; rfl, mkStep⟩
                have c12xd := decide_eq_true c12x
                replace c12x := hid c12x
                by_cases c13x : 0 ≤ m.funcs[k].locals ∧ m.funcs[k].locals ≤ 60
                rotate_left
                · have hz := hid (pB_no (p := FormP m) (fun h => c13x (⟨(h.pa.fns _ (List.getElem_mem hlt)).l0, (h.pa.fns _ (List.getElem_mem hlt)).l1⟩)))
                  have c13xd := decide_eq_false c13x
                  replace c13x := hid c13x
                  go_wp2_with (first | (go_at_call 17; (with_reducible refine Calls.mono (within_any ..) ?_); rintro e wk ⟨rfl, rfl⟩) | (go_at_call 32; (with_reducible refine Calls.mono (iname3 _ _ (by assumption)) ?_); rintro e wk ⟨rfl, st⟩) | (go_at_call 33; (with_reducible refine Calls.mono (iallok ..) ?_); rintro e wk ⟨rfl, st⟩) | (go_at_call 34; (with_reducible refine Calls.mono (ishape _ _ (by omega)) ?_); rintro e wk ⟨rfl, st⟩))
                  go_ret
                  exact ⟨by rw [hz.out]; rfl, mkStep⟩
                have c13xd := decide_eq_true c13x
                replace c13x := hid c13x
                by_cases c14x : (m.funcs[k].body.length : Int) ≤ 1500
                rotate_left
                · have hz := hid (pB_no (p := FormP m) (fun h => c14x ((bodyB_parts.1 (h.pa.fns _ (List.getElem_mem hlt)).bd).1)))
                  go_wp2_with (first | (go_at_call 17; (with_reducible refine Calls.mono (within_any ..) ?_); rintro e wk ⟨rfl, rfl⟩) | (go_at_call 32; (with_reducible refine Calls.mono (iname3 _ _ (by assumption)) ?_); rintro e wk ⟨rfl, st⟩) | (go_at_call 33; (with_reducible refine Calls.mono (iallok ..) ?_); rintro e wk ⟨rfl, st⟩) | (go_at_call 34; (with_reducible refine Calls.mono (ishape _ _ (by omega)) ?_); rintro e wk ⟨rfl, st⟩))
                  go_ret
                  exact ⟨by rw [hz.out]; rfl, mkStep⟩
                have c14xp := hid c14x
                cases c15x : m.funcs[k].body.all insOk
                · have hz := hid (pB_no (p := FormP m) (fun h => nb c15x ((bodyB_parts.1 (h.pa.fns _ (List.getElem_mem hlt)).bd).2.1)))
                  go_wp2_with (first | (go_at_call 17; (with_reducible refine Calls.mono (within_any ..) ?_); rintro e wk ⟨rfl, rfl⟩) | (go_at_call 32; (with_reducible refine Calls.mono (iname3 _ _ (by assumption)) ?_); rintro e wk ⟨rfl, st⟩) | (go_at_call 33; (with_reducible refine Calls.mono (iallok ..) ?_); rintro e wk ⟨rfl, st⟩) | (go_at_call 34; (with_reducible refine Calls.mono (ishape _ _ (by omega)) ?_); rintro e wk ⟨rfl, st⟩))
                  go_ret
                  exact ⟨by rw [hz.out]; rfl, mkStep⟩
                cases c16x : shapeB m.funcs[k].body
                · have hz := hid (pB_no (p := FormP m) (fun h => nb c16x ((bodyB_parts.1 (h.pa.fns _ (List.getElem_mem hlt)).bd).2.2)))
                  go_wp2_with (first | (go_at_call 17; (with_reducible refine Calls.mono (within_any ..) ?_); rintro e wk ⟨rfl, rfl⟩) | (go_at_call 32; (with_reducible refine Calls.mono (iname3 _ _ (by assumption)) ?_); rintro e wk ⟨rfl, st⟩) | (go_at_call 33; (with_reducible refine Calls.mono (iallok ..) ?_); rintro e wk ⟨rfl, st⟩) | (go_at_call 34; (with_reducible refine Calls.mono (ishape _ _ (by omega)) ?_); rintro e wk ⟨rfl, st⟩))
                  go_ret
                  exact ⟨by rw [hz.out]; rfl, mkStep⟩
                go_wp2_with (first | (go_at_call 17; (with_reducible refine Calls.mono (within_any ..) ?_); rintro e wk ⟨rfl, rfl⟩) | (go_at_call 32; (with_reducible refine Calls.mono (iname3 _ _ (by assumption)) ?_); rintro e wk ⟨rfl, st⟩) | (go_at_call 33; (with_reducible refine Calls.mono (iallok ..) ?_); rintro e wk ⟨rfl, st⟩) | (go_at_call 34; (with_reducible refine Calls.mono (ishape _ _ (by omega)) ?_); rintro e wk ⟨rfl, st⟩))
                go_roundw
                case rel => exact ⟨k + 1, by omega, by go_num, mkStep, allP_step hlt ⟨c12x.out.1, by have := c12x.out.2; omega, c13x.out.1, c13x.out.2, bodyB_parts.2 ⟨c14xp.out, c15x, c16x⟩⟩ hq3.out⟩
                case measure => simp [intOf]; omega
              · have hQ3 := hid (allP_mem (by omega) hq3.out)
                go_wp2_with (first | (go_at_call 17; (with_reducible refine Calls.mono (within_any ..) ?_); rintro e wk ⟨rfl, rfl⟩) | (go_at_call 32; (with_reducible refine Calls.mono (iname3 _ _ (by assumption)) ?_); rintro e wk ⟨rfl, st⟩) | (go_at_call 33; (with_reducible refine Calls.mono (iallok ..) ?_); rintro e wk ⟨rfl, st⟩) | (go_at_call 34; (with_reducible refine Calls.mono (ishape _ _ (by omega)) ?_); rintro e wk ⟨rfl, st⟩))
                refine wp_name ?_
                intro A4 sA4
                go_loopw [158] (fun i wr => ∃ k : Nat, k ≤ m.globals.length ∧ i = .int .i64 k ∧ Step A4 wr ∧ Hid (∀ j : Nat, j < k → ∀ x, m.globals[j]? = some x → GlobalP x)) (fun i _ => m.globals.length - (intOf i).toNat)
                case atStart => exact ⟨0, by omega, rfl, mkStep, fun j hj => by omega⟩
                case round =>
                  obtain ⟨k, hk, rfl, st4, hq4⟩ := hrel
                  by_cases hlt : k < m.globals.length
                  · clear hk
                    obtain ⟨be, oe, Ge, cse, rfl, hGe, hIe, hce, hoe⟩ := hvw4.row hr4 rfl (by decide) k hlt
                    have hI0e := hIe
                    obtain ⟨rfl, rfl, i1e⟩ := global_open hI0e
                    have kee : Known w _ m.globals[k] _ := ⟨hIe⟩
                    have c0e := (hce 0 _ rfl).1
                    replace c0e : w.cell? ⟨be, oe + k * 2, none⟩ = _ := c0e
                    have c1e := (hce 1 _ rfl).1
                    replace c1e : w.cell? ⟨be, oe + k * 2 + 1, none⟩ = _ := c1e
                    clear hce
                    by_cases c17x : -2147483648 ≤ m.globals[k].init ∧ m.globals[k].init ≤ 2147483647
                    rotate_left
                    · have hz := hid (pB_no (p := FormP m) (fun h => c17x (⟨(h.gls _ (List.getElem_mem hlt)).i0, (h.gls _ (List.getElem_mem hlt)).i1⟩)))
                      have c17xd := decide_eq_false c17x
                      replace c17x := hid c17x
                      go_wp2_with (first | (go_at_call 17; (with_reducible refine Calls.mono (within_any ..) ?_); rintro e wk ⟨rfl, rfl⟩) | (go_at_call 32; (with_reducible refine Calls.mono (iname3 _ _ (by assumption)) ?_); rintro e wk ⟨rfl, st⟩) | (go_at_call 33; (with_reducible refine Calls.mono (iallok ..) ?_); rintro e wk ⟨rfl, st⟩) | (go_at_call 34; (with_reducible refine Calls.mono (ishape _ _ (by omega)) ?_); rintro e wk ⟨rfl, st⟩))
                      go_ret
                      exact ⟨by rw [hz.out]; rfl, mkStep⟩
                    have c17xd := decide_eq_true c17x
                    replace c17x := hid c17x
                    go_wp2_with (first | (go_at_call 17; (with_reducible refine Calls.mono (within_any ..) ?_); rintro e wk ⟨rfl, rfl⟩) | (go_at_call 32; (with_reducible refine Calls.mono (iname3 _ _ (by assumption)) ?_); rintro e wk ⟨rfl, st⟩) | (go_at_call 33; (with_reducible refine Calls.mono (iallok ..) ?_); rintro e wk ⟨rfl, st⟩) | (go_at_call 34; (with_reducible refine Calls.mono (ishape _ _ (by omega)) ?_); rintro e wk ⟨rfl, st⟩))
                    go_roundw
                    case rel => exact ⟨k + 1, by omega, by go_num, mkStep, allP_step hlt ⟨c17x.out.1, c17x.out.2⟩ hq4.out⟩
                    case measure => simp [intOf]; omega
                  · have hQ4 := hid (allP_mem (by omega) hq4.out)
                    go_wp2_with (first | (go_at_call 17; (with_reducible refine Calls.mono (within_any ..) ?_); rintro e wk ⟨rfl, rfl⟩) | (go_at_call 32; (with_reducible refine Calls.mono (iname3 _ _ (by assumption)) ?_); rintro e wk ⟨rfl, st⟩) | (go_at_call 33; (with_reducible refine Calls.mono (iallok ..) ?_); rintro e wk ⟨rfl, st⟩) | (go_at_call 34; (with_reducible refine Calls.mono (ishape _ _ (by omega)) ?_); rintro e wk ⟨rfl, st⟩))
                    refine wp_name ?_
                    intro A5 sA5
                    go_loopw [170] (fun i wr => ∃ k : Nat, k ≤ m.exports.length ∧ i = .int .i64 k ∧ Step A5 wr ∧ Hid (∀ j : Nat, j < k → ∀ x, m.exports[j]? = some x → ExportP x)) (fun i _ => m.exports.length - (intOf i).toNat)
                    case atStart => exact ⟨0, by omega, rfl, mkStep, fun j hj => by omega⟩
                    case round =>
                      obtain ⟨k, hk, rfl, st5, hq5⟩ := hrel
                      by_cases hlt : k < m.exports.length
                      · clear hk
                        obtain ⟨be, oe, Ge, cse, rfl, hGe, hIe, hce, hoe⟩ := hvw5.row hr5 rfl (by decide) k hlt
                        have hI0e := hIe
                        obtain ⟨rfl, rfl, i0e, i1e, i2e⟩ := export_open hI0e
                        have kee : Known w _ m.exports[k] _ := ⟨hIe⟩
                        have c0e := (hce 0 _ rfl).1
                        replace c0e : w.cell? ⟨be, oe + k * 3, none⟩ = _ := c0e
                        have c1e := (hce 1 _ rfl).1
                        replace c1e : w.cell? ⟨be, oe + k * 3 + 1, none⟩ = _ := c1e
                        have c2e := (hce 2 _ rfl).1
                        replace c2e : w.cell? ⟨be, oe + k * 3 + 2, none⟩ = _ := c2e
                        clear hce
                        have zz := hce.out k hlt
                        have z1 : m.exports[k].name.size ≤ 1099511627776 := by unfold exportCost at zz; omega
                        clear zz
                        cases c18x : nameB3 m.exports[k].name
                        · have hz := hid (pB_no (p := FormP m) (fun h => nb c18x ((h.exs _ (List.getElem_mem hlt)).nm)))
                          go_wp2_with (first | (go_at_call 17; (with_reducible refine Calls.mono (within_any ..) ?_); rintro e wk ⟨rfl, rfl⟩) | (go_at_call 32; (with_reducible refine Calls.mono (iname3 _ _ (by assumption)) ?_); rintro e wk ⟨rfl, st⟩) | (go_at_call 33; (with_reducible refine Calls.mono (iallok ..) ?_); rintro e wk ⟨rfl, st⟩) | (go_at_call 34; (with_reducible refine Calls.mono (ishape _ _ (by omega)) ?_); rintro e wk ⟨rfl, st⟩))
                          go_ret
                          exact ⟨by rw [hz.out]; rfl, mkStep⟩
                        have hcase : ((m.exports[k].kind != 0) = true ∧ (m.exports[k].kind != 2) = true ∧ (m.exports[k].kind != 3) = true ∧ ¬ (m.exports[k].kind = 0 ∨ m.exports[k].kind = 2 ∨ m.exports[k].kind = 3)) ∨ ((m.exports[k].kind = 0 ∨ m.exports[k].kind = 2 ∨ m.exports[k].kind = 3) ∧ (((m.exports[k].kind != 0) = false) ∨ ((m.exports[k].kind != 0) = true ∧ (m.exports[k].kind != 2) = false) ∨ ((m.exports[k].kind != 0) = true ∧ (m.exports[k].kind != 2) = true ∧ (m.exports[k].kind != 3) = false))) := by simp only [bne_iff_ne, bne_eq_false_iff_eq, ne_eq]; omega
                        rcases hcase with ⟨e1, e2, e3, hn⟩ | ⟨hkd, hcase⟩
                        · have hz := hid (pB_no (p := FormP m) (fun h => hn (h.exs _ (List.getElem_mem hlt)).kd))
                          clear hn
                          go_wp2_with (first | (go_at_call 17; (with_reducible refine Calls.mono (within_any ..) ?_); rintro e wk ⟨rfl, rfl⟩) | (go_at_call 32; (with_reducible refine Calls.mono (iname3 _ _ (by assumption)) ?_); rintro e wk ⟨rfl, st⟩) | (go_at_call 33; (with_reducible refine Calls.mono (iallok ..) ?_); rintro e wk ⟨rfl, st⟩) | (go_at_call 34; (with_reducible refine Calls.mono (ishape _ _ (by omega)) ?_); rintro e wk ⟨rfl, st⟩))
                          go_ret
                          exact ⟨by rw [hz.out]; rfl, mkStep⟩
                        replace hkd := hid hkd
                        rcases hcase with e1 | ⟨e1, e2⟩ | ⟨e1, e2, e3⟩
                        all_goals
                          by_cases c19x : 0 ≤ m.exports[k].index ∧ m.exports[k].index ≤ 1000
                          rotate_left
                          · have hz := hid (pB_no (p := FormP m) (fun h => c19x (⟨(h.exs _ (List.getElem_mem hlt)).i0, (h.exs _ (List.getElem_mem hlt)).i1⟩)))
                            have c19xd := decide_eq_false c19x
                            replace c19x := hid c19x
                            go_wp2_with (first | (go_at_call 17; (with_reducible refine Calls.mono (within_any ..) ?_); rintro e wk ⟨rfl, rfl⟩) | (go_at_call 32; (with_reducible refine Calls.mono (iname3 _ _ (by assumption)) ?_); rintro e wk ⟨rfl, st⟩) | (go_at_call 33; (with_reducible refine Calls.mono (iallok ..) ?_); rintro e wk ⟨rfl, st⟩) | (go_at_call 34; (with_reducible refine Calls.mono (ishape _ _ (by omega)) ?_); rintro e wk ⟨rfl, st⟩))
                            go_ret
                            exact ⟨by rw [hz.out]; rfl, mkStep⟩
                          have c19xd := decide_eq_true c19x
                          replace c19x := hid c19x
                          go_wp2_with (first | (go_at_call 17; (with_reducible refine Calls.mono (within_any ..) ?_); rintro e wk ⟨rfl, rfl⟩) | (go_at_call 32; (with_reducible refine Calls.mono (iname3 _ _ (by assumption)) ?_); rintro e wk ⟨rfl, st⟩) | (go_at_call 33; (with_reducible refine Calls.mono (iallok ..) ?_); rintro e wk ⟨rfl, st⟩) | (go_at_call 34; (with_reducible refine Calls.mono (ishape _ _ (by omega)) ?_); rintro e wk ⟨rfl, st⟩))
                          go_roundw
                          case rel => exact ⟨k + 1, by omega, by go_num, mkStep, allP_step hlt ⟨c18x, hkd.out, c19x.out.1, c19x.out.2⟩ hq5.out⟩
                          case measure => simp [intOf]; omega
                      · have hQ5 := hid (allP_mem (by omega) hq5.out)
                        go_wp2_with (first | (go_at_call 17; (with_reducible refine Calls.mono (within_any ..) ?_); rintro e wk ⟨rfl, rfl⟩) | (go_at_call 32; (with_reducible refine Calls.mono (iname3 _ _ (by assumption)) ?_); rintro e wk ⟨rfl, st⟩) | (go_at_call 33; (with_reducible refine Calls.mono (iallok ..) ?_); rintro e wk ⟨rfl, st⟩) | (go_at_call 34; (with_reducible refine Calls.mono (ishape _ _ (by omega)) ?_); rintro e wk ⟨rfl, st⟩))
                        refine wp_name ?_
                        intro A6 sA6
                        go_loopw [203] (fun i wr => ∃ k : Nat, k ≤ m.data.length ∧ i = .int .i64 k ∧ Step A6 wr ∧ Hid (∀ j : Nat, j < k → ∀ x, m.data[j]? = some x → DataP x)) (fun i _ => m.data.length - (intOf i).toNat)
                        case atStart => exact ⟨0, by omega, rfl, mkStep, fun j hj => by omega⟩
                        case round =>
                          obtain ⟨k, hk, rfl, st6, hq6⟩ := hrel
                          by_cases hlt : k < m.data.length
                          · clear hk
                            obtain ⟨be, oe, Ge, cse, rfl, hGe, hIe, hce, hoe⟩ := hvw6.row hr6 rfl (by decide) k hlt
                            have hI0e := hIe
                            obtain ⟨a1e, k1e, F1e, rfl, rfl, h1e, i0e⟩ := data_open hI0e
                            have kee : Known w _ m.data[k] _ := ⟨hIe⟩
                            have c0e := (hce 0 _ rfl).1
                            replace c0e : w.cell? ⟨be, oe + k * 2, none⟩ = _ := c0e
                            have c1e := (hce 1 _ rfl).1
                            replace c1e : w.cell? ⟨be, oe + k * 2 + 1, none⟩ = _ := c1e
                            clear hce
                            by_cases c20x : -2147483648 ≤ m.data[k].pos ∧ m.data[k].pos ≤ 2147483647
                            rotate_left
                            · have hz := hid (pB_no (p := FormP m) (fun h => c20x (⟨(h.das _ (List.getElem_mem hlt)).a0, (h.das _ (List.getElem_mem hlt)).a1⟩)))
                              have c20xd := decide_eq_false c20x
                              replace c20x := hid c20x
                              go_wp2_with (first | (go_at_call 17; (with_reducible refine Calls.mono (within_any ..) ?_); rintro e wk ⟨rfl, rfl⟩) | (go_at_call 32; (with_reducible refine Calls.mono (iname3 _ _ (by assumption)) ?_); rintro e wk ⟨rfl, st⟩) | (go_at_call 33; (with_reducible refine Calls.mono (iallok ..) ?_); rintro e wk ⟨rfl, st⟩) | (go_at_call 34; (with_reducible refine Calls.mono (ishape _ _ (by omega)) ?_); rintro e wk ⟨rfl, st⟩))
                              go_ret
                              exact ⟨by rw [hz.out]; rfl, mkStep⟩
                            have c20xd := decide_eq_true c20x
                            replace c20x := hid c20x
                            by_cases c21x : (m.data[k].bytes.length : Int) ≤ 2000
                            rotate_left
                            · have hz := hid (pB_no (p := FormP m) (fun h => c21x ((h.das _ (List.getElem_mem hlt)).b1)))
                              go_wp2_with (first | (go_at_call 17; (with_reducible refine Calls.mono (within_any ..) ?_); rintro e wk ⟨rfl, rfl⟩) | (go_at_call 32; (with_reducible refine Calls.mono (iname3 _ _ (by assumption)) ?_); rintro e wk ⟨rfl, st⟩) | (go_at_call 33; (with_reducible refine Calls.mono (iallok ..) ?_); rintro e wk ⟨rfl, st⟩) | (go_at_call 34; (with_reducible refine Calls.mono (ishape _ _ (by omega)) ?_); rintro e wk ⟨rfl, st⟩))
                              go_ret
                              exact ⟨by rw [hz.out]; rfl, mkStep⟩
                            have c21xp := hid c21x
                            go_wp2_with (first | (go_at_call 17; (with_reducible refine Calls.mono (within_any ..) ?_); rintro e wk ⟨rfl, rfl⟩) | (go_at_call 32; (with_reducible refine Calls.mono (iname3 _ _ (by assumption)) ?_); rintro e wk ⟨rfl, st⟩) | (go_at_call 33; (with_reducible refine Calls.mono (iallok ..) ?_); rintro e wk ⟨rfl, st⟩) | (go_at_call 34; (with_reducible refine Calls.mono (ishape _ _ (by omega)) ?_); rintro e wk ⟨rfl, st⟩))
                            go_roundw
                            case rel => exact ⟨k + 1, by omega, by go_num, mkStep, allP_step hlt ⟨c20x.out.1, c20x.out.2, c21xp.out⟩ hq6.out⟩
                            case measure => simp [intOf]; omega
                          · have hQ6 := hid (allP_mem (by omega) hq6.out)
                            go_wp2_with (first | (go_at_call 17; (with_reducible refine Calls.mono (within_any ..) ?_); rintro e wk ⟨rfl, rfl⟩) | (go_at_call 32; (with_reducible refine Calls.mono (iname3 _ _ (by assumption)) ?_); rintro e wk ⟨rfl, st⟩) | (go_at_call 33; (with_reducible refine Calls.mono (iallok ..) ?_); rintro e wk ⟨rfl, st⟩) | (go_at_call 34; (with_reducible refine Calls.mono (ishape _ _ (by omega)) ?_); rintro e wk ⟨rfl, st⟩))
                            go_ret
                            exact ⟨by rw [pB_yes ⟨⟨c1xp.out, c2xp.out, hQ1.out, hQ2.out, hQ3.out⟩, c6x.out.1, c6x.out.2, hM.out, c3xp.out, c4xp.out, c5xp.out, hQ4.out, hQ5.out, hQ6.out⟩]; rfl, mkStep⟩
end Go.Proofs.YtpaekgeopmifeaaDoor
