/- Contracts: spec's FormOk. -/
import Derived.Test.YtpaekgeopmifeaaDoorK13
namespace Go.Proofs.YtpaekgeopmifeaaDoor
attribute [local go_sem ↓] Go.wp_at_zero Go.wp_at_succ
open Go.RowKit
open Rep (Is sz)


set_option maxHeartbeats 4000000 in
theorem sparts {F : List Nat} {cs : List Value} (m : ModuleD) (w : World) (hb : moduleCost m ≤ 1048576) [h : Shows w F m cs] : Calls Tryd.prog 45 #[.agg cs.toArray] w fun e w' => e = .returned (.bool (pB (PartsP m))) ∧ Step w w' := by
  obtain ⟨a1, k1, a2, k2, a3, k3, a4, k4, a5, k5, a6, k6, F1, F2, F3, F4, F5, F6, rfl, rfl, h1, h2, h3, h4, h5, h6, i3, i4⟩ := module_open h.is
  have kk := h.known
  clear h
  have hzI : importsCost m.imports ≤ 1048576 := by unfold moduleCost at hb; omega
  have hzF : funcsCost m.funcs ≤ 1048576 := by unfold moduleCost at hb; omega
  have hzE : exportsCost m.exports ≤ 1048576 := by unfold moduleCost at hb; omega
  have hci := hid (fun (k : Nat) (hk : k < m.imports.length) => cost_at importCost hzI hk)
  have hcf := hid (fun (k : Nat) (hk : k < m.funcs.length) => cost_at funcCost hzF hk)
  have hce := hid (fun (k : Nat) (hk : k < m.exports.length) => cost_at exportCost hzE hk)
  have hl2 : m.imports.length ≤ 1048576 := by unfold importsCost at hzI; omega
  have hl3 : m.funcs.length ≤ 1048576 := by unfold funcsCost at hzF; omega
  clear hzI hzF hzE hb
  obtain ⟨_, _, cl1, FF1, hv, _, hvw1, hr1, hml1⟩ := list_open h1
  cases hv
  unfold maxLen at hml1
  obtain ⟨_, _, cl2, FF2, hv, _, hvw2, hr2, hml2⟩ := list_open h2
  cases hv
  unfold maxLen at hml2
  obtain ⟨_, _, cl3, FF3, hv, _, hvw3, hr3, hml3⟩ := list_open h3
  cases hv
  unfold maxLen at hml3
  go_enter Tryd.func45, Tryd.ntmps45
  by_cases c1x : (m.sigs.length : Int) ≤ 30
  rotate_left
  · have hz := hid (pB_no (p := PartsP m) (fun h => c1x (h.z0)))
    go_wp2_with (first | (go_at_call 46; (with_reducible refine Calls.mono (sname3 _ _ (by assumption)) ?_); rintro e wk ⟨rfl, st⟩) | (go_at_call 62; (with_reducible refine Calls.mono (sbody3 _ _ (by assumption)) ?_); rintro e wk ⟨rfl, st⟩))
    go_ret
    exact ⟨by rw [hz.out]; rfl, mkStep⟩
  have c1xp := hid c1x
  by_cases c2x : (m.imports.length : Int) + m.funcs.length ≤ 60
  rotate_left
  · have hz := hid (pB_no (p := PartsP m) (fun h => c2x (h.z1)))
    go_wp2_with (first | (go_at_call 46; (with_reducible refine Calls.mono (sname3 _ _ (by assumption)) ?_); rintro e wk ⟨rfl, st⟩) | (go_at_call 62; (with_reducible refine Calls.mono (sbody3 _ _ (by assumption)) ?_); rintro e wk ⟨rfl, st⟩))
    go_ret
    exact ⟨by rw [hz.out]; rfl, mkStep⟩
  have c2xp := hid c2x
  go_wp2_with (first | (go_at_call 46; (with_reducible refine Calls.mono (sname3 _ _ (by assumption)) ?_); rintro e wk ⟨rfl, st⟩) | (go_at_call 62; (with_reducible refine Calls.mono (sbody3 _ _ (by assumption)) ?_); rintro e wk ⟨rfl, st⟩))
  refine wp_name ?_
  intro A1 sA1
  go_loopw [26] (fun i wr => ∃ k : Nat, k ≤ m.sigs.length ∧ i = .int .i64 k ∧ Step A1 wr ∧ Hid (∀ j : Nat, j < k → ∀ x, m.sigs[j]? = some x → SigP x)) (fun i _ => m.sigs.length - (intOf i).toNat)
  case atStart => exact ⟨0, by omega, rfl, mkStep, fun j hj => by omega⟩
  case round =>
    obtain ⟨k, hk, rfl, st1, hq1⟩ := hrel
    by_cases hlt : k < m.sigs.length
    · clear hk
      obtain ⟨be, oe, Ge, cse, rfl, hGe, hIe, hce, hoe⟩ := hvw1.row hr1 rfl (by decide) k hlt
      have hI0e := hIe
      obtain ⟨rfl, rfl, i0e, i1e⟩ := sig_open hI0e
      have kee : Known w _ m.sigs[k] _ := ⟨hIe⟩
      have c0e := (hce 0 _ rfl).1
      replace c0e : w.cell? ⟨be, oe + k * 2, none⟩ = _ := c0e
      have c1e := (hce 1 _ rfl).1
      replace c1e : w.cell? ⟨be, oe + k * 2 + 1, none⟩ = _ := c1e
      clear hce
      by_cases c3x : 0 ≤ m.sigs[k].params
      rotate_left
      · have hz := hid (pB_no (p := PartsP m) (fun h => c3x ((h.sigs _ (List.getElem_mem hlt)).p0)))
        go_wp2_with (first | (go_at_call 46; (with_reducible refine Calls.mono (sname3 _ _ (by assumption)) ?_); rintro e wk ⟨rfl, st⟩) | (go_at_call 62; (with_reducible refine Calls.mono (sbody3 _ _ (by assumption)) ?_); rintro e wk ⟨rfl, st⟩))
        go_ret
        exact ⟨by rw [hz.out]; rfl, mkStep⟩
      have c3xp := hid c3x
      by_cases c4x : m.sigs[k].params ≤ 60
      rotate_left
      · have hz := hid (pB_no (p := PartsP m) (fun h => c4x ((h.sigs _ (List.getElem_mem hlt)).p1)))
        go_wp2_with (first | (go_at_call 46; (with_reducible refine Calls.mono (sname3 _ _ (by assumption)) ?_); rintro e wk ⟨rfl, st⟩) | (go_at_call 62; (with_reducible refine Calls.mono (sbody3 _ _ (by assumption)) ?_); rintro e wk ⟨rfl, st⟩))
        go_ret
        exact ⟨by rw [hz.out]; rfl, mkStep⟩
      have c4xp := hid c4x
      by_cases c5x : 0 ≤ m.sigs[k].results
      rotate_left
      · have hz := hid (pB_no (p := PartsP m) (fun h => c5x ((h.sigs _ (List.getElem_mem hlt)).r0)))
        go_wp2_with (first | (go_at_call 46; (with_reducible refine Calls.mono (sname3 _ _ (by assumption)) ?_); rintro e wk ⟨rfl, st⟩) | (go_at_call 62; (with_reducible refine Calls.mono (sbody3 _ _ (by assumption)) ?_); rintro e wk ⟨rfl, st⟩))
        go_ret
        exact ⟨by rw [hz.out]; rfl, mkStep⟩
      have c5xp := hid c5x
      by_cases c6x : m.sigs[k].results ≤ 1
      rotate_left
      · have hz := hid (pB_no (p := PartsP m) (fun h => c6x ((h.sigs _ (List.getElem_mem hlt)).r1)))
        go_wp2_with (first | (go_at_call 46; (with_reducible refine Calls.mono (sname3 _ _ (by assumption)) ?_); rintro e wk ⟨rfl, st⟩) | (go_at_call 62; (with_reducible refine Calls.mono (sbody3 _ _ (by assumption)) ?_); rintro e wk ⟨rfl, st⟩))
        go_ret
        exact ⟨by rw [hz.out]; rfl, mkStep⟩
      have c6xp := hid c6x
      go_wp2_with (first | (go_at_call 46; (with_reducible refine Calls.mono (sname3 _ _ (by assumption)) ?_); rintro e wk ⟨rfl, st⟩) | (go_at_call 62; (with_reducible refine Calls.mono (sbody3 _ _ (by assumption)) ?_); rintro e wk ⟨rfl, st⟩))
      go_roundw
      case rel => exact ⟨k + 1, by omega, by go_num, mkStep, allP_step hlt ⟨c3xp.out, c4xp.out, c5xp.out, c6xp.out⟩ hq1.out⟩
      case measure => simp [intOf]; omega
    · have hQ1 := hid (allP_mem (by omega) hq1.out)
      go_wp2_with (first | (go_at_call 46; (with_reducible refine Calls.mono (sname3 _ _ (by assumption)) ?_); rintro e wk ⟨rfl, st⟩) | (go_at_call 62; (with_reducible refine Calls.mono (sbody3 _ _ (by assumption)) ?_); rintro e wk ⟨rfl, st⟩))
      refine wp_name ?_
      intro A2 sA2
      go_loopw [52] (fun i wr => ∃ k : Nat, k ≤ m.imports.length ∧ i = .int .i64 k ∧ Step A2 wr ∧ Hid (∀ j : Nat, j < k → ∀ x, m.imports[j]? = some x → ImportP m.sigs.length x)) (fun i _ => m.imports.length - (intOf i).toNat)
      case atStart => exact ⟨0, by omega, rfl, mkStep, fun j hj => by omega⟩
      case round =>
        obtain ⟨k, hk, rfl, st2, hq2⟩ := hrel
        by_cases hlt : k < m.imports.length
        · clear hk
          obtain ⟨be, oe, Ge, cse, rfl, hGe, hIe, hce, hoe⟩ := hvw2.row hr2 rfl (by decide) k hlt
          have hI0e := hIe
          obtain ⟨rfl, rfl, i0e, i1e, i2e⟩ := import_open hI0e
          have kee : Known w _ m.imports[k] _ := ⟨hIe⟩
          have c0e := (hce 0 _ rfl).1
          replace c0e : w.cell? ⟨be, oe + k * 3, none⟩ = _ := c0e
          have c1e := (hce 1 _ rfl).1
          replace c1e : w.cell? ⟨be, oe + k * 3 + 1, none⟩ = _ := c1e
          have c2e := (hce 2 _ rfl).1
          replace c2e : w.cell? ⟨be, oe + k * 3 + 2, none⟩ = _ := c2e
          clear hce
          have zz := hci.out k hlt
          have z1 : m.imports[k].mod.size ≤ 1099511627776 := by unfold importCost at zz; omega
          have z2 : m.imports[k].name.size ≤ 1099511627776 := by unfold importCost at zz; omega
          clear zz
          cases c7x : nameB3 m.imports[k].mod
          · have hz := hid (pB_no (p := PartsP m) (fun h => nb c7x ((h.imps _ (List.getElem_mem hlt)).md)))
            go_wp2_with (first | (go_at_call 46; (with_reducible refine Calls.mono (sname3 _ _ (by assumption)) ?_); rintro e wk ⟨rfl, st⟩) | (go_at_call 62; (with_reducible refine Calls.mono (sbody3 _ _ (by assumption)) ?_); rintro e wk ⟨rfl, st⟩))
            go_ret
            exact ⟨by rw [hz.out]; rfl, mkStep⟩
          cases c8x : nameB3 m.imports[k].name
          · have hz := hid (pB_no (p := PartsP m) (fun h => nb c8x ((h.imps _ (List.getElem_mem hlt)).nm)))
            go_wp2_with (first | (go_at_call 46; (with_reducible refine Calls.mono (sname3 _ _ (by assumption)) ?_); rintro e wk ⟨rfl, st⟩) | (go_at_call 62; (with_reducible refine Calls.mono (sbody3 _ _ (by assumption)) ?_); rintro e wk ⟨rfl, st⟩))
            go_ret
            exact ⟨by rw [hz.out]; rfl, mkStep⟩
          by_cases c9x : 0 ≤ m.imports[k].sig
          rotate_left
          · have hz := hid (pB_no (p := PartsP m) (fun h => c9x ((h.imps _ (List.getElem_mem hlt)).s0)))
            go_wp2_with (first | (go_at_call 46; (with_reducible refine Calls.mono (sname3 _ _ (by assumption)) ?_); rintro e wk ⟨rfl, st⟩) | (go_at_call 62; (with_reducible refine Calls.mono (sbody3 _ _ (by assumption)) ?_); rintro e wk ⟨rfl, st⟩))
            go_ret
            exact ⟨by rw [hz.out]; rfl, mkStep⟩
          have c9xp := hid c9x
          by_cases c10x : m.imports[k].sig < (m.sigs.length : Int)
          rotate_left
          · have hz := hid (pB_no (p := PartsP m) (fun h => c10x ((h.imps _ (List.getElem_mem hlt)).s1)))
            go_wp2_with (first | (go_at_call 46; (with_reducible refine Calls.mono (sname3 _ _ (by assumption)) ?_); rintro e wk ⟨rfl, st⟩) | (go_at_call 62; (with_reducible refine Calls.mono (sbody3 _ _ (by assumption)) ?_); rintro e wk ⟨rfl, st⟩))
            go_ret
            exact ⟨by rw [hz.out]; rfl, mkStep⟩
          have c10xp := hid c10x
          go_wp2_with (first | (go_at_call 46; (with_reducible refine Calls.mono (sname3 _ _ (by assumption)) ?_); rintro e wk ⟨rfl, st⟩) | (go_at_call 62; (with_reducible refine Calls.mono (sbody3 _ _ (by assumption)) ?_); rintro e wk ⟨rfl, st⟩))
          go_roundw
          case rel => exact ⟨k + 1, by omega, by go_num, mkStep, allP_step hlt ⟨c7x, c8x, c9xp.out, c10xp.out⟩ hq2.out⟩
          case measure => simp [intOf]; omega
        · have hQ2 := hid (allP_mem (by omega) hq2.out)
          go_wp2_with (first | (go_at_call 46; (with_reducible refine Calls.mono (sname3 _ _ (by assumption)) ?_); rintro e wk ⟨rfl, st⟩) | (go_at_call 62; (with_reducible refine Calls.mono (sbody3 _ _ (by assumption)) ?_); rintro e wk ⟨rfl, st⟩))
          refine wp_name ?_
          intro A3 sA3
          go_loopw [83] (fun i wr => ∃ k : Nat, k ≤ m.funcs.length ∧ i = .int .i64 k ∧ Step A3 wr ∧ Hid (∀ j : Nat, j < k → ∀ x, m.funcs[j]? = some x → FuncP m.sigs.length x)) (fun i _ => m.funcs.length - (intOf i).toNat)
          case atStart => exact ⟨0, by omega, rfl, mkStep, fun j hj => by omega⟩
          case round =>
            obtain ⟨k, hk, rfl, st3, hq3⟩ := hrel
            by_cases hlt : k < m.funcs.length
            · clear hk
              obtain ⟨be, oe, Ge, cse, rfl, hGe, hIe, hce, hoe⟩ := hvw3.row hr3 rfl (by decide) k hlt
              have hI0e := hIe
              obtain ⟨a1e, k1e, F1e, rfl, rfl, h1e, i0e, i1e⟩ := func_open hI0e
              have kee : Known w _ m.funcs[k] _ := ⟨hIe⟩
              have c0e := (hce 0 _ rfl).1
              replace c0e : w.cell? ⟨be, oe + k * 3, none⟩ = _ := c0e
              have c1e := (hce 1 _ rfl).1
              replace c1e : w.cell? ⟨be, oe + k * 3 + 1, none⟩ = _ := c1e
              have c2e := (hce 2 _ rfl).1
              replace c2e : w.cell? ⟨be, oe + k * 3 + 2, none⟩ = _ := c2e
              clear hce
              have zz := hcf.out k hlt
              have z1 : m.funcs[k].body.length ≤ 1048576 := by unfold funcCost inssCost at zz; omega
              clear zz
              have nb1 : Known w _ m.funcs[k].body _ := ⟨h1e⟩
              by_cases c11x : 0 ≤ m.funcs[k].sig
              rotate_left
              · have hz := hid (pB_no (p := PartsP m) (fun h => c11x ((h.fns _ (List.getElem_mem hlt)).s0)))
                go_wp2_with (first | (go_at_call 46; (with_reducible refine Calls.mono (sname3 _ _ (by assumption)) ?_); rintro e wk ⟨rfl, st⟩) | (go_at_call 62; (with_reducible refine Calls.mono (sbody3 _ _ (by assumption)) ?_); rintro e wk ⟨rfl, st⟩))
                go_ret
                exact ⟨by rw [hz.out]; rfl, mkStep⟩
              have c11xp := hid c11x
              by_cases c12x : m.funcs[k].sig < (m.sigs.length : Int)
              rotate_left
              · have hz := hid (pB_no (p := PartsP m) (fun h => c12x ((h.fns _ (List.getElem_mem hlt)).s1)))
                go_wp2_with (first | (go_at_call 46; (with_reducible refine Calls.mono (sname3 _ _ (by assumption)) ?_); rintro e wk ⟨rfl, st⟩) | (go_at_call 62; (with_reducible refine Calls.mono (sbody3 _ _ (by assumption)) ?_); rintro e wk ⟨rfl, st⟩))
                go_ret
                exact ⟨by rw [hz.out]; rfl, mkStep⟩
              have c12xp := hid c12x
              by_cases c13x : 0 ≤ m.funcs[k].locals
              rotate_left
              · have hz := hid (pB_no (p := PartsP m) (fun h => c13x ((h.fns _ (List.getElem_mem hlt)).l0)))
                go_wp2_with (first | (go_at_call 46; (with_reducible refine Calls.mono (sname3 _ _ (by assumption)) ?_); rintro e wk ⟨rfl, st⟩) | (go_at_call 62; (with_reducible refine Calls.mono (sbody3 _ _ (by assumption)) ?_); rintro e wk ⟨rfl, st⟩))
                go_ret
                exact ⟨by rw [hz.out]; rfl, mkStep⟩
              have c13xp := hid c13x
              by_cases c14x : m.funcs[k].locals ≤ 60
              rotate_left
              · have hz := hid (pB_no (p := PartsP m) (fun h => c14x ((h.fns _ (List.getElem_mem hlt)).l1)))
                go_wp2_with (first | (go_at_call 46; (with_reducible refine Calls.mono (sname3 _ _ (by assumption)) ?_); rintro e wk ⟨rfl, st⟩) | (go_at_call 62; (with_reducible refine Calls.mono (sbody3 _ _ (by assumption)) ?_); rintro e wk ⟨rfl, st⟩))
                go_ret
                exact ⟨by rw [hz.out]; rfl, mkStep⟩
              have c14xp := hid c14x
              cases c15x : bodyB m.funcs[k].body
              · have hz := hid (pB_no (p := PartsP m) (fun h => nb c15x ((h.fns _ (List.getElem_mem hlt)).bd)))
                go_wp2_with (first | (go_at_call 46; (with_reducible refine Calls.mono (sname3 _ _ (by assumption)) ?_); rintro e wk ⟨rfl, st⟩) | (go_at_call 62; (with_reducible refine Calls.mono (sbody3 _ _ (by assumption)) ?_); rintro e wk ⟨rfl, st⟩))
                go_ret
                exact ⟨by rw [hz.out]; rfl, mkStep⟩
              go_wp2_with (first | (go_at_call 46; (with_reducible refine Calls.mono (sname3 _ _ (by assumption)) ?_); rintro e wk ⟨rfl, st⟩) | (go_at_call 62; (with_reducible refine Calls.mono (sbody3 _ _ (by assumption)) ?_); rintro e wk ⟨rfl, st⟩))
              go_roundw
              case rel => exact ⟨k + 1, by omega, by go_num, mkStep, allP_step hlt ⟨c11xp.out, c12xp.out, c13xp.out, c14xp.out, c15x⟩ hq3.out⟩
              case measure => simp [intOf]; omega
            · have hQ3 := hid (allP_mem (by omega) hq3.out)
              go_wp2_with (first | (go_at_call 46; (with_reducible refine Calls.mono (sname3 _ _ (by assumption)) ?_); rintro e wk ⟨rfl, st⟩) | (go_at_call 62; (with_reducible refine Calls.mono (sbody3 _ _ (by assumption)) ?_); rintro e wk ⟨rfl, st⟩))
              go_ret
              exact ⟨by rw [pB_yes ⟨c1xp.out, c2xp.out, hQ1.out, hQ2.out, hQ3.out⟩]; rfl, mkStep⟩
end Go.Proofs.YtpaekgeopmifeaaDoor
