/- Contracts: spec's ModuleOk. Contracts: impl's ModuleOk. The walk of FnExactModuleOk. -/
import Derived.Test.YtfddmelikahfbaaGreatDoorKd
import Derived.MakeChecks
namespace Go.Proofs.YtfddmelikahfbaaGreatDoor
attribute [local go_sem ↓] Go.wp_at_zero Go.wp_at_succ
open Go.RowKit
open Rep (Is sz)

def expB (m : ModuleD) (e : ExportD) : Bool :=
  if e.kind = 0 then decide (e.index < (m.imports.length : Int) + m.funcs.length)
  else if e.kind = 2 then decide (e.index = 0) && decide (0 ≤ m.pages)
  else decide (e.index < m.globals.length)
theorem expB_0 {m : ModuleD} {e : ExportD} (h : e.kind = 0) : expB m e = decide (e.index < (m.imports.length : Int) + m.funcs.length) := if_pos h
theorem expB_2 {m : ModuleD} {e : ExportD} (h : e.kind = 2) : expB m e = (decide (e.index = 0) && decide (0 ≤ m.pages)) := by unfold expB; rw [if_neg (by omega), if_pos h]
theorem expB_3 {m : ModuleD} {e : ExportD} (h : ¬ e.kind = 0 ∧ ¬ e.kind = 2) : expB m e = decide (e.index < m.globals.length) := by unfold expB; rw [if_neg h.1, if_neg h.2]
/-- The export at place j is right. -/
def ExpAt (m : ModuleD) (j : Nat) (y : ExportD) : Prop := expB m y = true ∧ ∀ i : Nat, i < j → ∀ x, m.exports[i]? = some x → x.name ≠ y.name
structure ModP (m : ModuleD) : Prop where
  fo : FormP m
  da : ¬ (0 < m.data.length ∧ m.pages < 0)
  fs : ∀ i : Nat, i < m.funcs.length → faultF m i = -1
  ex : ∀ (j : Nat) (y : ExportD), m.exports[j]? = some y → ExpAt m j y

set_option maxHeartbeats 1000000 in
theorem sexport {F G : List Nat} {cs ds : List Value} (m : ModuleD) (x : ExportD) (w : World) (pa : PartsP m) [h : Shows w F m cs] [h2 : Shows w G x ds] :
    Calls Tryz.prog 47 #[.agg cs.toArray, .agg ds.toArray] w fun e w' => e = .returned (.bool (expB m x)) ∧ Step w w' := by
  obtain ⟨a1, k1, a2, k2, a3, k3, a4, k4, a5, k5, a6, k6, F1, F2, F3, F4, F5, F6, rfl, rfl, h1, h2m, h3, h4, h5, h6, i3, i4⟩ := module_open h.is
  obtain ⟨rfl, rfl, _, _, _⟩ := export_open h2.is
  clear h h2
  obtain ⟨nm, kd, ix⟩ := x
  by_cases k0 : kd = 0
  · subst k0
    have r := hid (expB_0 (m := m) (e := ⟨nm, 0, ix⟩) rfl)
    have l4 : (m.imports.length : Int) + m.funcs.length ≤ 9223372036854775807 := by have := pa.z1; omega
    go_enter Tryz.func47, Tryz.ntmps47
    go_wp2
    go_ret
    exact ⟨by rw [r.out]; rfl, mkStep⟩
  by_cases k2' : kd = 2
  · subst k2'
    have r := hid (expB_2 (m := m) (e := ⟨nm, 2, ix⟩) rfl)
    by_cases hx : ix = 0
    · have hxb : (ix == 0) = true := beq_iff_eq.2 hx
      have r2 := hid (show expB m ⟨nm, 2, ix⟩ = decide (0 ≤ m.pages) by rw [r.out, decide_eq_true hx]; rfl)
      replace hx := hid hx
      go_enter Tryz.func47, Tryz.ntmps47
      go_wp2
      go_ret
      exact ⟨by rw [r2.out]; rfl, mkStep⟩
    · have hxb : (ix == 0) = false := beq_eq_false_iff_ne.2 hx
      have r2 := hid (show expB m ⟨nm, 2, ix⟩ = false by rw [r.out, decide_eq_false hx]; rfl)
      replace hx := hid hx
      go_enter Tryz.func47, Tryz.ntmps47
      go_wp2
      go_ret
      exact ⟨by rw [r2.out]; rfl, mkStep⟩
  · have r := hid (expB_3 (m := m) (e := ⟨nm, kd, ix⟩) ⟨k0, k2'⟩)
    have n0 : (kd == 0) = false := beq_eq_false_iff_ne.2 k0
    have n2 : (kd == 2) = false := beq_eq_false_iff_ne.2 k2'
    clear k0 k2'
    go_enter Tryz.func47, Tryz.ntmps47
    go_wp2
    go_ret
    exact ⟨by rw [r.out]; rfl, mkStep⟩

theorem ne_str {x y : ByteArray} (h : ¬ x = y) : (x.toList == y.toList) = false := str_no h

set_option maxRecDepth 10000 in
set_option maxHeartbeats 4000000 in
theorem smodok {F : List Nat} {cs : List Value} (m : ModuleD) (w : World) (hz : moduleCost m ≤ 1048576) [hm : Shows w F m cs] :
    Calls Tryz.prog 14 #[.agg cs.toArray] w fun e w' => e = .returned (.bool (pB (ModP m))) ∧ Step w w' := by
  have kk := hm.known
  obtain ⟨a1, k1, a2, k2, a3, k3, a4, k4, a5, k5, a6, k6, F1, F2, F3, F4, F5, F6, rfl, rfl, h1, h2, h3, h4, h5, h6, i3, i4⟩ := module_open hm.is
  clear hm
  obtain ⟨_, _, cl5, FF5, hv, _, hvw5, hr5, hml5⟩ := list_open h5
  cases hv
  unfold maxLen at hml5
  have hml3 : (m.funcs.length : Int) ≤ 9223372036854775807 := by obtain ⟨_, _, _, _, _, _, _, _, hml⟩ := list_open h3; unfold maxLen at hml; omega
  cases hF : pB (FormP m)
  · have r := hid (pB_no (p := ModP m) (fun h => by rw [pB_yes h.fo] at hF; cases hF))
    go_enter Tryz.func14, Tryz.ntmps14
    go_wp2_with fail
    with_reducible refine Calls.mono (sform m _ hz) ?_
    rintro e w1 ⟨rfl, st1⟩
    rw [hF]
    go_wp2
    go_ret
    exact ⟨by rw [r.out]; rfl, mkStep⟩
  have fo : FormP m := pB_iff.1 hF
  have pa := fo.pa
  by_cases hd : 0 < m.data.length ∧ m.pages < 0
  · have r := hid (pB_no (p := ModP m) (fun h => h.da hd))
    have hd1 : (0 : Int) < m.data.length := by omega
    have hd2 := hd.2
    clear hd
    go_enter Tryz.func14, Tryz.ntmps14
    go_wp2_with fail
    with_reducible refine Calls.mono (sform m _ hz) ?_
    rintro e w1 ⟨rfl, st1⟩
    rw [hF]
    go_wp2
    go_ret
    exact ⟨by rw [r.out]; rfl, mkStep⟩
  have hd9 := hid hd
  have key : (0 : Int) < m.data.length ∧ ¬ m.pages < 0 ∨ ¬ (0 : Int) < m.data.length := by omega
  rcases key with ⟨hd1, hd2⟩ | hd1
  all_goals
    clear hd
    go_enter Tryz.func14, Tryz.ntmps14
    go_wp2_with fail
    with_reducible refine Calls.mono (sform m _ hz) ?_
    rintro e w1 ⟨rfl, st1⟩
    rw [hF]
    go_wp2_with fail
    refine wp_name ?_
    intro A1 sA1
    go_loopw [24] (fun i wr => ∃ k : Nat, k ≤ m.funcs.length ∧ i = .int .i64 k ∧ Step A1 wr ∧ Hid (∀ j : Nat, j < k → faultF m j = -1)) (fun i _ => m.funcs.length - (intOf i).toNat)
    case atStart => exact ⟨0, by omega, rfl, mkStep, fun j hj => by omega⟩
    case round =>
      obtain ⟨k, hk, rfl, st, hq1⟩ := hrel
      by_cases hlt : k < m.funcs.length
      · have hfa := faultAt_yes fo hlt
        go_wp2_with fail
        with_reducible refine Calls.mono (sfault m (k : Int) _ hz) ?_
        rintro e w2 ⟨rfl, st2⟩
        rw [hfa]
        by_cases hq : faultF m k = -1
        · have hn : ((-1 : Int) != -1) = false := rfl
          rw [hq]
          go_wp2
          go_roundw
          case rel => exact ⟨k + 1, by omega, by go_num, mkStep, fun j hj => by
            rcases Nat.lt_or_ge j k with h1 | h1
            · exact hq1.out j h1
            · obtain rfl : j = k := by omega
              exact hq⟩
          case measure => simp [intOf]; omega
        · have hn : (faultF m k != -1) = true := by simpa using hq
          have r := hid (pB_no (p := ModP m) (fun h => hq (h.fs k hlt)))
          replace hq := hid hq
          replace hfa := hid hfa
          go_wp2
          go_ret
          exact ⟨by rw [r.out]; rfl, mkStep⟩
      · have hQ1 : Hid (∀ j : Nat, j < m.funcs.length → faultF m j = -1) := fun j hj => hq1.out j (by omega)
        go_wp2_with fail
        refine wp_name ?_
        intro A2 sA2
        go_loopw [35] (fun i wr => ∃ k : Nat, k ≤ m.exports.length ∧ i = .int .i64 k ∧ Step A2 wr ∧ Hid (∀ j : Nat, j < k → ∀ y, m.exports[j]? = some y → ExpAt m j y)) (fun i _ => m.exports.length - (intOf i).toNat)
        case atStart => exact ⟨0, by omega, rfl, mkStep, fun j hj => by omega⟩
        case round =>
          obtain ⟨k, hk, rfl, st, hq2⟩ := hrel
          by_cases hlt : k < m.exports.length
          · skip
            obtain ⟨be, oe, Ge, cse, rfl, hGe, hIe, hce, hoe⟩ := hvw5.row hr5 rfl (by decide) k hlt
            have hI0e := hIe
            obtain ⟨rfl, rfl, i0e, i1e, i2e⟩ := export_open hI0e
            have kee : Known w _ m.exports[k] _ := ⟨hIe⟩
            have c0e := (hce 0 _ rfl).1
            replace c0e : w.cell? ⟨be, oe + k * 3, none⟩ = _ := c0e
            have c1e := (hce 1 _ rfl).1
            replace c1e : w.cell? ⟨be, oe + k * 3 + 1, none⟩ = _ := c1e
            have c2e := (hce 2 _ rfl).1
            replace c2e : w.cell? ⟨be, oe + k * 3 + 2, none⟩ = _ := c2e
            clear hce
            cases hq : expB m m.exports[k]
            · have r := hid (pB_no (p := ModP m) (fun h => by have := (h.ex k _ (List.getElem?_eq_getElem hlt)).1; rw [hq] at this; cases this))
              go_wp2_with fail
              with_reducible refine Calls.mono (sexport m m.exports[k] _ pa) ?_
              rintro e w2 ⟨rfl, st2⟩
              rw [hq]
              go_wp2
              go_ret
              exact ⟨by rw [r.out]; rfl, mkStep⟩
            · go_wp2_with fail
              with_reducible refine Calls.mono (sexport m m.exports[k] _ pa) ?_
              rintro e w2 ⟨rfl, st2⟩
              rw [hq]
              go_wp2_with fail
              refine wp_name ?_
              intro A3 sA3
              go_loopw [6] (fun i w3 => ∃ j : Nat, j ≤ k ∧ i = .int .i64 j ∧ Step A3 w3 ∧ Hid (∀ i : Nat, i < j → ∀ x, m.exports[i]? = some x → x.name ≠ m.exports[k].name)) (fun i _ => k - (intOf i).toNat)
              case atStart => exact ⟨0, by omega, rfl, mkStep, fun j hj => by omega⟩
              case round =>
                obtain ⟨j, hj, rfl, st3, hq3⟩ := hrel
                by_cases hjk : j < k
                · have hj2 : j < m.exports.length := by omega
                  obtain ⟨bf, of, Gf, csf, hadr, hGf, hIf, hcf, hof⟩ := hvw5.row hr5 rfl (by decide) j hj2
                  cases hadr
                  have hI0f := hIf
                  obtain ⟨rfl, rfl, i0f, i1f, i2f⟩ := export_open hI0f
                  have kef : Known w _ m.exports[j] _ := ⟨hIf⟩
                  have c0f := (hcf 0 _ rfl).1
                  replace c0f : w.cell? ⟨be, oe + j * 3, none⟩ = _ := c0f
                  have c1f := (hcf 1 _ rfl).1
                  replace c1f : w.cell? ⟨be, oe + j * 3 + 1, none⟩ = _ := c1f
                  have c2f := (hcf 2 _ rfl).1
                  replace c2f : w.cell? ⟨be, oe + j * 3 + 2, none⟩ = _ := c2f
                  clear hcf
                  by_cases he : m.exports[j].name = m.exports[k].name
                  · have eb := str_yes he
                    have r := hid (pB_no (p := ModP m) (fun h => (h.ex k _ (List.getElem?_eq_getElem hlt)).2 j hjk _ (List.getElem?_eq_getElem hj2) he))
                    replace he := hid he
                    go_wp2_with fail
                    refine rg_begin0 (n := 9) (by kernel_rfl) rfl fun rg0 => ?_
                    refine rg_read (i := 0) (a1 := _) rfl (by kernel_rfl) rfl (by simp) (by intro wq hwq; go_wp2; exact ⟨rfl, rfl⟩) mkStep ?_
                    refine rg_read (i := 1) (a1 := _) rfl (by kernel_rfl) rfl (by simp) (by intro wq hwq; go_wp2; exact ⟨rfl, rfl⟩) mkStep ?_
                    refine rg_read (i := 2) (a1 := _) rfl (by kernel_rfl) rfl (by simp) (by intro wq hwq; go_wp2; exact ⟨rfl, rfl⟩) mkStep ?_
                    refine rg_read (i := 3) (a1 := _) rfl (by kernel_rfl) rfl (by simp) (by intro wq hwq; go_wp2; exact ⟨rfl, rfl⟩) mkStep ?_
                    refine rg_read (i := 4) (a1 := _) rfl (by kernel_rfl) rfl (by simp) (by intro wq hwq; go_wp2; exact ⟨rfl, rfl⟩) mkStep ?_
                    refine rg_read (i := 5) (a1 := _) rfl (by kernel_rfl) rfl (by simp) (by intro wq hwq; go_wp2; exact ⟨rfl, rfl⟩) mkStep ?_
                    refine rg_read (i := 6) (a1 := _) rfl (by kernel_rfl) rfl (by simp) (by intro wq hwq; go_wp2; exact ⟨rfl, rfl⟩) mkStep ?_
                    refine rg_read (i := 7) (a1 := _) rfl (by kernel_rfl) rfl (by simp) (by intro wq hwq; go_wp2; exact ⟨rfl, rfl⟩) mkStep ?_
                    refine rg_read (i := 8) (a1 := _) rfl (by kernel_rfl) rfl (by simp) (by intro wq hwq; go_wp2; exact ⟨rfl, rfl⟩) mkStep ?_
                    refine rg_done (by kernel_rfl) ?_
                    go_wp2
                    go_ret
                    exact ⟨by rw [r.out]; rfl, mkStep⟩
                  · have eb := str_no he
                    have hq9 : Hid (∀ i : Nat, i < j + 1 → ∀ x, m.exports[i]? = some x → x.name ≠ m.exports[k].name) := hid (allP_step (P := fun (x : ExportD) => x.name ≠ m.exports[k].name) hj2 he hq3.out)
                    replace he := hid he
                    go_wp2_with fail
                    refine rg_begin0 (n := 9) (by kernel_rfl) rfl fun rg0 => ?_
                    refine rg_read (i := 0) (a1 := _) rfl (by kernel_rfl) rfl (by simp) (by intro wq hwq; go_wp2; exact ⟨rfl, rfl⟩) mkStep ?_
                    refine rg_read (i := 1) (a1 := _) rfl (by kernel_rfl) rfl (by simp) (by intro wq hwq; go_wp2; exact ⟨rfl, rfl⟩) mkStep ?_
                    refine rg_read (i := 2) (a1 := _) rfl (by kernel_rfl) rfl (by simp) (by intro wq hwq; go_wp2; exact ⟨rfl, rfl⟩) mkStep ?_
                    refine rg_read (i := 3) (a1 := _) rfl (by kernel_rfl) rfl (by simp) (by intro wq hwq; go_wp2; exact ⟨rfl, rfl⟩) mkStep ?_
                    refine rg_read (i := 4) (a1 := _) rfl (by kernel_rfl) rfl (by simp) (by intro wq hwq; go_wp2; exact ⟨rfl, rfl⟩) mkStep ?_
                    refine rg_read (i := 5) (a1 := _) rfl (by kernel_rfl) rfl (by simp) (by intro wq hwq; go_wp2; exact ⟨rfl, rfl⟩) mkStep ?_
                    refine rg_read (i := 6) (a1 := _) rfl (by kernel_rfl) rfl (by simp) (by intro wq hwq; go_wp2; exact ⟨rfl, rfl⟩) mkStep ?_
                    refine rg_read (i := 7) (a1 := _) rfl (by kernel_rfl) rfl (by simp) (by intro wq hwq; go_wp2; exact ⟨rfl, rfl⟩) mkStep ?_
                    refine rg_read (i := 8) (a1 := _) rfl (by kernel_rfl) rfl (by simp) (by intro wq hwq; go_wp2; exact ⟨rfl, rfl⟩) mkStep ?_
                    refine rg_done (by kernel_rfl) ?_
                    go_wp2
                    go_roundw
                    case rel => exact ⟨j + 1, by omega, by go_num, mkStep, hq9⟩
                    case measure => simp [intOf]; omega
                · have hq9 : Hid (∀ j : Nat, j < k + 1 → ∀ y, m.exports[j]? = some y → ExpAt m j y) := fun j hj y hy => by
                    rcases Nat.lt_or_ge j k with h1 | h1
                    · exact hq2.out j h1 y hy
                    · obtain rfl : j = k := by omega
                      rw [List.getElem?_eq_getElem hlt] at hy
                      obtain rfl := Option.some.inj hy
                      exact ⟨hq, fun i hi x hx => hq3.out i (by omega) x hx⟩
                  go_wp2
                  go_roundw
                  case rel => exact ⟨k + 1, by omega, by go_num, mkStep, hq9⟩
                  case measure => simp [intOf]; omega
          · have hQ2 : Hid (∀ (j : Nat) (y : ExportD), m.exports[j]? = some y → ExpAt m j y) := fun j y hy => hq2.out j (by have := (List.getElem?_eq_some_iff.1 hy).1; omega) y hy
            go_wp2
            go_ret
            exact ⟨by rw [pB_yes ⟨fo, hd9.out, hQ1.out, hQ2.out⟩]; rfl, mkStep⟩
end Go.Proofs.YtfddmelikahfbaaGreatDoor
namespace Go.Proofs.YtfddmelikahfbaaGreatDoor
attribute [local go_sem ↓] Go.wp_at_zero Go.wp_at_succ
open Go.RowKit
open Rep (Is sz)

theorem isame {F : List Nat} {cs : List Value} {px : Nat} (y : ExportD) (nm : ByteArray) (w : World) (hx : w.cell? ⟨px, 0, none⟩ = some (.string nm)) [h : Shows w F y cs] :
    Calls Tryz.prog 85 #[.agg cs.toArray, .pointer (some ⟨px, 0, none⟩)] w fun e w' => e = .returned (.bool (decide (y.name = nm))) ∧ Step w w' := by
  obtain ⟨rfl, rfl, _, _, _⟩ := export_open h.is
  clear h
  have ox : Old px w := ⟨block_lt_of_cell hx⟩
  by_cases he : y.name = nm
  · have e1 := str_yes he
    have r := hid (decide_eq_true he)
    replace he := hid he
    go_enter Tryz.func85, Tryz.ntmps85
    go_wp2
    go_ret
    exact ⟨by rw [r.out]; rfl, mkStep⟩
  · have e1 := str_no he
    have r := hid (decide_eq_false he)
    replace he := hid he
    go_enter Tryz.func85, Tryz.ntmps85
    go_wp2
    go_ret
    exact ⟨by rw [r.out]; rfl, mkStep⟩

/-- The first of a name. -/
def FirstOf (l : List ExportD) (nm : ByteArray) (n : Int) : Prop := (∃ j : Nat, n = (j : Int) ∧ (∃ y, l[j]? = some y ∧ y.name = nm) ∧ ∀ i : Nat, i < j → ∀ x, l[i]? = some x → x.name ≠ nm) ∨ ∀ (i : Nat) x, l[i]? = some x → x.name ≠ nm

theorem ifirst {F : List Nat} {l : List ExportD} {v : Value} {px : Nat} (nm : ByteArray) (w : World) (hx : w.cell? ⟨px, 0, none⟩ = some (.string nm)) [h : Shows w F l [v]] :
    Calls Tryz.prog 84 #[v, .func (.func 85) #[] #[.pointer (some ⟨px, 0, none⟩)]] w fun e w' => ∃ n : Int, FirstOf l nm n ∧ e = .returned (.int .i64 n) ∧ Step w w' := by
  obtain ⟨a, cap, cl, FF, hv, _, hvw, hr, hml⟩ := list_open h.is
  cases hv
  clear h
  unfold maxLen at hml
  have ox : Old px w := ⟨block_lt_of_cell hx⟩
  go_enter Tryz.func84, Tryz.ntmps84
  go_wp2
  go_loopw [8] (fun i wr => ∃ k : Nat, k ≤ l.length ∧ i = .int .i64 k ∧ Step w wr ∧ Hid (∀ j : Nat, j < k → ∀ x, l[j]? = some x → x.name ≠ nm)) (fun i _ => l.length - (intOf i).toNat)
  case atStart => exact ⟨0, by omega, rfl, mkStep, fun j hj => by omega⟩
  case round =>
    obtain ⟨k, hk, rfl, st, heq⟩ := hrel
    have hxr : wr.cell? ⟨px, 0, none⟩ = some (.string nm) := st.fr.cell_some hx (by simp)
    by_cases hlt : k < l.length
    · clear hk
      obtain ⟨b, o, G, cs, rfl, hG, hI, hc, ho⟩ := hvw.row hr rfl (by decide) k hlt
      have hI0 := hI
      obtain ⟨rfl, rfl, i0, i1, i2⟩ := export_open hI0
      have ke : Known w _ l[k] _ := ⟨hI⟩
      have c0 := (hc 0 _ rfl).1
      replace c0 : w.cell? ⟨b, o + k * 3, none⟩ = _ := c0
      have c1 := (hc 1 _ rfl).1
      replace c1 : w.cell? ⟨b, o + k * 3 + 1, none⟩ = _ := c1
      have c2 := (hc 2 _ rfl).1
      replace c2 : w.cell? ⟨b, o + k * 3 + 2, none⟩ = _ := c2
      clear hc
      go_wp2_with fail
      with_reducible refine Calls.mono (isame l[k] nm _ hxr) ?_
      rintro e w2 ⟨rfl, st2⟩
      by_cases he : l[k].name = nm
      · rw [decide_eq_true he]
        replace he := hid he
        clear hxr
        go_wp2
        go_ret
        exact ⟨k, .inl ⟨k, rfl, ⟨_, List.getElem?_eq_getElem hlt, he.out⟩, heq.out⟩, rfl, mkStep⟩
      · rw [decide_eq_false he]
        have hq9 : Hid (∀ i : Nat, i < k + 1 → ∀ x, l[i]? = some x → x.name ≠ nm) := hid (allP_step (P := fun (x : ExportD) => x.name ≠ nm) hlt he heq.out)
        replace he := hid he
        clear hxr
        go_wp2
        go_roundw
        case rel => exact ⟨k + 1, by omega, by go_num, mkStep, hq9⟩
        case measure => simp [intOf]; omega
    · clear hxr
      go_wp2
      go_ret
      exact ⟨-1, .inr (fun i x hx => heq.out i (by have := (List.getElem?_eq_some_iff.1 hx).1; omega) x hx), rfl, mkStep⟩

theorem sig_some {m : ModuleD} (pa : PartsP m) {a : Int} (h0 : 0 ≤ a) : (sigC m a).isSome = decide (a < (m.imports.length : Int) + m.funcs.length) := by
  by_cases h : a < (m.imports.length : Int) + m.funcs.length
  · rw [decide_eq_true h]
    obtain ⟨k, rfl⟩ := Int.eq_ofNat_of_zero_le h0
    by_cases hk : k < m.imports.length
    · have hq := pa.imps _ (List.getElem_mem hk)
      obtain ⟨q, e⟩ := Int.eq_ofNat_of_zero_le hq.s0
      rw [sigC_imp hk (q := q) (by have := hq.s1; omega) e]; rfl
    · have hj : k - m.imports.length < m.funcs.length := by omega
      have hq := pa.fns _ (List.getElem_mem hj)
      obtain ⟨q, e⟩ := Int.eq_ofNat_of_zero_le hq.s0
      rw [sigC_fun (k := k - m.imports.length) (q := q) (by omega) hj (by have := hq.s1; omega) e]; rfl
  · rw [decide_eq_false h, sigC_no (.inr (by omega))]; rfl
def ExpP (m : ModuleD) : Prop := ∀ (j : Nat) (y : ExportD), m.exports[j]? = some y → ExpAt m j y

set_option maxRecDepth 10000 in
set_option maxHeartbeats 4000000 in
theorem iexports {F : List Nat} {cs : List Value} (m : ModuleD) (w : World) (fo : FormP m) [hm : Shows w F m cs] :
    Calls Tryz.prog 48 #[.agg cs.toArray] w fun e w' => e = .returned (.bool (pB (ExpP m))) ∧ Step w w' := by
  have kk := hm.known
  have pa := fo.pa
  have g0 := fo.g0
  obtain ⟨a1, k1, a2, k2, a3, k3, a4, k4, a5, k5, a6, k6, F1, F2, F3, F4, F5, F6, rfl, rfl, h1, h2, h3, h4, h5, h6, i3, i4⟩ := module_open hm.is
  clear hm
  have k5k : Known w F5 m.exports [.slice a5 m.exports.length k5] := ⟨h5⟩
  obtain ⟨_, _, cl5, FF5, hv, _, hvw5, hr5, hml5⟩ := list_open h5
  cases hv
  unfold maxLen at hml5
  have hgl : (m.globals.length : Int) ≤ 9223372036854775807 := by have := fo.z2; omega
  go_enter Tryz.func48, Tryz.ntmps48
  go_wp2_with fail
  refine wp_name ?_
  intro A1 sA1
  go_loopw [10] (fun i wr => ∃ k : Nat, k ≤ m.exports.length ∧ i = .int .i64 k ∧ Step A1 wr ∧ Hid (∀ j : Nat, j < k → ∀ y, m.exports[j]? = some y → ExpAt m j y)) (fun i _ => m.exports.length - (intOf i).toNat)
  case atStart => exact ⟨0, by omega, rfl, mkStep, fun j hj => by omega⟩
  case round =>
    obtain ⟨k, hk, rfl, st, hq2⟩ := hrel
    by_cases hlt : k < m.exports.length
    · skip
      obtain ⟨be, oe, Ge, cse, rfl, hGe, hIe, hce, hoe⟩ := hvw5.row hr5 rfl (by decide) k hlt
      have hI0e := hIe
      obtain ⟨rfl, rfl, i0e, i1e, i2e⟩ := export_open hI0e
      have kee : Known w _ m.exports[k] _ := ⟨hIe⟩
      have c0e := (hce 0 _ rfl).1
      replace c0e : w.cell? ⟨be, oe + k * 3, none⟩ = _ := c0e
      have c1e := (hce 1 _ rfl).1
      replace c1e : w.cell? ⟨be, oe + k * 3 + 1, none⟩ = _ := c1e
      have c2e := (hce 2 _ rfl).1
      replace c2e : w.cell? ⟨be, oe + k * 3 + 2, none⟩ = _ := c2e
      clear hce
      have fe := fo.exs _ (List.getElem_mem hlt)
      obtain ⟨y, hy⟩ : ∃ y, m.exports[k] = y := ⟨_, rfl⟩
      have hyk : m.exports[k]? = some y := by rw [List.getElem?_eq_getElem hlt, hy]
      rw [hy] at c0e c1e c2e fe
      clear hy hIe hI0e kee i0e i1e i2e
      have hno : ∀ {p : Prop}, (ExpAt m k y → p) → ¬ p → Hid (pB (ExpP m) = false) := fun h1 h2 => hid (pB_no (p := ExpP m) (fun h => h2 (h1 (h k y hyk))))
      go_wp2_with fail
      with_reducible refine Calls.mono (ifirst (l := m.exports) y.name _ (by go_simp)) ?_
      rintro e w2 ⟨n, hn, rfl, st2⟩
      by_cases hnk : n = (k : Int)
      rotate_left
      · have hd : ¬ ExpAt m k y := by
          rcases hn with ⟨j, rfl, ⟨x, hx, hxn⟩, hf⟩ | hf
          · intro h
            rcases Nat.lt_trichotomy j k with h1 | h1 | h1
            · exact h.2 j h1 x hx hxn
            · exact hnk (by rw [h1])
            · exact hf k h1 y hyk rfl
          · exact fun _ => hf k y hyk rfl
        have r := hid (pB_no (p := ExpP m) (fun h => hd (h k y hyk)))
        have nb : (n != (k : Int)) = true := by simpa using hnk
        replace hnk := hid hnk
        clear hn hno hd
        go_wp2
        go_ret
        exact ⟨by rw [r.out]; rfl, mkStep⟩
      · subst hnk
        have hfirst : Hid (∀ i : Nat, i < k → ∀ x, m.exports[i]? = some x → x.name ≠ y.name) := by
          rcases hn with ⟨j, e, _, hf⟩ | hf
          · obtain rfl : j = k := by omega
            exact hf
          · exact absurd rfl (hf k y hyk)
        clear hn
        have hss := sig_some pa fe.i0
        go_wp2_with fail
        with_reducible refine Calls.mono (isigOf m y.index _ pa) ?_
        rintro e w3 ⟨rfl, st3⟩
        rcases fe.kd with hkd | hkd | hkd
        · have he := expB_0 (m := m) hkd
          have n2 : (y.kind == 2) = false := by rw [hkd]; rfl
          have n3 : (y.kind == 3) = false := by rw [hkd]; rfl
          rw [← hss] at he
          replace hkd := hid hkd
          replace hss := hid hss
          cases hq : expB m y
          · have r := hid (pB_no (p := ExpP m) (fun h => by have := (h k y hyk).1; rw [hq] at this; cases this))
            rw [hq] at he
            have he2 := he.symm
            clear he
            
            go_wp2
            go_ret
            exact ⟨by rw [r.out]; rfl, mkStep⟩
          · rw [hq] at he
            have he2 := he.symm
            clear he
            have hq9 : Hid (∀ j : Nat, j < k + 1 → ∀ y, m.exports[j]? = some y → ExpAt m j y) := fun j hj x hx => by
              rcases Nat.lt_or_ge j k with h1 | h1
              · exact hq2.out j h1 x hx
              · obtain rfl : j = k := by omega
                rw [hyk] at hx
                obtain rfl := Option.some.inj hx
                exact ⟨hq, hfirst.out⟩
            rw [he2]
            go_wp2
            go_roundw
            case rel => exact ⟨k + 1, by omega, by go_num, mkStep, hq9⟩
            case measure => simp [intOf]; omega
        · have he := expB_2 (m := m) hkd
          have n2 : (y.kind == 2) = true := by rw [hkd]; rfl
          replace hkd := hid hkd
          replace hss := hid hss
          obtain ⟨sm, hsm⟩ : ∃ sm, (sigC m y.index).isSome = sm := ⟨_, rfl⟩
          rw [hsm]
          replace hsm := hid hsm
          by_cases hx : y.index = 0
          · have hxb : (y.index == 0) = true := beq_iff_eq.2 hx
            by_cases hp : 0 ≤ m.pages
            · have hpb : (m.pages != -1) = true := by simp; omega
              have hq : expB m y = true := by rw [he, decide_eq_true hx, decide_eq_true hp]; rfl
              clear he
              replace hx := hid hx
              replace hp := hid hp
              have hq9 : Hid (∀ j : Nat, j < k + 1 → ∀ y, m.exports[j]? = some y → ExpAt m j y) := fun j hj x hx => by
                rcases Nat.lt_or_ge j k with h1 | h1
                · exact hq2.out j h1 x hx
                · obtain rfl : j = k := by omega
                  rw [hyk] at hx
                  obtain rfl := Option.some.inj hx
                  exact ⟨hq, hfirst.out⟩
              go_wp2
              go_roundw
              case rel => exact ⟨k + 1, by omega, by go_num, mkStep, hq9⟩
              case measure => simp [intOf]; omega
            · have hpb : (m.pages != -1) = false := by simp; omega
              have hq : expB m y = false := by rw [he, decide_eq_true hx, decide_eq_false hp]; rfl
              clear he
              replace hx := hid hx
              replace hp := hid hp
              have r := hid (pB_no (p := ExpP m) (fun h => by have := (h k y hyk).1; rw [hq] at this; cases this))
              go_wp2
              go_ret
              exact ⟨by rw [r.out]; rfl, mkStep⟩
          · have hxb : (y.index == 0) = false := beq_eq_false_iff_ne.2 hx
            have hq : expB m y = false := by rw [he, decide_eq_false hx]; rfl
            clear he
            replace hx := hid hx
            have r := hid (pB_no (p := ExpP m) (fun h => by have := (h k y hyk).1; rw [hq] at this; cases this))
            go_wp2
            go_ret
            exact ⟨by rw [r.out]; rfl, mkStep⟩
        · have he := expB_3 (m := m) (e := y) (by rw [hkd]; decide)
          have n2 : (y.kind == 2) = false := by rw [hkd]; rfl
          have n3 : (y.kind == 3) = true := by rw [hkd]; rfl
          replace hkd := hid hkd
          replace hss := hid hss
          obtain ⟨sm, hsm⟩ : ∃ sm, (sigC m y.index).isSome = sm := ⟨_, rfl⟩
          rw [hsm]
          replace hsm := hid hsm
          by_cases hx : y.index < m.globals.length
          · have hq : expB m y = true := by rw [he, decide_eq_true hx]
            clear he
            have hq9 : Hid (∀ j : Nat, j < k + 1 → ∀ y, m.exports[j]? = some y → ExpAt m j y) := fun j hj x hx => by
              rcases Nat.lt_or_ge j k with h1 | h1
              · exact hq2.out j h1 x hx
              · obtain rfl : j = k := by omega
                rw [hyk] at hx
                obtain rfl := Option.some.inj hx
                exact ⟨hq, hfirst.out⟩
            go_wp2
            go_roundw
            case rel => exact ⟨k + 1, by omega, by go_num, mkStep, hq9⟩
            case measure => simp [intOf]; omega
          · have hq : expB m y = false := by rw [he, decide_eq_false hx]
            have hxb : decide (y.index < (m.globals.length : Int)) = false := decide_eq_false hx
            replace hx := hid hx
            clear he
            have r := hid (pB_no (p := ExpP m) (fun h => by have := (h k y hyk).1; rw [hq] at this; cases this))
            go_wp2
            go_ret
            exact ⟨by rw [r.out]; rfl, mkStep⟩
    · have hQ2 : Hid (ExpP m) := fun j y hy => hq2.out j (by have := (List.getElem?_eq_some_iff.1 hy).1; omega) y hy
      go_wp2
      go_ret
      exact ⟨by rw [pB_yes hQ2.out]; rfl, mkStep⟩

theorem pB_and {m : ModuleD} (fo : FormP m) (da : ¬ (0 < m.data.length ∧ m.pages < 0)) (hx : ExpP m) (hf : ∀ i : Nat, i < m.funcs.length → faultF m i = -1) : pB (ModP m) = true := pB_yes ⟨fo, da, hf, hx⟩

set_option maxRecDepth 10000 in
set_option maxHeartbeats 4000000 in
theorem imodok {F : List Nat} {cs : List Value} (m : ModuleD) (w : World) (hz : moduleCost m ≤ 1048576) [hm : Shows w F m cs] [hU : HasU8 w] :
    Calls Tryz.prog 15 #[.agg cs.toArray] w fun e w' => e = .returned (.bool (pB (ModP m))) ∧ Step w w' := by
  have kk := hm.known
  have ku := hU.known
  have hH0 := fun (pa : PartsP m) (g0 : -1 ≤ m.pages) (i0 : Nat) (h : i0 < m.funcs.length) (w' : World) (hh : Shows w' F m cs) => iheights m i0 w' pa g0 h (hm := hh)
  obtain ⟨a1, k1, a2, k2, a3, k3, a4, k4, a5, k5, a6, k6, F1, F2, F3, F4, F5, F6, rfl, rfl, h1, h2, h3, h4, h5, h6, i3, i4⟩ := module_open hm.is
  clear hm hU
  cases hF : pB (FormP m)
  · have r := hid (pB_no (p := ModP m) (fun h => by rw [pB_yes h.fo] at hF; cases hF))
    go_enter Tryz.func15, Tryz.ntmps15
    go_wp2_with fail
    with_reducible refine Calls.mono (iform m _ hz) ?_
    rintro e w1 ⟨rfl, st1⟩
    rw [hF]
    go_wp2
    go_ret
    exact ⟨by rw [r.out]; rfl, mkStep⟩
  have fo : FormP m := pB_iff.1 hF
  have pa := fo.pa
  have g0 := fo.g0
  have hdl : (m.data.length : Int) ≤ 1000 := by have := fo.z4; omega
  have hfl : (m.funcs.length : Int) ≤ 1000 := by have := pa.z1; omega
  cases hX : pB (ExpP m)
  · have r := hid (pB_no (p := ModP m) (fun h => by rw [pB_yes (p := ExpP m) h.ex] at hX; cases hX))
    go_enter Tryz.func15, Tryz.ntmps15
    go_wp2_with fail
    with_reducible refine Calls.mono (iform m _ hz) ?_
    rintro e w1 ⟨rfl, st1⟩
    rw [hF]
    go_wp2_with fail
    with_reducible refine Calls.mono (iexports m _ fo) ?_
    rintro e w2 ⟨rfl, st2⟩
    rw [hX]
    go_wp2
    go_ret
    exact ⟨by rw [r.out]; rfl, mkStep⟩
  have hex : ExpP m := pB_iff.1 hX
  by_cases hd : 0 < m.data.length ∧ m.pages < 0
  · have r := hid (pB_no (p := ModP m) (fun h => h.da hd))
    have hd1 : (0 : Int) < m.data.length := by omega
    have hd2 : (m.pages == -1) = true := by rw [beq_iff_eq]; omega
    clear hd
    go_enter Tryz.func15, Tryz.ntmps15
    go_wp2_with fail
    with_reducible refine Calls.mono (iform m _ hz) ?_
    rintro e w1 ⟨rfl, st1⟩
    rw [hF]
    go_wp2_with fail
    with_reducible refine Calls.mono (iexports m _ fo) ?_
    rintro e w2 ⟨rfl, st2⟩
    rw [hX]
    go_wp2
    go_ret
    exact ⟨by rw [r.out]; rfl, mkStep⟩
  have hd9 := hid hd
  have key : (0 : Int) < m.data.length ∧ (m.pages == -1) = false ∨ ¬ (0 : Int) < m.data.length := by
    by_cases h0 : 0 < m.data.length
    · exact .inl ⟨by omega, beq_eq_false_iff_ne.2 (fun h => hd ⟨h0, by omega⟩)⟩
    · exact .inr (by omega)
  rcases key with ⟨hd1, hd2⟩ | hd1
  all_goals
    clear hd
    go_enter Tryz.func15, Tryz.ntmps15
    go_wp2_with fail
    with_reducible refine Calls.mono (iform m _ hz) ?_
    rintro e w1 ⟨rfl, st1⟩
    rw [hF]
    go_wp2_with fail
    with_reducible refine Calls.mono (iexports m _ fo) ?_
    rintro e w2 ⟨rfl, st2⟩
    rw [hX]
    go_wp2_with fail
    refine wp_name ?_
    intro A1 sA1
    go_loopw [28] (fun i wr => ∃ k : Nat, k ≤ m.funcs.length ∧ i = .int .i64 k ∧ Step A1 wr ∧ Hid (∀ j : Nat, j < k → faultF m j = -1)) (fun i _ => m.funcs.length - (intOf i).toNat)
    case atStart => exact ⟨0, by omega, rfl, mkStep, fun j hj => by omega⟩
    case round =>
      obtain ⟨k, hk, rfl, st, hq1⟩ := hrel
      by_cases hlt : k < m.funcs.length
      · have hH := hH0 pa g0 k hlt
        go_wp2_with fail
        with_reducible refine Calls.mono (hH _ inferInstance) ?_
        rintro e w3 ⟨v, rfl, st3, hv3⟩
        clear hv3
        by_cases hq : faultF m k = -1
        · have hn : ((-1 : Int) != -1) = false := rfl
          rw [hq]
          go_wp2
          go_roundw
          case rel => exact ⟨k + 1, by omega, by go_num, mkStep, fun j hj => by
            rcases Nat.lt_or_ge j k with h1 | h1
            · exact hq1.out j h1
            · obtain rfl : j = k := by omega
              exact hq⟩
          case measure => simp [intOf]; omega
        · have hn : (faultF m k != -1) = true := by simpa using hq
          have r := hid (pB_no (p := ModP m) (fun h => hq (h.fs k hlt)))
          replace hq := hid hq
          go_wp2
          go_ret
          exact ⟨by rw [r.out]; rfl, mkStep⟩
      · have hQ1 : Hid (∀ j : Nat, j < m.funcs.length → faultF m j = -1) := fun j hj => hq1.out j (by omega)
        go_wp2
        go_ret
        exact ⟨by rw [pB_and fo hd9.out hex hQ1.out]; rfl, mkStep⟩
end Go.Proofs.YtfddmelikahfbaaGreatDoor
namespace Go.Proofs.YtfddmelikahfbaaGreatDoor
attribute [local go_sem ↓] Go.wp_at_zero Go.wp_at_succ
open Go.RowKit Go.ChangeShapes Go.WideShapes
open Rep (Is sz)

set_option maxRecDepth 100000 in
theorem FnExactModuleOk_u8 {W : World} (h : laidMetH Tryz.prog Rows.fnExactModuleOkRow.laid W) : U8 W := by
  rw [MakeChecks.laidMetH_plain _ _ _ (by kernel_rfl)] at h
  have e1 : Rows.laid_unicode_utf8_first = Lib.firstData := by kernel_rfl
  have e2 : Rows.laid_unicode_utf8_acceptRanges = Lib.acceptData := by kernel_rfl
  exact u8_of (e1 ▸ Lib.laidMet.reads h (d := Rows.laid_unicode_utf8_first) (.tail _ (.head _))) (e2 ▸ Lib.laidMet.reads h (d := Rows.laid_unicode_utf8_acceptRanges) (.head _))
set_option maxRecDepth 10000 in
set_option maxHeartbeats 4000000 in
theorem FnExactModuleOk_walk {H : Type} {enc : TypeId × Value → H} (W : World) (base : Nat) {d0 : DataW H} {p0 : List MemPlace} (v0 : Value)
    (k0 : Value.okWide Tryz.prog W .any base 29 v0) (h0 : DataW.Trod enc Tryz.prog W 0 (fun _ => true) true 29 v0 d0 p0) (n0 : W.noneFrozen p0)
    (hL : laidMetH Tryz.prog Rows.fnExactModuleOkRow.laid W) :
    Calls Tryz.prog 5 #[v0] W fun e W' => e = .returned (.bool true) ∧ Fr [] W W' := by
  obtain ⟨m, F, cs, rfl, hI⟩ := opens_module.argR Tryz.underlying29 k0 h0 n0
  have kr : Known W F m cs := ⟨hI⟩
  have kU : KnownU8 W := ⟨FnExactModuleOk_u8 hL⟩
  clear k0 h0 n0 hL
  obtain ⟨a1, k1, a2, k2, a3, k3, a4, k4, a5, k5, a6, k6, F1, F2, F3, F4, F5, F6, rfl, rfl, h1, h2, h3, h4, h5, h6, i3, i4⟩ := module_open hI
  clear hI
  go_enter Tryz.func5, Tryz.ntmps5
  by_cases s1 : (1048576 : Int) - (moduleCost m : Nat) < 0
  · have l1 := left0_neg s1
    go_wp2_with (first | (go_at_call 7; (with_reducible refine Calls.mono (szModule _ _ _ (by omega) (by omega)) ?_); rintro e wk ⟨rfl, st⟩))
    go_ret
    exact ⟨rfl, mkFr⟩
  have l1 := left0_pos s1
  have z : moduleCost m ≤ 1048576 := by omega
  go_wp2_with (first | (go_at_call 7; (with_reducible refine Calls.mono (szModule _ _ _ (by omega) (by omega)) ?_); rintro e wk ⟨rfl, st⟩) | (go_at_call 9; (with_reducible refine Calls.mono (toModule _ _ (by assumption)) ?_); rintro e wk ⟨b1, m1, b2, m2, b3, m3, b4, m4, b5, m5, b6, m6, G, rfl, kn, nw, st⟩) | (go_at_call 14; (with_reducible refine Calls.mono (smodok _ _ (by assumption)) ?_); rintro e wk ⟨rfl, st⟩) | (go_at_call 15; (with_reducible refine Calls.mono (imodok _ _ (by assumption)) ?_); rintro e wk ⟨rfl, st⟩))
  refine rg_begin0 (n := 5) (by kernel_rfl) rfl fun rg0 => ?_
  refine rg_read (i := 0) (a1 := _) rfl (by kernel_rfl) rfl (by simp) (by intro wq hwq; go_wp2; exact ⟨rfl, rfl⟩) mkStep ?_
  refine rg_read (i := 1) (a1 := _) rfl (by kernel_rfl) rfl (by simp) (by intro wq hwq; go_wp2; exact ⟨rfl, rfl⟩) mkStep ?_
  refine rg_eff (i := 2) rfl (by kernel_rfl) ?_
  simp only [List.getElem_toArray, List.getElem_cons_succ, List.getElem_cons_zero]
  go_wp2_with (first | (go_at_call 9; (with_reducible refine Calls.mono (toModule _ _ (by assumption)) ?_); rintro e wk ⟨b1, m1, b2, m2, b3, m3, b4, m4, b5, m5, b6, m6, G, rfl, kn, nw, st⟩) | (go_at_call 11; (with_reducible refine Calls.mono (eqModule ..) ?_); rintro e wk ⟨rfl, st⟩))
  refine ⟨mkStep, ?_⟩
  refine rg_eff (i := 3) rfl (by kernel_rfl) ?_
  simp only [List.getElem_toArray, List.getElem_cons_succ, List.getElem_cons_zero]
  go_wp2_with (first | (go_at_call 9; (with_reducible refine Calls.mono (toModule _ _ (by assumption)) ?_); rintro e wk ⟨b1, m1, b2, m2, b3, m3, b4, m4, b5, m5, b6, m6, G, rfl, kn, nw, st⟩) | (go_at_call 11; (with_reducible refine Calls.mono (eqModule ..) ?_); rintro e wk ⟨rfl, st⟩))
  refine ⟨mkStep, ?_⟩
  refine rg_read (i := 4) (a1 := _) rfl (by kernel_rfl) rfl (by simp) (by intro wq hwq; go_wp2; exact ⟨rfl, rfl⟩) mkStep ?_
  refine rg_done (by kernel_rfl) ?_
  go_wp2_with (first | (go_at_call 11; (with_reducible refine Calls.mono (eqModule ..) ?_); rintro e wk ⟨rfl, st⟩))
  go_ret
  exact ⟨rfl, mkFr⟩
end Go.Proofs.YtfddmelikahfbaaGreatDoor
