/- The walk of FnExactCaseText. -/
import Derived.Test.YteeabcdibpnciaaDoorCaseText
import Derived.Test.YteeabcdibpnciaaDoorArgS
namespace Go.Proofs.YteeabcdibpnciaaDoor
attribute [local go_sem ↓] Go.wp_at_zero Go.wp_at_succ
open Go.RowKit Go.ChangeShapes Go.WideShapes
open Rep (Is sz)

set_option maxRecDepth 100000 in
theorem FnExactCaseText_pow {W : World} (h : laidMetH Tryd.prog Rows.fnExactCaseTextRow.laid W) : Pow W :=
  tabIs_named (rest := [("unicode.White_Space", Rows.laid_unicode_White_Space), ("strings.asciiSpace", Rows.laid_strings_asciiSpace)]) (t := 219) (by kernel_rfl) Tryd.underlying219 Tryd.underlying210 (by kernel_rfl) (by kernel_rfl) (laidMet_tail (laidMet_tail h))
set_option maxRecDepth 100000 in
theorem FnExactCaseText_asc {W : World} (h : laidMetH Tryd.prog Rows.fnExactCaseTextRow.laid W) : Asc W :=
  tabIs_named (rest := []) (t := 194) (by kernel_rfl) Tryd.underlying194 Tryd.underlying5 (by kernel_rfl) (by kernel_rfl) (laidMet_tail (laidMet_tail (laidMet_tail (laidMet_tail h))))
set_option maxRecDepth 10000 in
theorem FnExactCaseText_walk {H : Type} {enc : TypeId × Value → H} (W : World) (base : Nat) {d0 : DataW H} {p0 : List MemPlace} (v0 : Value)
    (k0 : Value.okWide Tryd.prog W .any base 25 v0) (h0 : DataW.Trod enc Tryd.prog W 0 (fun _ => true) true 25 v0 d0 p0) (n0 : W.noneFrozen p0)
    (hL : laidMetH Tryd.prog Rows.fnExactCaseTextRow.laid W) :
    Calls Tryd.prog 3 #[v0] W fun e W' => e = .returned (.bool true) ∧ Fr [] W W' := by
  obtain ⟨r, F, cs, rfl, hr⟩ := opens_case.argR Tryd.underlying25 k0 h0 n0
  have ka : KnownAsc W := ⟨FnExactCaseText_asc hL⟩
  have kp : KnownPow W := ⟨FnExactCaseText_pow hL⟩
  clear k0 h0 n0 hL
  have hr0 := hr
  obtain ⟨a1, k1, a2, k2, a3, k3, F1, F2, F3, rfl, rfl, _, _, _, _⟩ := case_open hr0
  have kr : Known W _ r _ := ⟨hr⟩
  clear hr hr0
  go_enter Tryd.func3, Tryd.ntmps3
  by_cases s1 : (1048576 : Int) - (caseCost r : Nat) < 0
  · have l1 := left0_neg s1
    go_wp2_with (first | (go_at_call 7; (with_reducible refine Calls.mono (szCase _ _ _ (by omega) (by omega)) ?_); rintro e wk ⟨rfl, st⟩))
    go_ret
    exact ⟨rfl, mkFr⟩
  have l1 := left0_pos s1
  have z : caseCost r ≤ 1048576 := by omega
  have z2 : r.name.size ≤ 1048576 := by unfold caseCost at z; omega
  go_wp2_with (first | (go_at_call 7; (with_reducible refine Calls.mono (szCase _ _ _ (by omega) (by omega)) ?_); rintro e wk ⟨rfl, st⟩) | (go_at_call 9; (with_reducible refine Calls.mono (toCase _ _ (by assumption)) ?_); rintro e wk ⟨b1, m1, b2, m2, b3, m3, G, rfl, kn, nw, st⟩) | (go_at_call 8; (with_reducible refine Calls.mono (scasetext _ _ (by omega)) ?_); rintro e wk ⟨rfl, st⟩) | (go_at_call 10; (with_reducible refine Calls.mono (icasetext _ _ (by omega)) ?_); rintro e wk ⟨rfl, st⟩))
  refine rg_begin0 (n := 5) (by kernel_rfl) rfl fun rg0 => ?_
  refine rg_read (i := 0) (a1 := _) rfl (by kernel_rfl) rfl (by simp) (by intro wq hwq; go_wp2; exact ⟨rfl, rfl⟩) mkStep ?_
  refine rg_read (i := 1) (a1 := _) rfl (by kernel_rfl) rfl (by simp) (by intro wq hwq; go_wp2; exact ⟨rfl, rfl⟩) mkStep ?_
  refine rg_eff (i := 2) rfl (by kernel_rfl) ?_
  simp only [List.getElem_toArray, List.getElem_cons_succ, List.getElem_cons_zero]
  go_wp2_with (first | (go_at_call 9; (with_reducible refine Calls.mono (toCase _ _ (by assumption)) ?_); rintro e wk ⟨b1, m1, b2, m2, b3, m3, G, rfl, kn, nw, st⟩) | (go_at_call 11; (with_reducible refine Calls.mono (eqCase ..) ?_); rintro e wk ⟨rfl, st⟩))
  refine ⟨mkStep, ?_⟩
  refine rg_eff (i := 3) rfl (by kernel_rfl) ?_
  simp only [List.getElem_toArray, List.getElem_cons_succ, List.getElem_cons_zero]
  go_wp2_with (first | (go_at_call 9; (with_reducible refine Calls.mono (toCase _ _ (by assumption)) ?_); rintro e wk ⟨b1, m1, b2, m2, b3, m3, G, rfl, kn, nw, st⟩) | (go_at_call 11; (with_reducible refine Calls.mono (eqCase ..) ?_); rintro e wk ⟨rfl, st⟩))
  refine ⟨mkStep, ?_⟩
  refine rg_read (i := 4) (a1 := _) rfl (by kernel_rfl) rfl (by simp) (by intro wq hwq; go_wp2; exact ⟨rfl, rfl⟩) mkStep ?_
  refine rg_done (by kernel_rfl) ?_
  go_wp2
  go_ret
  exact ⟨rfl, mkFr⟩
end Go.Proofs.YteeabcdibpnciaaDoor
