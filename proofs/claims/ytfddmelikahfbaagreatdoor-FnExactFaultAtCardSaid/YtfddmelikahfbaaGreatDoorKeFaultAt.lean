/- The walk of FnExactFaultAt. -/
import Derived.Test.YtfddmelikahfbaaGreatDoorKd
import Derived.MakeChecks
namespace Go.Proofs.YtfddmelikahfbaaGreatDoor
attribute [local go_sem ↓] Go.wp_at_zero Go.wp_at_succ
open Go.RowKit Go.ChangeShapes Go.WideShapes
open Rep (Is sz)

set_option maxRecDepth 100000 in
theorem FnExactFaultAt_u8 {W : World} (h : laidMetH Tryz.prog Rows.fnExactFaultAtRow.laid W) : U8 W := by
  rw [MakeChecks.laidMetH_plain _ _ _ (by kernel_rfl)] at h
  have e1 : Rows.laid_unicode_utf8_first = Lib.firstData := by kernel_rfl
  have e2 : Rows.laid_unicode_utf8_acceptRanges = Lib.acceptData := by kernel_rfl
  exact u8_of (e1 ▸ Lib.laidMet.reads h (d := Rows.laid_unicode_utf8_first) (.tail _ (.head _))) (e2 ▸ Lib.laidMet.reads h (d := Rows.laid_unicode_utf8_acceptRanges) (.head _))
set_option maxRecDepth 10000 in
set_option maxHeartbeats 4000000 in
theorem FnExactFaultAt_walk {H : Type} {enc : TypeId × Value → H} (W : World) (base : Nat) {d0 : DataW H} {p0 : List MemPlace} {d1 : DataW H} {p1 : List MemPlace} (v0 : Value)
    (k0 : Value.okWide Tryz.prog W .any base 29 v0) (h0 : DataW.Trod enc Tryz.prog W 0 (fun _ => true) true 29 v0 d0 p0) (n0 : W.noneFrozen p0)
    (v1 : Value) (k1 : Value.okWide Tryz.prog W .any base 3 v1) (h1 : DataW.Trod enc Tryz.prog W 0 (fun _ => true) true 3 v1 d1 p1)
    (hL : laidMetH Tryz.prog Rows.fnExactFaultAtRow.laid W) :
    Calls Tryz.prog 3 #[v0, v1] W fun e W' => e = .returned (.bool true) ∧ Fr [] W W' := by
  obtain ⟨m, F, cs, rfl, hI⟩ := opens_module.argR Tryz.underlying29 k0 h0 n0
  obtain ⟨op, rfl, rfl, rfl, hop⟩ := open_int Tryz.underlying3 k1 h1
  have kr : Known W F m cs := ⟨hI⟩
  have kU : KnownU8 W := ⟨FnExactFaultAt_u8 hL⟩
  clear k0 h0 n0 k1 h1 hL
  obtain ⟨a1, k1, a2, k2, a3, k3, a4, k4, a5, k5, a6, k6, F1, F2, F3, F4, F5, F6, rfl, rfl, h1, h2, h3, h4, h5, h6, i3, i4⟩ := module_open hI
  clear hI
  go_enter Tryz.func3, Tryz.ntmps3
  by_cases s1 : (1048576 : Int) - (moduleCost m : Nat) < 0
  · have l1 := left0_neg s1
    go_wp2_with (first | (go_at_call 7; (with_reducible refine Calls.mono (szModule _ _ _ (by omega) (by omega)) ?_); rintro e wk ⟨rfl, st⟩))
    go_ret
    exact ⟨rfl, mkFr⟩
  have l1 := left0_pos s1
  have z : moduleCost m ≤ 1048576 := by omega
  go_wp2_with (first | (go_at_call 7; (with_reducible refine Calls.mono (szModule _ _ _ (by omega) (by omega)) ?_); rintro e wk ⟨rfl, st⟩) | (go_at_call 9; (with_reducible refine Calls.mono (toModule _ _ (by assumption)) ?_); rintro e wk ⟨b1, m1, b2, m2, b3, m3, b4, m4, b5, m5, b6, m6, G, rfl, kn, nw, st⟩) | (go_at_call 8; (with_reducible refine Calls.mono (sfault _ _ _ (by assumption)) ?_); rintro e wk ⟨rfl, st⟩) | (go_at_call 10; (with_reducible refine Calls.mono (ifault _ _ _ (by assumption)) ?_); rintro e wk ⟨rfl, st⟩))
  refine rg_begin0 (n := 5) (by kernel_rfl) rfl fun rg0 => ?_
  refine rg_read (i := 0) (a1 := _) rfl (by kernel_rfl) rfl (by simp) (by intro wq hwq; go_wp2; exact ⟨rfl, rfl⟩) mkStep ?_
  refine rg_read (i := 1) (a1 := _) rfl (by kernel_rfl) rfl (by simp) (by intro wq hwq; go_wp2; exact ⟨rfl, rfl⟩) mkStep ?_
  refine rg_eff (i := 2) rfl (by kernel_rfl) ?_
  simp only [List.getElem_toArray, List.getElem_cons_succ, List.getElem_cons_zero]
  go_wp2_with (first | (go_at_call 9; (with_reducible refine Calls.mono (toModule _ _ (by assumption)) ?_); rintro e wk ⟨b1, m1, b2, m2, b3, m3, b4, m4, b5, m5, b6, m6, G, rfl, kn, nw, st⟩) | (go_at_call 11; (with_reducible refine Calls.mono (eqModule ..) ?_); rintro e wk ⟨rfl, st⟩))
  refine ⟨mkStep, ?_⟩
  refine rg_eff (i := 3) rfl (by kernel_rfl) ?_
  simp only [List.getElem_toArray, List.getElem_cons_succ, List.getElem_cons_zero]
  go_wp2_with (first | (go_at_call 9; (with_reducible refine Calls.mono (toModule _ _ (by assumption)) ?_); rintro e wk ⟨b1, m1, b2, m2, b3, m3, b4, m4, b5, m5, b6, m6, G, rfl, kn, nw, st⟩) | (go_at_call 11; (with_reducible refine Calls.mono (eqModule ..) ?_); rintro e wk ⟨rfl, st⟩))
  refine ⟨mkStep, ?_⟩
  refine rg_read (i := 4) (a1 := _) rfl (by kernel_rfl) rfl (by simp) (by intro wq hwq; go_wp2; exact ⟨rfl, rfl⟩) mkStep ?_
  refine rg_done (by kernel_rfl) ?_
  go_wp2_with (first | (go_at_call 11; (with_reducible refine Calls.mono (eqModule ..) ?_); rintro e wk ⟨rfl, st⟩))
  go_ret
  exact ⟨rfl, mkFr⟩
end Go.Proofs.YtfddmelikahfbaaGreatDoor
