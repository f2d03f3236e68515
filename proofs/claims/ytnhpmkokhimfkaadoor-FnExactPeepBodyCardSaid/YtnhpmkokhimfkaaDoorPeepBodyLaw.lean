/- The walk of FnExactPeepBody. -/
import Derived.Test.YtnhpmkokhimfkaaDoorPeepQ
import Derived.Test.YtnhpmkokhimfkaaDoorArgS
import Derived.Test.YtnhpmkokhimfkaaDoorLawX
namespace Go.Proofs.YtnhpmkokhimfkaaDoor
attribute [local go_sem ↓] Go.wp_at_zero Go.wp_at_succ
open Go.RowKit Go.ChangeShapes Go.WideShapes
open Rep (Is sz)

set_option maxRecDepth 100000 in
theorem FnExactPeepBody_tz {W : World} (h : laidMetH Tryd.prog Rows.fnExactPeepBodyRow.laid W) : Tz W :=
  tabIs_named (rest := []) (t := 171) (by kernel_rfl) Tryd.underlying171 Tryd.underlying5 (by kernel_rfl) (by kernel_rfl) h
set_option maxRecDepth 10000 in
set_option maxHeartbeats 4000000 in
theorem FnExactPeepBody_walk {H : Type} {enc : TypeId × Value → H} (W : World) (base : Nat) {d0 : DataW H} {p0 : List MemPlace} (v0 : Value)
    (k0 : Value.okWide Tryd.prog W .any base 43 v0) (h0 : DataW.Trod enc Tryd.prog W 0 (fun _ => true) true 43 v0 d0 p0) (n0 : W.noneFrozen p0)
    (hL : laidMetH Tryd.prog Rows.fnExactPeepBodyRow.laid W) :
    Calls Tryd.prog 5 #[v0] W fun e W' => e = .returned (.bool true) ∧ Fr [] W W' := by
  obtain ⟨l, F, kr⟩ := opens_inss.args Tryd.underlying43 k0 h0 n0
  have kT : KnownTz W := ⟨FnExactPeepBody_tz hL⟩
  clear k0 h0 n0 hL
  obtain ⟨ar, cr, hv⟩ := slice_form kr.is
  cases hv
  go_enter Tryd.func5, Tryd.ntmps5
  by_cases s1 : (1048576 : Int) - (inssCost l : Nat) < 0
  · have l1 := left0_neg s1
    go_wp2_with (first | (go_at_call 11; (with_reducible refine Calls.mono (szInsS _ _ _ (by omega) (by omega)) ?_); rintro e wk ⟨rfl, st⟩))
    go_ret
    exact ⟨rfl, mkFr⟩
  have l1 := left0_pos s1
  have z : inssCost l ≤ 1048576 := by omega
  have hl : l.length ≤ 1048576 := by unfold inssCost at z; omega
  go_wp2_with (first | (go_at_call 11; (with_reducible refine Calls.mono (szInsS _ _ _ (by omega) (by omega)) ?_); rintro e wk ⟨rfl, st⟩))
  with_reducible refine Calls.mono (toInsS l _ z) ?_
  rintro e w1 ⟨a1, c1, X1, rfl, kx1, nx1, st1⟩
  go_wp2_with fail
  with_reducible refine Calls.mono (spbody l _ hl) ?_
  rintro e w2 ⟨aD, cD, D, rfl, kD, nD, st2⟩
  go_wp2_with fail
  with_reducible refine Calls.mono (toInsS l _ z) ?_
  rintro e w3 ⟨a3, c3, X, rfl, kx, nx, st3⟩
  go_wp2_with fail
  with_reducible refine Calls.mono (ipbody l _ hl) ?_
  rintro e w4 ⟨aG, cG, GG, rfl, kG, nG, st4⟩
  obtain ⟨r, hrq⟩ : ∃ r, peepBody l = r := ⟨_, rfl⟩
  have hr : r.length ≤ 1048576 := by rw [← hrq]; exact Nat.le_trans (peepBody_len l) hl
  rw [hrq] at kD kG
  go_wp2_with (first | (go_at_call 15; (with_reducible refine Calls.mono (eqInsS ..) ?_); rintro e wk ⟨rfl, st⟩) | (go_at_call 13; (with_reducible refine Calls.mono (toInsS _ _ (by assumption)) ?_); rintro e wk ⟨b, m, G, rfl, kn, nw, st⟩))
  have aDX : Apart D X := apart_lo kD nx
  have aGX : Apart GG X := apart_hi nG kx
  have sX : SubX W X [] := sub_of nx
  with_reducible refine Calls.mono (markInsS 1 _ (by omega) (by omega) hl) ?_
  rintro e w5 ⟨rfl, st5, kX5⟩
  clear kx
  have k1 : ¬ ((1 : Int) + 3 * l.length < 0) := by omega
  go_wp2_with (first | (go_at_call 15; (with_reducible refine Calls.mono (eqInsS ..) ?_); rintro e wk ⟨rfl, st⟩))
  have sG : SubX W GG [] := sub_of nG
  have aDG : Apart D GG := apart_lo kD nG
  with_reducible refine Calls.mono (markInsS 1 _ (by omega) (by omega) hr) ?_
  rintro e w6 ⟨rfl, st6, kM⟩
  clear kG
  have k2 : ¬ ((1 : Int) + 3 * r.length < 0) := by omega
  go_wp2_with fail
  with_reducible refine Calls.mono (heldInsS 1 _ (by omega) (by omega) hr) ?_
  rintro e w7 ⟨rfl, st7⟩
  go_wp2_with fail
  with_reducible refine Calls.mono (toInsS l _ z) ?_
  rintro e w8 ⟨a8, c8, X8, rfl, kx8, nx8, st8⟩
  go_wp2_with fail
  with_reducible refine Calls.mono (ipbody l _ hl) ?_
  rintro e w9 ⟨aH, cH, H9, rfl, kH, nH, st9⟩
  rw [hrq] at kH
  go_wp2_with (first | (go_at_call 15; (with_reducible refine Calls.mono (eqInsS ..) ?_); rintro e wk ⟨rfl, st⟩))
  with_reducible refine Calls.mono (heldInsS 1 _ (by omega) (by omega) hr) ?_
  rintro e w10 ⟨rfl, st10⟩
  go_wp2
  go_ret
  exact ⟨rfl, mkFr⟩
end Go.Proofs.YtnhpmkokhimfkaaDoor
