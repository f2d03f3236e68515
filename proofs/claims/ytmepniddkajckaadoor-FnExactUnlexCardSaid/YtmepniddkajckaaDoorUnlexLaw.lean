/- The walk of FnExactUnlex. -/
import Derived.Test.YtmepniddkajckaaDoorUnlex
import Derived.Test.YtmepniddkajckaaDoorArgS
namespace Go.Proofs.YtmepniddkajckaaDoor
attribute [local go_sem ↓] Go.wp_at_zero Go.wp_at_succ
open Go.RowKit Go.ChangeShapes Go.WideShapes
open Rep (Is sz)

set_option maxRecDepth 100000 in
theorem FnExactUnlex_pow {W : World} (h : laidMetH Tryd.prog Rows.fnExactUnlexRow.laid W) : Pow W :=
  tabIs_named (rest := [("unicode.White_Space", Rows.laid_unicode_White_Space), ("strings.asciiSpace", Rows.laid_strings_asciiSpace)]) (t := 170) (by kernel_rfl) Tryd.underlying170 Tryd.underlying142 (by kernel_rfl) (by kernel_rfl) (laidMet_tail (laidMet_tail h))
set_option maxRecDepth 100000 in
theorem FnExactUnlex_asc {W : World} (h : laidMetH Tryd.prog Rows.fnExactUnlexRow.laid W) : Asc W :=
  tabIs_named (rest := []) (t := 119) (by kernel_rfl) Tryd.underlying119 Tryd.underlying5 (by kernel_rfl) (by kernel_rfl) (laidMet_tail (laidMet_tail (laidMet_tail (laidMet_tail h))))
set_option maxRecDepth 10000 in
theorem FnExactUnlex_walk {H : Type} {enc : TypeId × Value → H} (W : World) (base : Nat) {d0 : DataW H} {p0 : List MemPlace} (v0 : Value)
    (k0 : Value.okWide Tryd.prog W .any base 67 v0) (h0 : DataW.Trod enc Tryd.prog W 0 (fun _ => true) true 67 v0 d0 p0) (n0 : W.noneFrozen p0)
    (hL : laidMetH Tryd.prog Rows.fnExactUnlexRow.laid W) :
    Calls Tryd.prog 8 #[v0] W fun e W' => e = .returned (.bool true) ∧ Fr [] W W' := by
  obtain ⟨l, F, kr⟩ := opens_toks.args Tryd.underlying67 k0 h0 n0
  have kp : KnownPow W := ⟨FnExactUnlex_pow hL⟩
  have ka : KnownAsc W := ⟨FnExactUnlex_asc hL⟩
  clear k0 h0 n0 hL
  go_enter Tryd.func8, Tryd.ntmps8
  by_cases s1 : (1048576 : Int) - (toksCost l : Nat) < 0
  · have l1 := left0_neg s1
    go_wp2_with (first | (go_at_call 39; (with_reducible refine Calls.mono (szTokS _ _ _ (by omega) (by omega)) ?_); rintro e wk ⟨rfl, st⟩))
    go_ret
    exact ⟨rfl, mkFr⟩
  have l1 := left0_pos s1
  have z : toksCost l ≤ 1048576 := by omega
  go_wp2_with (first | (go_at_call 39; (with_reducible refine Calls.mono (szTokS _ _ _ (by omega) (by omega)) ?_); rintro e wk ⟨rfl, st⟩) | (go_at_call 41; (with_reducible refine Calls.mono (toTokS _ _ (by assumption)) ?_); rintro e wk ⟨b, m, G, rfl, kn, nw, st⟩) | (go_at_call 40; (with_reducible refine Calls.mono (sunlex _ _ (by assumption)) ?_); rintro e wk ⟨rfl, st⟩) | (go_at_call 42; (with_reducible refine Calls.mono (iunlex _ _ (by assumption)) ?_); rintro e wk ⟨rfl, st⟩) | (go_at_call 43; (with_reducible refine Calls.mono (eqTokS ..) ?_); rintro e wk ⟨rfl, st⟩))
  go_ret
  exact ⟨rfl, mkFr⟩
end Go.Proofs.YtmepniddkajckaaDoor
