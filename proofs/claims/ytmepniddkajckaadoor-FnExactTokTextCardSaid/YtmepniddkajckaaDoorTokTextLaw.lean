/- The walk of FnExactTokText. -/
import Derived.Test.YtmepniddkajckaaDoorTokText
import Derived.Test.YtmepniddkajckaaDoorResOpen
namespace Go.Proofs.YtmepniddkajckaaDoor
attribute [local go_sem ↓] Go.wp_at_zero Go.wp_at_succ
open Go.RowKit Go.ChangeShapes Go.WideShapes
open Rep (Is sz)

set_option maxRecDepth 100000 in
theorem FnExactTokText_pow {W : World} (h : laidMetH Tryd.prog Rows.fnExactTokTextRow.laid W) : Pow W :=
  tabIs_named (rest := [("unicode.White_Space", Rows.laid_unicode_White_Space), ("strings.asciiSpace", Rows.laid_strings_asciiSpace)]) (t := 170) (by kernel_rfl) Tryd.underlying170 Tryd.underlying142 (by kernel_rfl) (by kernel_rfl) (laidMet_tail (laidMet_tail h))
set_option maxRecDepth 100000 in
theorem FnExactTokText_asc {W : World} (h : laidMetH Tryd.prog Rows.fnExactTokTextRow.laid W) : Asc W :=
  tabIs_named (rest := []) (t := 119) (by kernel_rfl) Tryd.underlying119 Tryd.underlying5 (by kernel_rfl) (by kernel_rfl) (laidMet_tail (laidMet_tail (laidMet_tail (laidMet_tail h))))
set_option maxRecDepth 10000 in
theorem FnExactTokText_walk {H : Type} {enc : TypeId × Value → H} (W : World) (base : Nat) {d0 : DataW H} {p0 : List MemPlace} (v0 : Value)
    (k0 : Value.okWide Tryd.prog W .any base 53 v0) (h0 : DataW.Trod enc Tryd.prog W 0 (fun _ => true) true 53 v0 d0 p0) (n0 : W.noneFrozen p0)
    (hL : laidMetH Tryd.prog Rows.fnExactTokTextRow.laid W) :
    Calls Tryd.prog 6 #[v0] W fun e W' => e = .returned (.bool true) ∧ Fr [] W W' := by
  obtain ⟨r, F, cs, rfl, hr⟩ := opens_tok.arg Tryd.underlying53 k0 h0 n0
  have kp : KnownPow W := ⟨FnExactTokText_pow hL⟩
  have ka : KnownAsc W := ⟨FnExactTokText_asc hL⟩
  clear k0 h0 n0 hL
  have hr0 := hr
  obtain ⟨rfl, rfl, i0, i1, i2, i3⟩ := tok_open hr0
  have kr : Known W [] r _ := ⟨hr⟩
  clear hr hr0
  go_enter Tryd.func6, Tryd.ntmps6
  by_cases s1 : (1048576 : Int) - (tokCost r : Nat) < 0
  · have l1 := left0_neg s1
    go_wp2_with (first | (go_at_call 27; (with_reducible refine Calls.mono (szTok _ _ _ (by omega) (by omega)) ?_); rintro e wk ⟨rfl, st⟩))
    go_ret
    exact ⟨rfl, mkFr⟩
  have l1 := left0_pos s1
  have z : tokCost r ≤ 1048576 := by omega
  have z2 : r.s.size ≤ 1048576 := z
  go_wp2_with (first | (go_at_call 27; (with_reducible refine Calls.mono (szTok _ _ _ (by omega) (by omega)) ?_); rintro e wk ⟨rfl, st⟩) | (go_at_call 29; (with_reducible refine Calls.mono (toTok _ _ (by assumption)) ?_); rintro e wk ⟨G, rfl, kn, nw, st⟩) | (go_at_call 28; (with_reducible refine Calls.mono (stoktext _ _ (by assumption)) ?_); rintro e wk ⟨rfl, st⟩) | (go_at_call 30; (with_reducible refine Calls.mono (itoktext _ _ (by assumption)) ?_); rintro e wk ⟨rfl, st⟩))
  go_ret
  exact ⟨rfl, mkFr⟩
end Go.Proofs.YtmepniddkajckaaDoor
