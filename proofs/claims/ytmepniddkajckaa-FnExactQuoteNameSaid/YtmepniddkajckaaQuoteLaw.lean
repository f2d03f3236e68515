/- The walk of FnExactQuoteName. -/
import Derived.Test.YtmepniddkajckaaQuote
import Derived.ProofKit
namespace Go.Proofs.Ytmepniddkajckaa
open Go.RowKit Go.ChangeShapes Go.WideShapes
open Go.ChangeMaps (open_string)

theorem FnExactQuoteName_walk {H : Type} {enc : TypeId × Value → H} (W : World) (base : Nat) {d0 : DataW H} {p0 : List MemPlace} (v0 : Value)
    (k0 : Value.okWide Try.prog W .any base 9 v0) (h0 : DataW.Trod enc Try.prog W 0 (fun _ => true) true 9 v0 d0 p0) :
    Calls Try.prog 3 #[v0] W fun e W' => e = .returned (.bool true) ∧ Fr [] W W' := by
  obtain ⟨s, rfl, rfl, rfl, _⟩ := open_string Try.underlying9 k0 h0
  by_cases hs : s.size ≤ 1048576
  · go_enter Try.func3, Try.ntmps3
    go_wp2_with fail
    refine (squote_any s _ hs).mono ?_
    rintro e w1 ⟨rfl, hf1⟩
    go_wp2_with fail
    refine (iquote_any s _ hs).mono ?_
    rintro e w2 ⟨rfl, hf2⟩
    go_wp2
    go_ret
    exact ⟨rfl, hf1.trans0 hf2⟩
  · go_enter Try.func3, Try.ntmps3
    go_wp2
    go_ret
    exact ⟨rfl, Fr.refl _ _⟩
end Go.Proofs.Ytmepniddkajckaa
