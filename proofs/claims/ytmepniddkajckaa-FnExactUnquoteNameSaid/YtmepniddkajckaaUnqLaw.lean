/- The walk of FnExactUnquoteName. -/
import Derived.Test.YtmepniddkajckaaUnqI
import Derived.ProofKit
namespace Go.Proofs.Ytmepniddkajckaa
open Go.RowKit Go.ChangeShapes Go.WideShapes
open Go.ChangeMaps (open_string)

theorem UnqPost.form {s : ByteArray} {e : Ending} (h : UnqPost s e) : ∃ r b, e = .returned (.tuple #[.string r, .bool b]) := by
  rcases h with ⟨X, _, rfl⟩ | ⟨_, rfl⟩ <;> exact ⟨_, _, rfl⟩

theorem UnqPost.same {s : ByteArray} {e e' : Ending} (h : UnqPost s e) (h' : UnqPost s e') : e = e' := by
  rcases h with ⟨X, hX, rfl⟩ | ⟨hn, rfl⟩ <;> rcases h' with ⟨Y, hY, rfl⟩ | ⟨hm, rfl⟩
  · rw [quoteL_inj (hX.symm.trans hY)]
  · exact absurd hX (hm X)
  · exact absurd hY (hn Y)
  · rfl

theorem FnExactUnquoteName_walk {H : Type} {enc : TypeId × Value → H} (W : World) (base : Nat) {d0 : DataW H} {p0 : List MemPlace} (v0 : Value)
    (k0 : Value.okWide Try.prog W .any base 9 v0) (h0 : DataW.Trod enc Try.prog W 0 (fun _ => true) true 9 v0 d0 p0) :
    Calls Try.prog 4 #[v0] W fun e W' => e = .returned (.bool true) ∧ Fr [] W W' := by
  obtain ⟨s, rfl, rfl, rfl, _⟩ := open_string Try.underlying9 k0 h0
  by_cases hs : s.size ≤ 1048576
  · go_enter Try.func4, Try.ntmps4
    go_wp2_with fail
    with_reducible refine (sunq_any s _ hs).mono ?_
    rintro e w1 ⟨hp1, hf1⟩
    obtain ⟨r, b, rfl⟩ := hp1.form
    go_wp2_with fail
    with_reducible refine (iunq_any s _ hs).mono ?_
    rintro e w2 ⟨hp2, hf2⟩
    obtain rfl := hp1.same hp2
    go_wp2
    go_ret
    exact ⟨rfl, hf1.trans0 hf2⟩
  · go_enter Try.func4, Try.ntmps4
    go_wp2
    go_ret
    exact ⟨rfl, Fr.refl _ _⟩
end Go.Proofs.Ytmepniddkajckaa
