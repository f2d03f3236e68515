/- Contracts: UnquoteName, both sides. -/
import Derived.Test.YtagmliclachjlaaDoorQuote
import Derived.Test.YtagmliclachjlaaDoorUnqP
import Derived.Test.YtagmliclachjlaaDoorShelf
namespace Go.Proofs.YtagmliclachjlaaDoor
attribute [local go_sem ↓] Go.wp_at_zero Go.wp_at_succ
open Go.RowKit


/-- What UnquoteName comes to. -/
def UnqPost (s : ByteArray) (e : Ending) : Prop :=
  (∃ X, s.data.toList = quoteL X ∧ e = .returned (.tuple #[.string ⟨X.toArray⟩, .bool true])) ∨
  ((∀ X, s.data.toList ≠ quoteL X) ∧ e = .returned (.tuple #[.string ⟨#[]⟩, .bool false]))


end Go.Proofs.YtagmliclachjlaaDoor
