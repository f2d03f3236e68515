/- Footprints apart, for the laws' walks. -/
import Derived.Test.YtnhpmkokhimfkaaDoorMut
namespace Go.Proofs.YtnhpmkokhimfkaaDoor
open Go.RowKit
open Rep (Is sz)

theorem apart_lo {α : Type} [Rep α] {m M : World} {F S : List Nat} {x : α} {cs : List Value} (k : Known m F x cs) (n : NewF M S) [g : Grew m M] : Apart F S := ⟨fun b hb hs => by have h1 := Rep.lt k.is b hb; have h2 := n.is.2 b hs; have h3 := g.le; omega⟩
theorem apart_hi {α : Type} [Rep α] {m M : World} {F S : List Nat} {x : α} {cs : List Value} (n : NewF M S) (k : Known m F x cs) [g : Grew m M] : Apart S F := ⟨fun b hb hs => (apart_lo k n).ne b hs hb⟩
theorem sub_of {W M : World} {S : List Nat} (n : NewF M S) [g : Grew W M] : SubX W S [] := ⟨fun b hb => .inr (Nat.le_trans g.le (n.is.2 b hb))⟩
end Go.Proofs.YtnhpmkokhimfkaaDoor
