/- The draw of right bodies: all its depths. -/
import Derived.Test.YtpaekgeopmifeaaDoorK25
import Derived.Test.YtpaekgeopmifeaaDoorK26
namespace Go.Proofs.YtpaekgeopmifeaaDoor
open Go.RowKit
open Rep (Is sz)

/-- One depth, all that is at hand given. -/
def GoodAt (deep N : Nat) : Prop := ∀ (p : Nat) (F : List Nat) (M : MH) (m : ModuleD) (loc want : Int), In64 loc → SigIn m → (∀ i : InsD, 0 ≤ (takesC m i).1 ∧ (takesC m i).1 ≤ 3 ∧ 0 ≤ (takesC m i).2 ∧ (takesC m i).2 ≤ 1) → ∀ (x : World) (lb2 : List Int) (G : List Nat) (v2 : Value), Cur x p → Shows x F m M.cells → Apart F [p] → Shows x G lb2 [v2] → Apart G [p] → lb2.length ≤ deep → (0 ≤ want ∧ want ≤ 1) →
  Calls Tryd.prog 35 #[.pointer (some ⟨p, 0, none⟩), .agg M.cells.toArray, .int .i64 loc, .int .i64 want, .int .i64 (deep : Int), v2] x (DrBody p x N)
theorem good3 : GoodAt 3 37 := by
  intro p F M m loc want hloc sg htk x lb G v c hm aF hl aG hlen hw
  exact sgoodS m 3 0 loc want lb x (by omega) (by omega) hlen hw hloc sg htk (fun h => absurd h (by omega))
theorem good2 : GoodAt 2 481 := by
  intro p F M m loc want hloc sg htk x lb G v c hm aF hl aG hlen hw
  exact sgoodS m 2 37 loc want lb x (by omega) (by omega) hlen hw hloc sg htk (fun _ x2 lb2 G2 v2 want2 c2 hm2 hl2 aG2 hl3 hw2 => good3 p F M m loc want2 hloc sg htk x2 lb2 G2 v2 c2 hm2 aF hl2 aG2 hl3 hw2)
theorem good1 : GoodAt 1 5809 := by
  intro p F M m loc want hloc sg htk x lb G v c hm aF hl aG hlen hw
  exact sgoodS m 1 481 loc want lb x (by omega) (by omega) hlen hw hloc sg htk (fun _ x2 lb2 G2 v2 want2 c2 hm2 hl2 aG2 hl3 hw2 => good2 p F M m loc want2 hloc sg htk x2 lb2 G2 v2 c2 hm2 aF hl2 aG2 hl3 hw2)
theorem goodAll : GoodC := by
  intro p F M m loc want w hw hloc sg htk c hm aF
  have hl : Shows w [] ([] : List Int) [.slice none 0 0] := ⟨ints_shut (l := []) (View.nil _ _ _) (by simp) (by simp)⟩
  exact sgoodS m 0 5809 loc want [] w (by omega) (by omega) (by simp) hw hloc sg htk (fun _ x2 lb2 G2 v2 want2 c2 hm2 hl2 aG2 hl3 hw2 => good1 p F M m loc want2 hloc sg htk x2 lb2 G2 v2 c2 hm2 aF hl2 aG2 hl3 hw2)
theorem anyC : AnyC := fun _ w c => sany5 goodAll w (c := c)
end Go.Proofs.YtpaekgeopmifeaaDoor
