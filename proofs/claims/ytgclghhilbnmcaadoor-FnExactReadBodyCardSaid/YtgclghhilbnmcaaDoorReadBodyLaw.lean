/- The walk of FnExactReadBody. -/
import Derived.Test.YtgclghhilbnmcaaDoorReadN
import Derived.Test.YtgclghhilbnmcaaDoorBytes
import Derived.Test.YtgclghhilbnmcaaDoorArgS
namespace Go.Proofs.YtgclghhilbnmcaaDoor
attribute [local go_sem ↓] Go.wp_at_zero Go.wp_at_succ
open Go.RowKit Go.ChangeShapes Go.WideShapes
open Rep (Is sz)

theorem apart_lo {α : Type} [Rep α] {m M : World} {F S : List Nat} {x : α} {cs : List Value} (k : Known m F x cs) (n : NewF M S) [g : Grew m M] : Apart F S := ⟨fun b hb hs => by have h1 := Rep.lt k.is b hb; have h2 := n.is.2 b hs; have h3 := g.le; omega⟩
theorem apart_hi {α : Type} [Rep α] {m M : World} {F S : List Nat} {x : α} {cs : List Value} (n : NewF M S) (k : Known m F x cs) [g : Grew m M] : Apart S F := ⟨fun b hb hs => (apart_lo k n).ne b hs hb⟩
theorem sub_of {W M : World} {S : List Nat} (n : NewF M S) [g : Grew W M] : SubX W S [] := ⟨fun b hb => .inr (Nat.le_trans g.le (n.is.2 b hb))⟩
theorem rdRes_len {b : List UInt8} {l : List InsD} {ok : Bool} (h : rdRes b = (l, ok)) : l.length ≤ 1500 := by
  rw [rdRes_eq] at h
  split at h
  · simp only [Prod.mk.injEq] at h; rw [← h.1]; simp
  · split at h
    · rename_i hc; simp only [Prod.mk.injEq] at h; rw [← h.1]; exact hc.1
    · simp only [Prod.mk.injEq] at h; rw [← h.1]; simp

set_option maxRecDepth 100000 in
theorem FnExactReadBody_asc {W : World} (h : laidMetH Tryd.prog Rows.fnExactReadBodyRow.laid W) : Asc W :=
  tabIs_named (rest := []) (t := 178) (by kernel_rfl) Tryd.underlying178 Tryd.underlying5 (by kernel_rfl) (by kernel_rfl) (laidMet_tail h)
set_option maxRecDepth 10000 in
set_option maxHeartbeats 2000000 in
theorem FnExactReadBody_walk {H : Type} {enc : TypeId × Value → H} (W : World) (base : Nat) {d0 : DataW H} {p0 : List MemPlace} (v0 : Value)
    (k0 : Value.okWide Tryd.prog W .any base 22 v0) (h0 : DataW.Trod enc Tryd.prog W 0 (fun _ => true) true 22 v0 d0 p0) (n0 : W.noneFrozen p0)
    (hL : laidMetH Tryd.prog Rows.fnExactReadBodyRow.laid W) :
    Calls Tryd.prog 3 #[v0] W fun e W' => e = .returned (.bool true) ∧ Fr [] W W' := by
  obtain ⟨bs, F, kr⟩ := opens_bytes.args Tryd.underlying22 k0 h0 n0
  have ka : Asc W := FnExactReadBody_asc hL
  have hT : ∀ (w : World) [f : Fr0 W w], ∀ W', Fr [] w W' → Asc W' := fun w f W' g => tab_fr0 ka (f.fr.trans0 g)
  clear k0 h0 n0 hL
  obtain ⟨ar, cr, hv⟩ := slice_form kr.is
  cases hv
  go_enter Tryd.func3, Tryd.ntmps3
  by_cases z : bs.length ≤ 1048576
  rotate_left
  · go_wp2
    go_ret
    exact ⟨rfl, mkFr⟩
  go_wp2_with fail
  with_reducible refine Calls.mono (toBytes _ _ z) ?_
  rintro e w1 ⟨a1, c1, X1, rfl, kx1, nx1, st1⟩
  go_wp2_with fail
  with_reducible refine Calls.mono (sreadbody _ _ z) ?_
  rintro e w2 ⟨aD, cD, l, ok, D, rfl, hr1, kD, nD, st2⟩
  go_wp2_with fail
  with_reducible refine Calls.mono (toBytes _ _ z) ?_
  rintro e w3 ⟨a3, c3, X, rfl, kx, nx, st3⟩
  go_wp2_with fail
  with_reducible refine Calls.mono (ireadbody _ _ z (hT _)) ?_
  rintro e w4 ⟨aG, cG, l', ok', GG, rfl, hr2, kG, nG, st4⟩
  have hE := hr1.out.symm.trans hr2.out
  simp only [Prod.mk.injEq] at hE
  obtain ⟨rfl, rfl⟩ := hE
  have hlen : l.length ≤ 1500 := rdRes_len hr1.out
  go_wp2_with (first | (go_at_call 10; (with_reducible refine Calls.mono (eqInsS ..) ?_); rintro e wk ⟨rfl, st⟩) | (go_at_call 8; (with_reducible refine Calls.mono (toBytes _ _ (by assumption)) ?_); rintro e wk ⟨b, m, G, rfl, kn, nw, st⟩) | (go_at_call 11; (with_reducible refine Calls.mono (eqBytes ..) ?_); rintro e wk ⟨rfl, st⟩))
  have aDX : Apart D X := apart_lo kD nx
  have aGX : Apart GG X := apart_hi nG kx
  have sX : SubX W X [] := sub_of nx
  with_reducible refine Calls.mono (markBytes 1 _ (by omega) (by omega) z) ?_
  rintro e w5 ⟨rfl, st5⟩
  have k1 : ¬ ((1 : Int) + bs.length < 0) := by omega
  go_wp2_with (first | (go_at_call 10; (with_reducible refine Calls.mono (eqInsS ..) ?_); rintro e wk ⟨rfl, st⟩))
  have sG : SubX W GG [] := sub_of nG
  have aDG : Apart D GG := apart_lo kD nG
  with_reducible refine Calls.mono (markInsS 1 _ (by omega) (by omega) (by omega)) ?_
  rintro e w6 ⟨rfl, st6, kM⟩
  have k2 : ¬ ((1 : Int) + 3 * l.length < 0) := by omega
  go_wp2_with fail
  with_reducible refine Calls.mono (heldInsS 1 _ (by omega) (by omega) (by omega)) ?_
  rintro e w7 ⟨rfl, st7⟩
  go_wp2_with fail
  with_reducible refine Calls.mono (toBytes _ _ z) ?_
  rintro e w8 ⟨a8, c8, X8, rfl, kx8, nx8, st8⟩
  go_wp2_with fail
  with_reducible refine Calls.mono (ireadbody _ _ z (hT _)) ?_
  rintro e w9 ⟨aH, cH, l', ok', H9, rfl, hr3, kH, nH, st9⟩
  have hE := hr1.out.symm.trans hr3.out
  simp only [Prod.mk.injEq] at hE
  obtain ⟨rfl, rfl⟩ := hE
  go_wp2_with (first | (go_at_call 10; (with_reducible refine Calls.mono (eqInsS ..) ?_); rintro e wk ⟨rfl, st⟩))
  with_reducible refine Calls.mono (heldInsS 1 _ (by omega) (by omega) (by omega)) ?_
  rintro e w10 ⟨rfl, st10⟩
  go_wp2
  go_ret
  exact ⟨rfl, mkFr⟩
end Go.Proofs.YtgclghhilbnmcaaDoor
