/- Contracts: the draws of names. -/
import Derived.Test.YtagmliclachjlaaDoorCur
import Derived.Test.YtagmliclachjlaaDoorNum
namespace Go.Proofs.YtagmliclachjlaaDoor
attribute [local go_sem ↓] Go.wp_at_zero Go.wp_at_succ
open Go.RowKit
open Rep (Is sz)

theorem sdput {F : List Nat} {v : Value} (bs : List UInt8) (w : World) (hl : bs.length ≤ 1048576) [h : Shows w F bs [v]] :
    Calls Tryd.prog 4 #[v] w fun e w' => ∃ (out : List UInt8) (ao : Option Addr) (co : Nat) (G : List Nat) (s : ByteArray), out.length ≤ 4 ∧ s.size ≤ 4 ∧ e = .returned (.tuple #[.slice ao out.length co, .string s]) ∧ Known w' G out [.slice ao out.length co] ∧ NewF w G ∧ Step w w' := by
  have hk := h.known
  obtain ⟨ad, cap, hv, _, hvw, hml⟩ := bytes_open h.is
  cases hv
  have hlt := Rep.lt h.is
  go_enter Tryd.func4, Tryd.ntmps4
  go_wp2_with fail
  with_reducible refine Calls.mono (snew bs _ hl) ?_
  rintro e w1 ⟨p, hh, rfl, b0, hp, hh1, st1⟩
  have b1 : BoxL w1 p #[.slice ad bs.length cap, .int .i64 ((0 : Nat) : Int), .int .i64 hh] := b0
  clear b0
  have ap : Apart F [p] := ⟨fun b hb => by have := hlt b hb; simp; omega⟩
  have np : NewB w p := ⟨hp⟩
  have op := b1.old.lt
  go_wp2_with fail
  with_reducible refine Calls.mono (sbytes2 bs 0 4 _ (by omega) (Nat.zero_le _)) ?_
  rintro e w2 ⟨out, ao, co, G, i2, h2, hlen, rfl, k2, n2, hi2, hh2, b2, st2⟩
  have aG : Apart G [p] := ⟨fun b hb => by have := n2.is.2 b hb; simp; omega⟩
  go_wp2_with fail
  with_reducible refine Calls.mono (sname2 bs i2 _ hi2) ?_
  rintro e w3 ⟨s, i3, h3, hs, rfl, hi3, hh3, b3, st3⟩
  have k3 : Known w3 G out [.slice ao out.length co] := (show Shows w3 G out [.slice ao out.length co] from inferInstance).known
  go_wp2
  go_ret2
  exact ⟨out, ao, co, G, s, by omega, hs, rfl, k3, ⟨n2.is.mono st1.fr.size⟩, mkStep⟩

set_option maxRecDepth 10000 in
theorem sdutf {F : List Nat} {v : Value} (bs : List UInt8) (w : World) (hl : bs.length ≤ 1048576) [h : Shows w F bs [v]] :
    Calls Tryd.prog 7 #[v] w fun e w' => ∃ (s : ByteArray), s.size ≤ 16 ∧ e = .returned (.string s) ∧ Step w w' := by
  have hk := h.known
  obtain ⟨ad, cap, hv, _, hvw, hml⟩ := bytes_open h.is
  cases hv
  have hlt := Rep.lt h.is
  go_enter Tryd.func7, Tryd.ntmps7
  go_wp2_with fail
  with_reducible refine Calls.mono (snew bs _ hl) ?_
  rintro e w1 ⟨p, hh, rfl, b0, hp, hh1, st1⟩
  have b1 : BoxL w1 p #[.slice ad bs.length cap, .int .i64 ((0 : Nat) : Int), .int .i64 hh] := b0
  clear b0
  have ap : Apart F [p] := ⟨fun b hb => by have := hlt b hb; simp; omega⟩
  have np : NewB w p := ⟨hp⟩
  have op := b1.old.lt
  go_wp2_with fail
  with_reducible refine Calls.mono (sname2 bs 0 _ (Nat.zero_le _)) ?_
  rintro e w2 ⟨s1, i2, h2, hs1, rfl, hi2, hh2, b2, st2⟩
  go_wp2_with fail
  with_reducible refine Calls.mono (sname2 bs i2 _ hi2) ?_
  rintro e w3 ⟨s2, i3, h3, hs2, rfl, hi3, hh3, b3, st3⟩
  have hsz : (s1 ++ s2).size ≤ 16 := by rw [ByteArray.size_append]; omega
  go_wp2_with fail
  with_reducible refine Calls.mono (sbelow bs i3 4 _ (by omega) hi3) ?_
  rintro e w4 ⟨x, i4, h4, hx, rfl, hi4, hh4, b4, st4⟩
  by_cases x0 : x = 0
  · subst x0
    go_wp2_with fail
    with_reducible refine Calls.mono (sbytes2 bs i4 5 _ (by omega) hi4) ?_
    rintro e w5 ⟨out, ao, co, G, i5, h5, hlen, rfl, k5, n5, hi5, hh5, b5, st5⟩
    obtain ⟨_, _, hv, _, hvw5, _⟩ := bytes_open k5.is
    cases hv
    have hst := run_string_view (P := Tryd.prog) w5 22 9 5 ao out.length co out Tryd.bytes_tab' (by kernel_rfl) (by kernel_rfl) hvw5
    go_wp2
    go_ret
    exact ⟨_, by show out.toArray.size ≤ 16; simp; omega, rfl, mkStep⟩
  by_cases x1 : x = 1
  · subst x1
    go_wp2_with fail
    with_reducible refine Calls.mono (sbelow bs i4 12 _ (by omega) hi4) ?_
    rintro e w5 ⟨y, i5, h5, hy, rfl, hi5, hh5, b5, st5⟩
    have nn : NotIn w4.heap.size [p] := ⟨by have := b4.old.lt; simp; omega⟩
    have hc : y = 0 ∨ y = 1 ∨ y = 2 ∨ y = 3 ∨ y = 4 ∨ y = 5 ∨ y = 6 ∨ y = 7 ∨ y = 8 ∨ y = 9 ∨ y = 10 ∨ y = 11 := by omega
    rcases hc with rfl | rfl | rfl | rfl | rfl | rfl | rfl | rfl | rfl | rfl | rfl | rfl
    all_goals
      go_wp2
      go_ret
      exact ⟨_, by decide, rfl, mkStep⟩
  · have x0i : ((x : Int) == 0) = false := by rw [beq_eq_false_iff_ne]; omega
    have x1i : ((x : Int) == 1) = false := by rw [beq_eq_false_iff_ne]; omega
    go_wp2
    go_ret
    exact ⟨_, hsz, rfl, mkStep⟩
end Go.Proofs.YtagmliclachjlaaDoor
