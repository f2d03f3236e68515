/- Contracts: impl.allOk. Contracts: impl's names. -/
import Derived.Test.YtpaekgeopmifeaaDoorK06
import Derived.Test.YtpaekgeopmifeaaDoorK12
import Derived.Test.YtpaekgeopmifeaaDoorK07
import Derived.Test.YtpaekgeopmifeaaDoorK31
import Derived.Test.YtpaekgeopmifeaaDoorK13
import Derived.Test.YtpaekgeopmifeaaDoorShelf
namespace Go.Proofs.YtpaekgeopmifeaaDoor
attribute [local go_sem ↓] Go.wp_at_zero Go.wp_at_succ
open Go.RowKit
open Rep (Is sz)

theorem ibadI {F : List Nat} {cs : List Value} (i : InsD) (w : World) [h : Shows w F i cs] : Calls Tryd.prog 53 #[.agg cs.toArray] w fun e w' => e = .returned (.bool (!insOk i)) ∧ Step w w' := by
  obtain ⟨rfl, rfl, i0, i1, i2⟩ := ins_open h.is
  have kk := h.known
  clear h
  go_enter Tryd.func53, Tryd.ntmps53
  go_wp2_with (first | (go_at_call 54; (with_reducible refine Calls.mono (iinsok ..) ?_); rintro e wk ⟨rfl, st⟩))
  go_ret
  exact ⟨rfl, mkStep⟩
theorem iidxI {F : List Nat} {l : List InsD} {v : Value} (w : World) [h : Shows w F l [v]] : Calls Tryd.prog 65 #[v, .func (.func 53) #[] #[]] w fun e w' => ∃ n : Int, decide (0 ≤ n) = !(l.all insOk) ∧ e = .returned (.int .i64 n) ∧ Step w w' := by
  obtain ⟨a, cap, cl, FF, hv, _, hvw, hr, hml⟩ := list_open h.is
  cases hv
  clear h
  unfold maxLen at hml
  go_enter Tryd.func65, Tryd.ntmps65
  go_wp2
  go_loopw [8] (fun i wr => ∃ k : Nat, k ≤ l.length ∧ i = .int .i64 k ∧ Step w wr ∧ Hid (∀ j : Nat, j < k → ∀ x, l[j]? = some x → insOk x = true)) (fun i _ => l.length - (intOf i).toNat)
  case atStart => exact ⟨0, by omega, rfl, mkStep, fun j hj => by omega⟩
  case round =>
    obtain ⟨k, hk, rfl, st, heq⟩ := hrel
    by_cases hlt : k < l.length
    · clear hk
      obtain ⟨b, o, G, cs, rfl, hG, hI, hc, ho⟩ := hvw.row hr rfl (by decide) k hlt
      have hI0 := hI
      obtain ⟨rfl, rfl, i0, i1, i2⟩ := ins_open hI0
      have ke : Known w _ l[k] _ := ⟨hI⟩
      have c0 := (hc 0 _ rfl).1
      replace c0 : w.cell? ⟨b, o + k * 3, none⟩ = _ := c0
      have c1 := (hc 1 _ rfl).1
      replace c1 : w.cell? ⟨b, o + k * 3 + 1, none⟩ = _ := c1
      have c2 := (hc 2 _ rfl).1
      replace c2 : w.cell? ⟨b, o + k * 3 + 2, none⟩ = _ := c2
      clear hc
      cases hq : insOk l[k]
      · go_wp2_with (first | (go_at_call 53; (with_reducible refine Calls.mono (ibadI _ _) ?_); rintro e wk ⟨rfl, st⟩))
        go_ret
        exact ⟨k, by rw [all_no hlt hq]; simp, rfl, mkStep⟩
      · go_wp2_with (first | (go_at_call 53; (with_reducible refine Calls.mono (ibadI _ _) ?_); rintro e wk ⟨rfl, st⟩))
        go_roundw
        case rel => exact ⟨k + 1, by omega, by go_num, mkStep, all_step hlt hq heq.out⟩
        case measure => simp [intOf]; omega
    · have hq := hid (all_yes (p := insOk) (by omega) heq.out)
      go_wp2
      go_ret
      exact ⟨-1, by rw [hq.out]; rfl, rfl, mkStep⟩
theorem icfI {F : List Nat} {l : List InsD} {v : Value} (w : World) [h : Shows w F l [v]] : Calls Tryd.prog 52 #[v, .func (.func 53) #[] #[]] w fun e w' => e = .returned (.bool (!(l.all insOk))) ∧ Step w w' := by
  have kk := h.known
  go_enter Tryd.func52, Tryd.ntmps52
  go_wp2_with (first | (go_at_call 65; (with_reducible refine Calls.mono (iidxI ..) ?_); rintro e wk ⟨ix, hix, rfl, st⟩))
  go_ret
  exact ⟨by rw [← hix]; rfl, mkStep⟩
theorem iallok {F : List Nat} {l : List InsD} {v : Value} (w : World) [h : Shows w F l [v]] : Calls Tryd.prog 33 #[v] w fun e w' => e = .returned (.bool (l.all insOk)) ∧ Step w w' := by
  have kk := h.known
  go_enter Tryd.func33, Tryd.ntmps33
  go_wp2_with (first | (go_at_call 52; (with_reducible refine Calls.mono (icfI ..) ?_); rintro e wk ⟨rfl, st⟩))
  go_ret
  exact ⟨ret_bool (by simp), mkStep⟩
end Go.Proofs.YtpaekgeopmifeaaDoor
namespace Go.Proofs.YtpaekgeopmifeaaDoor
attribute [local go_sem ↓] Go.wp_at_zero Go.wp_at_succ
open Go.RowKit
open Rep (Is sz)

theorem bodyB_parts {l : List InsD} : bodyB l = true ↔ ((l.length : Int) ≤ 1500 ∧ l.all insOk = true ∧ shapeB l = true) := by
  unfold bodyB
  rw [Bool.and_eq_true, Bool.and_eq_true, decide_eq_true_iff]
  exact ⟨fun ⟨a, b, c⟩ => ⟨b, a, c⟩, fun ⟨a, b, c⟩ => ⟨b, a, c⟩⟩
theorem iname3 (s : ByteArray) (w : World) (hs : s.size ≤ 1099511627776) [h : HasU8 w] : Calls Tryd.prog 32 #[.string s] w fun e w' => e = .returned (.bool (nameB3 s)) ∧ Step w w' := by
  have ka := h.known
  go_enter Tryd.func32, Tryd.ntmps32
  unfold nameB3
  cases q : utfB s
  · go_wp2_with (first | (go_at_call 51; (with_reducible refine Calls.mono (iutf _ _ (by assumption)) ?_); rintro e wk ⟨rfl, st⟩))
    go_ret
    exact ⟨rfl, mkStep⟩
  · go_wp2_with (first | (go_at_call 51; (with_reducible refine Calls.mono (iutf _ _ (by assumption)) ?_); rintro e wk ⟨rfl, st⟩))
    go_ret
    exact ⟨rfl, mkStep⟩
end Go.Proofs.YtpaekgeopmifeaaDoor
