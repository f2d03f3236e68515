/- Contracts: impl.allOk. -/
import Derived.Test.YtoffaobiikdflaaGreatDoorInsOk
import Derived.Test.YtoffaobiikdflaaGreatDoorCase
import Derived.Test.YtoffaobiikdflaaGreatDoorInsS
namespace Go.Proofs.YtoffaobiikdflaaGreatDoor
attribute [local go_sem ↓] Go.wp_at_zero Go.wp_at_succ
open Go.RowKit
open Rep (Is sz)

theorem ibadI {F : List Nat} {cs : List Value} (i : InsD) (w : World) [h : Shows w F i cs] : Calls Tryz.prog 42 #[.agg cs.toArray] w fun e w' => e = .returned (.bool (!insOk i)) ∧ Step w w' := by
  obtain ⟨rfl, rfl, i0, i1, i2⟩ := ins_open h.is
  have kk := h.known
  clear h
  go_enter Tryz.func42, Tryz.ntmps42
  go_wp2_with (first | (go_at_call 36; (with_reducible refine Calls.mono (iinsok ..) ?_); rintro e wk ⟨rfl, st⟩))
  go_ret
  exact ⟨rfl, mkStep⟩
theorem iidxI {F : List Nat} {l : List InsD} {v : Value} (w : World) [h : Shows w F l [v]] : Calls Tryz.prog 86 #[v, .func (.func 42) #[] #[]] w fun e w' => ∃ n : Int, decide (0 ≤ n) = !(l.all insOk) ∧ e = .returned (.int .i64 n) ∧ Step w w' := by
  obtain ⟨a, cap, cl, FF, hv, _, hvw, hr, hml⟩ := list_open h.is
  cases hv
  clear h
  unfold maxLen at hml
  go_enter Tryz.func86, Tryz.ntmps86
  go_wp2
  go_loopw [8] (fun i wr => ∃ k : Nat, k ≤ l.length ∧ i = .int .i64 k ∧ Step w wr ∧ Hid (∀ j : Nat, j < k → ∀ x, l[j]? = some x → insOk x = true)) (fun i _ => l.length - (intOf i).toNat)
  case atStart => exact ⟨0, by omega, rfl, mkStep, fun j hj => by omega⟩
  case round =>
    obtain ⟨k, hk, rfl, st, heq⟩ := hrel
    by_cases hlt : k < l.length
    · clear hk
      obtain ⟨b, o, G, cs, rfl, hG, hI, hc, ho⟩ := hvw.row hr rfl (by decide) k hlt
      have hI0 := hI
      obtain ⟨rfl, rfl, i0, i1, i2⟩ := ins_open hI0
      have ke : Known w _ l[k] _ := ⟨hI⟩
      have c0 := (hc 0 _ rfl).1
      replace c0 : w.cell? ⟨b, o + k * 3, none⟩ = _ := c0
      have c1 := (hc 1 _ rfl).1
      replace c1 : w.cell? ⟨b, o + k * 3 + 1, none⟩ = _ := c1
      have c2 := (hc 2 _ rfl).1
      replace c2 : w.cell? ⟨b, o + k * 3 + 2, none⟩ = _ := c2
      clear hc
      cases hq : insOk l[k]
      · go_wp2_with (first | (go_at_call 42; (with_reducible refine Calls.mono (ibadI _ _) ?_); rintro e wk ⟨rfl, st⟩))
        go_ret
        exact ⟨k, by rw [all_no hlt hq]; simp, rfl, mkStep⟩
      · go_wp2_with (first | (go_at_call 42; (with_reducible refine Calls.mono (ibadI _ _) ?_); rintro e wk ⟨rfl, st⟩))
        go_roundw
        case rel => exact ⟨k + 1, by omega, by go_num, mkStep, all_step hlt hq heq.out⟩
        case measure => simp [intOf]; omega
    · have hq := hid (all_yes (p := insOk) (by omega) heq.out)
      go_wp2
      go_ret
      exact ⟨-1, by rw [hq.out]; rfl, rfl, mkStep⟩
theorem icfI {F : List Nat} {l : List InsD} {v : Value} (w : World) [h : Shows w F l [v]] : Calls Tryz.prog 41 #[v, .func (.func 42) #[] #[]] w fun e w' => e = .returned (.bool (!(l.all insOk))) ∧ Step w w' := by
  have kk := h.known
  go_enter Tryz.func41, Tryz.ntmps41
  go_wp2_with (first | (go_at_call 86; (with_reducible refine Calls.mono (iidxI ..) ?_); rintro e wk ⟨ix, hix, rfl, st⟩))
  go_ret
  exact ⟨by rw [← hix]; rfl, mkStep⟩
theorem iallok {F : List Nat} {l : List InsD} {v : Value} (w : World) [h : Shows w F l [v]] : Calls Tryz.prog 22 #[v] w fun e w' => e = .returned (.bool (l.all insOk)) ∧ Step w w' := by
  have kk := h.known
  go_enter Tryz.func22, Tryz.ntmps22
  go_wp2_with (first | (go_at_call 41; (with_reducible refine Calls.mono (icfI ..) ?_); rintro e wk ⟨rfl, st⟩))
  go_ret
  exact ⟨ret_bool (by simp), mkStep⟩
end Go.Proofs.YtoffaobiikdflaaGreatDoor
