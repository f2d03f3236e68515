/- Contracts: GetU, GetS, both sides. -/
import Derived.Test.YtagmliclachjlaaDoorLeb
namespace Go.Proofs.YtagmliclachjlaaDoor
attribute [local go_sem ↓] Go.wp_at_zero Go.wp_at_succ
open Go.RowKit
open Rep (Is sz)

set_option maxHeartbeats 1000000 in
theorem igetu {F : List Nat} {v : Value} {b : List UInt8} (a : Nat) (w : World) (hl : b.length ≤ 1048576) (ha : a ≤ b.length) [h : Shows w F b [v]] :
    Calls Tryd.prog 16 #[v, .int .i64 (a : Int)] w fun e w' => e = .returned (.tuple #[.int .i64 (getR (getU b a)).1, .int .i64 (getR (getU b a)).2.1, .bool (getR (getU b a)).2.2]) ∧ Step w w' := by
  obtain ⟨ad, cap, hv, _, hvw, hml⟩ := bytes_open h.is
  have kk := h.known
  cases hv
  unfold maxLen at hml
  have hI := ipcs (v := .slice ad b.length cap) a w hl ha
  obtain ⟨r, hr⟩ : ∃ r, r = getR (getU b a) := ⟨_, rfl⟩
  rw [← hr]
  clear h
  go_enter Tryd.func16, Tryd.ntmps16
  cases hp : pcs b a with
  | none =>
    have hz := hid (show r = (0, 0, false) by rw [hr]; unfold getU; rw [hp]; rfl)
    rw [hp] at hI
    replace hI : Calls Tryd.prog 24 #[.slice ad b.length cap, .int .i64 (a : Int)] w fun e w' => e = .returned (.tuple #[.int .i64 0, .int .i64 0, .int .i64 0]) ∧ Step w w' := hI
    replace hr := hid hr
    clear hp
    go_wp2_with fail
    with_reducible refine Calls.mono hI ?_
    rintro e w2 ⟨rfl, st⟩
    go_wp2
    go_ret3
    exact ⟨by rw [hz.out]; rfl, mkStep⟩
  | some t =>
    obtain ⟨n, c, s⟩ := t
    obtain ⟨o1, o2, o3, o4, o5, o6, o7⟩ := pcs_ok hp
    have o8 : n < 34359738368 := Int.lt_of_lt_of_le o2 (by
      have : s = 1 ∨ s = 2 ∨ s = 3 ∨ s = 4 ∨ s = 5 := by omega
      rcases this with rfl | rfl | rfl | rfl | rfl <;> decide)
    clear o2
    rw [hp] at hI
    replace hI : Calls Tryd.prog 24 #[.slice ad b.length cap, .int .i64 (a : Int)] w fun e w' => e = .returned (.tuple #[.int .i64 n, .int .i64 c, .int .i64 (s : Int)]) ∧ Step w w' := hI
    by_cases hq : s = 5 ∧ (15 < c)
    · have hz := hid (show r = (0, 0, false) by rw [hr]; unfold getU; rw [hp]; simp only []; rw [if_pos hq]; rfl)
      replace hr := hid hr
      obtain ⟨rfl, hq2⟩ := hq
      clear hp
      go_wp2_with fail
      with_reducible refine Calls.mono hI ?_
      rintro e w2 ⟨rfl, st⟩
      go_wp2
      go_ret3
      exact ⟨by rw [hz.out]; rfl, mkStep⟩
    · have hz := hid (show r = (n, ((a + s : Nat) : Int), true) by rw [hr]; unfold getU; rw [hp]; simp only []; rw [if_neg hq]; rfl)
      replace hr := hid hr
      clear hp
      have z0 : ((s : Int) == 0) = false := by rw [beq_eq_false_iff_ne]; omega
      by_cases h5 : s = 5
      · subst h5
        have h15 : ¬ 15 < c := fun h => hq ⟨rfl, h⟩
        replace hq := hid hq
        go_wp2_with fail
        with_reducible refine Calls.mono hI ?_
        rintro e w2 ⟨rfl, st⟩
        go_wp2
        go_ret3
        exact ⟨by rw [hz.out]; first | rfl | simp, mkStep⟩
      · have z5 : ((s : Int) == 5) = false := by rw [beq_eq_false_iff_ne]; omega
        replace hq := hid hq
        go_wp2_with fail
        with_reducible refine Calls.mono hI ?_
        rintro e w2 ⟨rfl, st⟩
        go_wp2
        go_ret3
        exact ⟨by rw [hz.out]; first | rfl | simp, mkStep⟩



end Go.Proofs.YtagmliclachjlaaDoor
