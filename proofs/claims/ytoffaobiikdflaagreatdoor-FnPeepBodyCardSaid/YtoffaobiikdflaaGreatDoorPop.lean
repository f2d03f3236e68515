/- Contracts: the ones of a number, impl's side. -/
import Derived.Test.YtoffaobiikdflaaGreatDoorBits
import Derived.Shelf.Small.Bits
namespace Go.Proofs.YtoffaobiikdflaaGreatDoor
attribute [local go_sem ↓] Go.wp_at_zero Go.wp_at_succ
open Go.RowKit
open Rep (Is sz)

theorem and255 (n : Nat) (h : n < 4294967296) : bits .and .u32 (n : Int) 255 = (n : Int) % 256 := by
  have h1 := and32 n 255 h (by decide)
  have h2 : n &&& 255 = n % 256 := Nat.and_two_pow_sub_one_eq_mod _ 8
  rw [h2] at h1
  exact h1

theorem pop8_at (n : Nat) (h : n < 256) : Lib.pop8 (n : Int) = (Lib.popAux 64 n : Int) := Lib.pop8_eq ⟨n, h⟩
theorem pop_sum (x : Nat) (hx : x < 4294967296) : (Lib.pop8 ((x : Int) / 16777216) + Lib.pop8 ((x : Int) / 65536 % 256) + Lib.pop8 ((x : Int) / 256 % 256) + Lib.pop8 ((x : Int) % 256)) % 256 = (Lib.popAux 32 x : Int) := by
  have e1 := pop8_at (x / 16777216) (by omega)
  have e2 := pop8_at (x / 65536 % 256) (by omega)
  have e3 := pop8_at (x / 256 % 256) (by omega)
  have e4 := pop8_at (x % 256) (by omega)
  have h := popAux_32 x hx
  have h2 := popAux_le 32 x
  rw [show ((x / 16777216 : Nat) : Int) = (x : Int) / 16777216 from rfl] at e1
  rw [show ((x / 65536 % 256 : Nat) : Int) = (x : Int) / 65536 % 256 from rfl] at e2
  rw [show ((x / 256 % 256 : Nat) : Int) = (x : Int) / 256 % 256 from rfl] at e3
  rw [show ((x % 256 : Nat) : Int) = (x : Int) % 256 from rfl] at e4
  rw [e1, e2, e3, e4]
  omega

set_option maxRecDepth 100000 in
theorem iones (x : Nat) (w : World) (hx : x < 4294967296) : Calls Tryz.prog 142 #[.int .u32 x] w fun e w' => e = .returned (.int .i64 (Lib.popAux 32 x : Int)) ∧ Step w w' := by
  have d0 : 0 ≤ (x : Int) / 16777216 := by omega
  have d1 : (x : Int) / 16777216 ≤ 255 := by omega
  have m1 := and255 (x / 65536) (by omega)
  have m2 := and255 (x / 256) (by omega)
  have m3 := and255 x hx
  rw [show ((x / 65536 : Nat) : Int) = (x : Int) / 65536 from rfl] at m1
  rw [show ((x / 256 : Nat) : Int) = (x : Int) / 256 from rfl] at m2
  go_enter Tryz.func142, Tryz.ntmps142
  go_wp2
  refine rg_begin0 (n := 19) (by kernel_rfl) rfl fun rg0 => ?_
  refine rg_read (i := 0) (a1 := _) rfl (by kernel_rfl) rfl (by simp) (by intro wq hwq; go_wp2; exact ⟨rfl, rfl⟩) mkStep ?_
  refine rg_read (i := 1) (a1 := _) rfl (by kernel_rfl) rfl (by simp) (by intro wq hwq; go_wp2; exact ⟨rfl, rfl⟩) mkStep ?_
  refine rg_read (i := 2) (a1 := _) rfl (by kernel_rfl) rfl (by simp) (by intro wq hwq; go_wp2; exact ⟨rfl, rfl⟩) mkStep ?_
  refine rg_read (i := 3) (a1 := _) rfl (by kernel_rfl) rfl (by simp) (by intro wq hwq; go_wp2; exact ⟨rfl, rfl⟩) mkStep ?_
  refine rg_read (i := 4) (a1 := _) rfl (by kernel_rfl) rfl (by simp) (by intro wq hwq; go_wp2; exact ⟨rfl, rfl⟩) mkStep ?_
  refine rg_read (i := 5) (a1 := _) rfl (by kernel_rfl) rfl (by simp) (by intro wq hwq; go_wp2; exact ⟨rfl, rfl⟩) mkStep ?_
  refine rg_read (i := 6) (a1 := _) rfl (by kernel_rfl) rfl (by simp) (by intro wq hwq; go_wp2; exact ⟨rfl, rfl⟩) mkStep ?_
  refine rg_read (i := 7) (a1 := _) rfl (by kernel_rfl) rfl (by simp) (by intro wq hwq; go_wp2; exact ⟨rfl, rfl⟩) mkStep ?_
  refine rg_read (i := 8) (a1 := _) rfl (by kernel_rfl) rfl (by simp) (by intro wq hwq; go_wp2; exact ⟨rfl, rfl⟩) mkStep ?_
  refine rg_read (i := 9) (a1 := _) rfl (by kernel_rfl) rfl (by simp) (by intro wq hwq; go_wp2; exact ⟨rfl, rfl⟩) mkStep ?_
  refine rg_read (i := 10) (a1 := _) rfl (by kernel_rfl) rfl (by simp) (by intro wq hwq; go_wp2; exact ⟨rfl, rfl⟩) mkStep ?_
  refine rg_read (i := 11) (a1 := _) rfl (by kernel_rfl) rfl (by simp) (by intro wq hwq; go_wp2; exact ⟨rfl, rfl⟩) mkStep ?_
  refine rg_read (i := 12) (a1 := _) rfl (by kernel_rfl) rfl (by simp) (by intro wq hwq; go_wp2; exact ⟨rfl, rfl⟩) mkStep ?_
  refine rg_read (i := 13) (a1 := _) rfl (by kernel_rfl) rfl (by simp) (by intro wq hwq; go_wp2; exact ⟨rfl, rfl⟩) mkStep ?_
  refine rg_read (i := 14) (a1 := _) rfl (by kernel_rfl) rfl (by simp) (by intro wq hwq; go_wp2; exact ⟨rfl, rfl⟩) mkStep ?_
  refine rg_read (i := 15) (a1 := _) rfl (by kernel_rfl) rfl (by simp) (by intro wq hwq; go_wp2; exact ⟨rfl, rfl⟩) mkStep ?_
  refine rg_read (i := 16) (a1 := _) rfl (by kernel_rfl) rfl (by simp) (by intro wq hwq; go_wp2; exact ⟨rfl, rfl⟩) mkStep ?_
  refine rg_read (i := 17) (a1 := _) rfl (by kernel_rfl) rfl (by simp) (by intro wq hwq; go_wp2; exact ⟨rfl, rfl⟩) mkStep ?_
  refine rg_read (i := 18) (a1 := _) rfl (by kernel_rfl) rfl (by simp) (by intro wq hwq; go_wp2; exact ⟨rfl, rfl⟩) mkStep ?_
  refine rg_done (by kernel_rfl) ?_
  go_wp2
  go_ret
  exact ⟨ret_int (pop_sum x hx), mkStep⟩
theorem ipop (a : Int) (w : World) : Calls Tryz.prog 119 #[.int .i64 a] w fun e w' => e = .returned (.int .i64 (pop32 a)) ∧ Step w w' := by
  have ha := u32n_eq a
  have h1 := u32n_lt a
  have hr := hid (show pop32 a = (Lib.popAux 32 (u32n a) : Int) from rfl)
  go_enter Tryz.func119, Tryz.ntmps119
  go_wp2_with (first | (go_at_call 142; (with_reducible refine Calls.mono (iones _ _ (by omega)) ?_); rintro e wk ⟨rfl, st⟩))
  go_ret
  exact ⟨by rw [hr.out]; rfl, mkStep⟩
end Go.Proofs.YtoffaobiikdflaaGreatDoor
