/- Contracts: single bits of numbers of 32 bits, both sides. -/
import Derived.Test.YtoffaobiikdflaaGreatDoorCalc
import Derived.Test.YtoffaobiikdflaaGreatDoorText
namespace Go.Proofs.YtoffaobiikdflaaGreatDoor
attribute [local go_sem ↓] Go.wp_at_zero Go.wp_at_succ
open Go.RowKit
open Rep (Is sz)

def bits32 (k a b : Int) : Int :=
  if k = 1 then wrap32 ((u32n a &&& u32n b : Nat) : Int)
  else if k = 2 then wrap32 ((u32n a ||| u32n b : Nat) : Int)
  else if k = 3 then wrap32 ((u32n a ^^^ u32n b : Nat) : Int)
  else if k = 4 then wrap32 ((u32n a * 2 ^ (u32n b % 32) : Nat) : Int)
  else if k = 5 then wrap32 a / 2 ^ (u32n b % 32)
  else if k = 6 then wrap32 ((u32n a / 2 ^ (u32n b % 32) : Nat) : Int)
  else if k = 7 then wrap32 ((rotl (u32n a) (u32n b % 32) : Nat) : Int)
  else if k = 8 then wrap32 ((rotr (u32n a) (u32n b % 32) : Nat) : Int)
  else 0
theorem bits_1 (a b : Int) : bits32 1 a b = wrap32 ((u32n a &&& u32n b : Nat) : Int) := by
  unfold bits32
  rw [if_pos rfl]
theorem bits_2 (a b : Int) : bits32 2 a b = wrap32 ((u32n a ||| u32n b : Nat) : Int) := by
  unfold bits32
  rw [if_neg (by decide), if_pos rfl]
theorem bits_3 (a b : Int) : bits32 3 a b = wrap32 ((u32n a ^^^ u32n b : Nat) : Int) := by
  unfold bits32
  rw [if_neg (by decide), if_neg (by decide), if_pos rfl]
theorem bits_4 (a b : Int) : bits32 4 a b = wrap32 ((u32n a * 2 ^ (u32n b % 32) : Nat) : Int) := by
  unfold bits32
  rw [if_neg (by decide), if_neg (by decide), if_neg (by decide), if_pos rfl]
theorem bits_5 (a b : Int) : bits32 5 a b = wrap32 a / 2 ^ (u32n b % 32) := by
  unfold bits32
  rw [if_neg (by decide), if_neg (by decide), if_neg (by decide), if_neg (by decide), if_pos rfl]
theorem bits_6 (a b : Int) : bits32 6 a b = wrap32 ((u32n a / 2 ^ (u32n b % 32) : Nat) : Int) := by
  unfold bits32
  rw [if_neg (by decide), if_neg (by decide), if_neg (by decide), if_neg (by decide), if_neg (by decide), if_pos rfl]
theorem bits_7 (a b : Int) : bits32 7 a b = wrap32 ((rotl (u32n a) (u32n b % 32) : Nat) : Int) := by
  unfold bits32
  rw [if_neg (by decide), if_neg (by decide), if_neg (by decide), if_neg (by decide), if_neg (by decide), if_neg (by decide), if_pos rfl]
theorem bits_8 (a b : Int) : bits32 8 a b = wrap32 ((rotr (u32n a) (u32n b % 32) : Nat) : Int) := by
  unfold bits32
  rw [if_neg (by decide), if_neg (by decide), if_neg (by decide), if_neg (by decide), if_neg (by decide), if_neg (by decide), if_neg (by decide), if_pos rfl]
def clz32 (a : Int) : Int := 32 - (Lib.bitLen (u32n a) : Int)
def ctz32 (a : Int) : Int := (Lib.ctz 32 (u32n a) : Int)
def pop32 (a : Int) : Int := (Lib.popAux 32 (u32n a) : Int)

def I32 (n : Int) : Prop := -2147483648 ≤ n ∧ n ≤ 2147483647
theorem wrap32_in (n : Int) : I32 (wrap32 n) := wrap32_lo n
theorem wrap32_id {n : Int} (h : I32 n) : wrap32 n = n := by unfold I32 at h; unfold wrap32; omega
theorem shr_in {x : Int} (hx : I32 x) (k : Nat) : I32 (x / 2 ^ k) := by
  unfold I32 at *
  have hp : (0 : Int) < 2 ^ k := Int.pow_pos (by decide)
  constructor
  · rw [Int.le_ediv_iff_mul_le hp]; generalize (2 : Int) ^ k = p at hp; omega
  · have h : x / 2 ^ k < 2147483648 := by rw [Int.ediv_lt_iff_lt_mul hp]; generalize (2 : Int) ^ k = p at hp; omega
    omega
theorem cast_shl (x k : Nat) : (x : Int) * 2 ^ k = ((x * 2 ^ k : Nat) : Int) := by simp
theorem cast_shr (x k : Nat) : (x : Int) / 2 ^ k = ((x / 2 ^ k : Nat) : Int) := by simp
theorem shl64 {x k : Nat} (hx : x < 4294967296) (hk : k < 32) : wrap64 ((x : Int) * 2 ^ k) = ((x * 2 ^ k : Nat) : Int) := by
  have h := shl_lt x k hx hk
  rw [cast_shl]
  exact wrap64_in (by unfold In64; omega)
theorem shr_lt (x k : Nat) (hx : x < 4294967296) : x / 2 ^ k < 4294967296 := Nat.lt_of_le_of_lt (Nat.div_le_self _ _) hx
theorem sb7 {x k : Nat} (hx : x < 4294967296) (hk : k < 32) : wrap32 (bits .or .i64 (wrap64 ((x : Int) * 2 ^ k)) ((x : Int) / 2 ^ (32 - k))) = wrap32 (rotl x k : Nat) := by
  have h := shl_lt x k hx hk
  have h2 := shr_lt x (32 - k) hx
  rw [shl64 hx hk, cast_shr, or64 _ _ (by omega) (by omega), rotl]
theorem sb8 {x k : Nat} (hx : x < 4294967296) (hk : k < 32) : wrap32 (bits .or .i64 ((x : Int) / 2 ^ k) (wrap64 ((x : Int) * 2 ^ (32 - k)))) = wrap32 (rotr x k : Nat) := by
  rcases Nat.eq_zero_or_pos k with rfl | h0
  · have h := or64_0 x hx
    have h2 : wrap32 ((rotr x 0 : Nat) : Int) = wrap32 (x : Int) := by
      have h3 := rotr0 x hx
      rw [← h3]
      have h4 : x / 2 ^ 32 = 0 := Nat.div_eq_of_lt (by omega)
      rw [h4]
      simp
      unfold wrap32
      omega
    rw [h2, ← h, IntKind.wrap_i64]
    unfold wrap64
    simp
  · have h := shl_lt x (32 - k) hx (by omega)
    have h2 := shr_lt x k hx
    rw [shl64 hx (by omega), cast_shr, or64 _ _ (by omega) (by omega), rotr]

theorem sbits (k a b : Int) (w : World) (hk : 1 ≤ k ∧ k ≤ 8) : Calls Tryz.prog 171 #[.int .i64 k, .int .i64 a, .int .i64 b] w fun e w' => e = .returned (.int .i64 (bits32 k a b)) ∧ Step w w' := by
  have h : k = 1 ∨ k = 2 ∨ k = 3 ∨ k = 4 ∨ k = 5 ∨ k = 6 ∨ k = 7 ∨ k = 8 := by omega
  clear hk
  have ha := u32n_eq a
  have hb := u32n_eq b
  have ha1 := u32n_lt a
  have hb1 := u32n_lt b
  rcases h with rfl | rfl | rfl | rfl | rfl | rfl | rfl | rfl
  all_goals go_enter Tryz.func171, Tryz.ntmps171
  · go_wp2_with (first | (go_at_call 96; (with_reducible refine Calls.mono (splain_any ..) ?_); rintro e wk ⟨rfl, rfl⟩) | (go_at_call 56; (with_reducible refine Calls.mono (swrap_any ..) ?_); rintro e wk ⟨rfl, rfl⟩))
    go_ret
    exact ⟨ret_int (by rw [and64 _ _ (by omega) (by omega), bits_1]), mkStep⟩
  · go_wp2_with (first | (go_at_call 96; (with_reducible refine Calls.mono (splain_any ..) ?_); rintro e wk ⟨rfl, rfl⟩) | (go_at_call 56; (with_reducible refine Calls.mono (swrap_any ..) ?_); rintro e wk ⟨rfl, rfl⟩))
    go_ret
    exact ⟨ret_int (by rw [or64 _ _ (by omega) (by omega), bits_2]), mkStep⟩
  · go_wp2_with (first | (go_at_call 96; (with_reducible refine Calls.mono (splain_any ..) ?_); rintro e wk ⟨rfl, rfl⟩) | (go_at_call 56; (with_reducible refine Calls.mono (swrap_any ..) ?_); rintro e wk ⟨rfl, rfl⟩))
    go_ret
    exact ⟨ret_int (by rw [xor64 _ _ (by omega) (by omega), bits_3]), mkStep⟩
  · go_wp2_with (first | (go_at_call 96; (with_reducible refine Calls.mono (splain_any ..) ?_); rintro e wk ⟨rfl, rfl⟩) | (go_at_call 56; (with_reducible refine Calls.mono (swrap_any ..) ?_); rintro e wk ⟨rfl, rfl⟩))
    go_ret
    exact ⟨ret_int (by rw [shl64 ha1 (by omega), bits_4]), mkStep⟩
  · go_wp2_with (first | (go_at_call 96; (with_reducible refine Calls.mono (splain_any ..) ?_); rintro e wk ⟨rfl, rfl⟩) | (go_at_call 56; (with_reducible refine Calls.mono (swrap_any ..) ?_); rintro e wk ⟨rfl, rfl⟩))
    go_ret
    exact ⟨ret_int (by rw [wrap32_id (shr_in (wrap32_in _) _), bits_5]), mkStep⟩
  · go_wp2_with (first | (go_at_call 96; (with_reducible refine Calls.mono (splain_any ..) ?_); rintro e wk ⟨rfl, rfl⟩) | (go_at_call 56; (with_reducible refine Calls.mono (swrap_any ..) ?_); rintro e wk ⟨rfl, rfl⟩))
    go_ret
    exact ⟨ret_int (by rw [cast_shr, bits_6]), mkStep⟩
  · go_wp2_with (first | (go_at_call 96; (with_reducible refine Calls.mono (splain_any ..) ?_); rintro e wk ⟨rfl, rfl⟩) | (go_at_call 56; (with_reducible refine Calls.mono (swrap_any ..) ?_); rintro e wk ⟨rfl, rfl⟩))
    refine rg_begin0 (n := 10) (by kernel_rfl) rfl fun rg0 => ?_
    refine rg_read (i := 0) (a1 := _) rfl (by kernel_rfl) rfl (by simp) (by intro wq hwq; go_wp2; exact ⟨rfl, rfl⟩) mkStep ?_
    refine rg_read (i := 1) (a1 := _) rfl (by kernel_rfl) rfl (by simp) (by intro wq hwq; go_wp2; exact ⟨rfl, rfl⟩) mkStep ?_
    refine rg_read (i := 2) (a1 := _) rfl (by kernel_rfl) rfl (by simp) (by intro wq hwq; go_wp2; exact ⟨rfl, rfl⟩) mkStep ?_
    refine rg_read (i := 3) (a1 := _) rfl (by kernel_rfl) rfl (by simp) (by intro wq hwq; go_wp2; exact ⟨rfl, rfl⟩) mkStep ?_
    refine rg_read (i := 4) (a1 := _) rfl (by kernel_rfl) rfl (by simp) (by intro wq hwq; go_wp2; exact ⟨rfl, rfl⟩) mkStep ?_
    refine rg_read (i := 5) (a1 := _) rfl (by kernel_rfl) rfl (by simp) (by intro wq hwq; go_wp2; exact ⟨rfl, rfl⟩) mkStep ?_
    refine rg_read (i := 6) (a1 := _) rfl (by kernel_rfl) rfl (by simp) (by intro wq hwq; go_wp2; exact ⟨rfl, rfl⟩) mkStep ?_
    refine rg_read (i := 7) (a1 := _) rfl (by kernel_rfl) rfl (by simp) (by intro wq hwq; go_wp2; exact ⟨rfl, rfl⟩) mkStep ?_
    refine rg_eff (i := 8) rfl (by kernel_rfl) ?_
    simp only [List.getElem_toArray, List.getElem_cons_succ, List.getElem_cons_zero]
    go_wp2_with (first | (go_at_call 56; (with_reducible refine Calls.mono (swrap_any ..) ?_); rintro e wk ⟨rfl, rfl⟩))
    refine ⟨mkStep, ?_⟩
    refine rg_read (i := 9) (a1 := _) rfl (by kernel_rfl) rfl (by simp) (by intro wq hwq; go_wp2; exact ⟨rfl, rfl⟩) mkStep ?_
    refine rg_done (by kernel_rfl) ?_
    go_wp2
    go_ret
    exact ⟨ret_int (by rw [sb7 ha1 (by omega), bits_7]), mkStep⟩
  · go_wp2_with (first | (go_at_call 96; (with_reducible refine Calls.mono (splain_any ..) ?_); rintro e wk ⟨rfl, rfl⟩) | (go_at_call 56; (with_reducible refine Calls.mono (swrap_any ..) ?_); rintro e wk ⟨rfl, rfl⟩))
    refine rg_begin0 (n := 10) (by kernel_rfl) rfl fun rg0 => ?_
    refine rg_read (i := 0) (a1 := _) rfl (by kernel_rfl) rfl (by simp) (by intro wq hwq; go_wp2; exact ⟨rfl, rfl⟩) mkStep ?_
    refine rg_read (i := 1) (a1 := _) rfl (by kernel_rfl) rfl (by simp) (by intro wq hwq; go_wp2; exact ⟨rfl, rfl⟩) mkStep ?_
    refine rg_read (i := 2) (a1 := _) rfl (by kernel_rfl) rfl (by simp) (by intro wq hwq; go_wp2; exact ⟨rfl, rfl⟩) mkStep ?_
    refine rg_read (i := 3) (a1 := _) rfl (by kernel_rfl) rfl (by simp) (by intro wq hwq; go_wp2; exact ⟨rfl, rfl⟩) mkStep ?_
    refine rg_read (i := 4) (a1 := _) rfl (by kernel_rfl) rfl (by simp) (by intro wq hwq; go_wp2; exact ⟨rfl, rfl⟩) mkStep ?_
    refine rg_read (i := 5) (a1 := _) rfl (by kernel_rfl) rfl (by simp) (by intro wq hwq; go_wp2; exact ⟨rfl, rfl⟩) mkStep ?_
    refine rg_read (i := 6) (a1 := _) rfl (by kernel_rfl) rfl (by simp) (by intro wq hwq; go_wp2; exact ⟨rfl, rfl⟩) mkStep ?_
    refine rg_read (i := 7) (a1 := _) rfl (by kernel_rfl) rfl (by simp) (by intro wq hwq; go_wp2; exact ⟨rfl, rfl⟩) mkStep ?_
    refine rg_eff (i := 8) rfl (by kernel_rfl) ?_
    simp only [List.getElem_toArray, List.getElem_cons_succ, List.getElem_cons_zero]
    go_wp2_with (first | (go_at_call 56; (with_reducible refine Calls.mono (swrap_any ..) ?_); rintro e wk ⟨rfl, rfl⟩))
    refine ⟨mkStep, ?_⟩
    refine rg_read (i := 9) (a1 := _) rfl (by kernel_rfl) rfl (by simp) (by intro wq hwq; go_wp2; exact ⟨rfl, rfl⟩) mkStep ?_
    refine rg_done (by kernel_rfl) ?_
    go_wp2
    go_ret
    exact ⟨ret_int (by rw [sb8 ha1 (by omega), bits_8]), mkStep⟩

theorem irot (x : Nat) (k : Int) (w : World) (hx : x < 4294967296) (hk : -32 < k ∧ k < 32) : Calls Tryz.prog 139 #[.int .u32 x, .int .i64 k] w fun e w' => e = .returned (.int .u32 ((x * 2 ^ (k % 32).toNat % 4294967296 ||| x / 2 ^ (32 - (k % 32).toNat) : Nat) : Int)) ∧ Step w w' := by
  have h1 := hk
  obtain ⟨j, hj⟩ : ∃ j : Nat, (k % 32).toNat = j := ⟨_, rfl⟩
  have hj1 : j < 32 := by omega
  have he : bits .and .u64 (IntKind.u64.wrap k) 31 = (j : Int) := by
    have e1 : IntKind.u64.wrap k = (((k % 18446744073709551616).toNat : Nat) : Int) := by rw [IntKind.wrap_u64]; omega
    have e2 := bits_and_u64_nat (k % 18446744073709551616).toNat 31 (by omega) (by omega)
    have e3 : (k % 18446744073709551616).toNat &&& 31 = (k % 18446744073709551616).toNat % 32 := Nat.and_two_pow_sub_one_eq_mod _ 5
    rw [e1]
    refine e2.trans ?_
    rw [e3]
    omega
  rw [hj]
  clear hk h1 hj
  go_enter Tryz.func139, Tryz.ntmps139
  go_wp2
  go_ret
  exact ⟨ret_int (by
    have h2 := shr_lt x (32 - j) hx
    have e4 : (x : Int) * 2 ^ j % 4294967296 = ((x * 2 ^ j % 4294967296 : Nat) : Int) := by rw [cast_shl]; omega
    rw [e4, cast_shr, or32 _ _ (Nat.mod_lt _ (by decide)) h2]), mkStep⟩

theorem ww (n : Int) : wrap64 (wrap32 n) = wrap32 n := by unfold wrap64 wrap32; omega
theorem wrap_mod2 (n : Int) : wrap32 (n % 4294967296) = wrap32 n := by unfold wrap32; omega
theorem ib8 (x y : Nat) (hx : x < 4294967296) : wrap32 ((x * 2 ^ (-((y : Int) % 32) % 32).toNat % 4294967296 ||| x / 2 ^ (32 - (-((y : Int) % 32) % 32).toNat) : Nat) : Int) = wrap32 (rotr x (y % 32) : Nat) := by
  rcases Nat.eq_zero_or_pos (y % 32) with h0 | h0
  · have e : (-((y : Int) % 32) % 32).toNat = 0 := by omega
    rw [e, h0]
    exact rotr0 x hx
  · have e : (-((y : Int) % 32) % 32).toNat = 32 - y % 32 := by omega
    rw [e]
    exact rotr32 x (y % 32) hx h0 (by omega)

theorem ibits (k a b : Int) (w : World) (hk : 1 ≤ k ∧ k ≤ 8) : Calls Tryz.prog 116 #[.int .i64 k, .int .i64 a, .int .i64 b] w fun e w' => e = .returned (.int .i64 (bits32 k a b)) ∧ Step w w' := by
  have h : k = 1 ∨ k = 2 ∨ k = 3 ∨ k = 4 ∨ k = 5 ∨ k = 6 ∨ k = 7 ∨ k = 8 := by omega
  clear hk
  have ha := u32n_eq a
  have hb := u32n_eq b
  have ha1 := u32n_lt a
  have hb1 := u32n_lt b
  rcases h with rfl | rfl | rfl | rfl | rfl | rfl | rfl | rfl
  all_goals go_enter Tryz.func116, Tryz.ntmps116
  · go_wp2_with (first | (go_at_call 89; (with_reducible refine Calls.mono (iwrap_any ..) ?_); rintro e wk ⟨rfl, rfl⟩) | (go_at_call 139; (with_reducible refine Calls.mono (irot _ _ _ (by omega) (by omega)) ?_); rintro e wk ⟨rfl, st⟩))
    go_ret
    exact ⟨ret_int (by rw [ww, and32 _ _ ha1 hb1, bits_1]), mkStep⟩
  · go_wp2_with (first | (go_at_call 89; (with_reducible refine Calls.mono (iwrap_any ..) ?_); rintro e wk ⟨rfl, rfl⟩) | (go_at_call 139; (with_reducible refine Calls.mono (irot _ _ _ (by omega) (by omega)) ?_); rintro e wk ⟨rfl, st⟩))
    go_ret
    exact ⟨ret_int (by rw [ww, or32 _ _ ha1 hb1, bits_2]), mkStep⟩
  · go_wp2_with (first | (go_at_call 89; (with_reducible refine Calls.mono (iwrap_any ..) ?_); rintro e wk ⟨rfl, rfl⟩) | (go_at_call 139; (with_reducible refine Calls.mono (irot _ _ _ (by omega) (by omega)) ?_); rintro e wk ⟨rfl, st⟩))
    go_ret
    exact ⟨ret_int (by rw [ww, xor32 _ _ ha1 hb1, bits_3]), mkStep⟩
  · go_wp2_with (first | (go_at_call 89; (with_reducible refine Calls.mono (iwrap_any ..) ?_); rintro e wk ⟨rfl, rfl⟩) | (go_at_call 139; (with_reducible refine Calls.mono (irot _ _ _ (by omega) (by omega)) ?_); rintro e wk ⟨rfl, st⟩))
    go_ret
    exact ⟨ret_int (by rw [ww, cast_shl, wrap_mod2, bits_4]), mkStep⟩
  · go_wp2_with (first | (go_at_call 89; (with_reducible refine Calls.mono (iwrap_any ..) ?_); rintro e wk ⟨rfl, rfl⟩) | (go_at_call 139; (with_reducible refine Calls.mono (irot _ _ _ (by omega) (by omega)) ?_); rintro e wk ⟨rfl, st⟩))
    go_ret
    exact ⟨ret_int (by rw [bits_5]), mkStep⟩
  · go_wp2_with (first | (go_at_call 89; (with_reducible refine Calls.mono (iwrap_any ..) ?_); rintro e wk ⟨rfl, rfl⟩) | (go_at_call 139; (with_reducible refine Calls.mono (irot _ _ _ (by omega) (by omega)) ?_); rintro e wk ⟨rfl, st⟩))
    go_ret
    exact ⟨ret_int (by rw [ww, cast_shr, bits_6]), mkStep⟩
  · go_wp2_with (first | (go_at_call 89; (with_reducible refine Calls.mono (iwrap_any ..) ?_); rintro e wk ⟨rfl, rfl⟩) | (go_at_call 139; (with_reducible refine Calls.mono (irot _ _ _ (by omega) (by omega)) ?_); rintro e wk ⟨rfl, st⟩))
    go_ret
    exact ⟨ret_int (by rw [ww, rotl32 _ _ ha1, bits_7]), mkStep⟩
  · go_wp2_with (first | (go_at_call 89; (with_reducible refine Calls.mono (iwrap_any ..) ?_); rintro e wk ⟨rfl, rfl⟩) | (go_at_call 139; (with_reducible refine Calls.mono (irot _ _ _ (by omega) (by omega)) ?_); rintro e wk ⟨rfl, st⟩))
    go_ret
    exact ⟨ret_int (by rw [ww, ib8 _ _ ha1, bits_8]), mkStep⟩

/-! ### One number -/

theorem bit_and (n : Nat) (h : n < 9223372036854775808) : bits .and .i64 (n : Int) 1 = ((n % 2 : Nat) : Int) := by
  have h1 := and64 n 1 h (by decide)
  rw [Nat.and_one_is_mod] at h1
  exact h1
theorem bit_at (x k : Nat) (hx : x < 4294967296) : bits .and .i64 ((x : Int) / 2 ^ k) 1 = ((x / 2 ^ k % 2 : Nat) : Int) := by
  have := shr_lt x k hx
  rw [cast_shr]
  exact bit_and _ (by omega)
theorem sclz (a : Int) (w : World) : Calls Tryz.prog 147 #[.int .i64 a] w fun e w' => e = .returned (.int .i64 (clz32 a)) ∧ Step w w' := by
  obtain ⟨x, hx⟩ : ∃ x, x = u32n a := ⟨_, rfl⟩
  have hx1 : x < 4294967296 := hx ▸ u32n_lt a
  have ha : a % 4294967296 = (x : Int) := hx ▸ u32n_eq a
  have hr : clz32 a = 32 - (Lib.bitLen x : Int) := by rw [hx]; rfl
  clear hx
  go_enter Tryz.func147, Tryz.ntmps147
  go_wp2
  go_loopw [3] (fun i wr => ∃ k : Nat, k ≤ 32 ∧ i = .int .i64 ((k : Int) - 1) ∧ Step w wr ∧ Hid (x < 2 ^ k)) (fun i _ => (intOf i + 1).toNat)
  case atStart => exact ⟨32, by omega, rfl, mkStep, hid (by omega)⟩
  case round =>
    obtain ⟨k, hk, rfl, st, hl⟩ := hrel
    cases k with
    | zero =>
      have h0 : x = 0 := by have := hl.out; simpa using this
      have hz := hid (show clz32 a = 32 by rw [hr, h0]; rfl)
      clear hr
      go_wp2_with (first | (go_at_call 96; (with_reducible refine Calls.mono (splain_any ..) ?_); rintro e wk ⟨rfl, rfl⟩))
      go_ret
      exact ⟨by rw [hz.out]; rfl, mkStep⟩
    | succ k =>
      have e1 : ((k + 1 : Nat) : Int) - 1 = (k : Int) := by omega
      have e3 := bit_at x k hx1
      rw [e1]
      rcases Nat.mod_two_eq_zero_or_one (x / 2 ^ k) with hb | hb
      · have h2 := hid (div_lt_pow x k hl.out hb)
        rw [hb] at e3
        clear hr hb
        go_wp2_with (first | (go_at_call 96; (with_reducible refine Calls.mono (splain_any ..) ?_); rintro e wk ⟨rfl, rfl⟩))
        go_roundw
        case rel => exact ⟨k, by omega, by go_num, mkStep, h2⟩
        case measure => simp [intOf]
      · have h2 := hid (show clz32 a = 31 - (k : Int) by rw [hr, bitLen_at k x (by omega) hl.out hb]; omega)
        rw [hb] at e3
        clear hr hb
        go_wp2_with (first | (go_at_call 96; (with_reducible refine Calls.mono (splain_any ..) ?_); rintro e wk ⟨rfl, rfl⟩))
        go_ret
        exact ⟨by rw [h2.out]; rfl, mkStep⟩

theorem sctz (a : Int) (w : World) : Calls Tryz.prog 148 #[.int .i64 a] w fun e w' => e = .returned (.int .i64 (ctz32 a)) ∧ Step w w' := by
  obtain ⟨x, hx⟩ : ∃ x, x = u32n a := ⟨_, rfl⟩
  have hx1 : x < 4294967296 := hx ▸ u32n_lt a
  have ha : a % 4294967296 = (x : Int) := hx ▸ u32n_eq a
  have hr : ctz32 a = (Lib.ctz 32 x : Int) := by rw [hx]; rfl
  clear hx
  go_enter Tryz.func148, Tryz.ntmps148
  go_wp2
  go_loopw [3] (fun i wr => ∃ k : Nat, k ≤ 32 ∧ i = .int .i64 (k : Int) ∧ Step w wr ∧ Hid (x % 2 ^ k = 0)) (fun i _ => 32 - (intOf i).toNat)
  case atStart => exact ⟨0, by omega, rfl, mkStep, hid (by simp [Nat.mod_one])⟩
  case round =>
    obtain ⟨k, hk, rfl, st, hl⟩ := hrel
    by_cases h32 : k < 32
    · have e3 := bit_at x k hx1
      rcases Nat.mod_two_eq_zero_or_one (x / 2 ^ k) with hb | hb
      · have h2 := hid (mod_pow_zero x k hl.out hb)
        rw [hb] at e3
        clear hr hb
        go_wp2_with (first | (go_at_call 96; (with_reducible refine Calls.mono (splain_any ..) ?_); rintro e wk ⟨rfl, rfl⟩))
        go_roundw
        case rel => exact ⟨k + 1, by omega, by go_num, mkStep, h2⟩
        case measure => simp [intOf]; omega
      · have h2 := hid (show ctz32 a = (k : Int) by rw [hr, ctz_at k x h32 hl.out hb])
        rw [hb] at e3
        clear hr hb
        go_wp2_with (first | (go_at_call 96; (with_reducible refine Calls.mono (splain_any ..) ?_); rintro e wk ⟨rfl, rfl⟩))
        go_ret
        exact ⟨by rw [h2.out]; rfl, mkStep⟩
    · obtain rfl : k = 32 := by omega
      have hz := hid (show ctz32 a = 32 by rw [hr, ctz_no x hx1 hl.out]; rfl)
      clear hr
      go_wp2_with (first | (go_at_call 96; (with_reducible refine Calls.mono (splain_any ..) ?_); rintro e wk ⟨rfl, rfl⟩))
      go_ret
      exact ⟨by rw [hz.out]; rfl, mkStep⟩

theorem spop (a : Int) (w : World) : Calls Tryz.prog 149 #[.int .i64 a] w fun e w' => e = .returned (.int .i64 (pop32 a)) ∧ Step w w' := by
  obtain ⟨x, hx⟩ : ∃ x, x = u32n a := ⟨_, rfl⟩
  have hx1 : x < 4294967296 := hx ▸ u32n_lt a
  have ha : a % 4294967296 = (x : Int) := hx ▸ u32n_eq a
  have hr : pop32 a = (Lib.popAux 32 x : Int) := by rw [hx]; rfl
  clear hx
  go_enter Tryz.func149, Tryz.ntmps149
  go_wp2
  go_loopw [3, 4] (fun p i wr => ∃ k n : Nat, k ≤ 32 ∧ n ≤ k ∧ p = .int .i64 (n : Int) ∧ i = .int .i64 (k : Int) ∧ Step w wr ∧ Hid (n = Lib.popAux k x)) (fun _ i _ => 32 - (intOf i).toNat)
  case atStart => exact ⟨0, 0, by omega, by omega, rfl, rfl, mkStep, hid rfl⟩
  case round =>
    obtain ⟨k, n, hk, hn, rfl, rfl, st, hl⟩ := hrel
    by_cases h32 : k < 32
    · have e3 := bit_at x k hx1
      have h2 := hid (popAux_succ k x)
      rcases Nat.mod_two_eq_zero_or_one (x / 2 ^ k) with hb | hb
      · rw [hb] at e3
        have h3 := hid (show n = Lib.popAux (k + 1) x by rw [h2.out, hb, hl.out]; rfl)
        clear hr hb h2
        go_wp2_with (first | (go_at_call 96; (with_reducible refine Calls.mono (splain_any ..) ?_); rintro e wk ⟨rfl, rfl⟩))
        go_roundw
        case rel => exact ⟨k + 1, n, by omega, by omega, by go_num, by go_num, mkStep, h3⟩
        case measure => simp [intOf]; omega
      · rw [hb] at e3
        have h3 := hid (show n + 1 = Lib.popAux (k + 1) x by rw [h2.out, hb, hl.out])
        clear hr hb h2
        go_wp2_with (first | (go_at_call 96; (with_reducible refine Calls.mono (splain_any ..) ?_); rintro e wk ⟨rfl, rfl⟩))
        go_roundw
        case rel => exact ⟨k + 1, n + 1, by omega, by omega, by go_num, by go_num, mkStep, h3⟩
        case measure => simp [intOf]; omega
    · obtain rfl : k = 32 := by omega
      have hz := hid (show pop32 a = (n : Int) by rw [hr, hl.out])
      clear hr
      go_wp2_with (first | (go_at_call 96; (with_reducible refine Calls.mono (splain_any ..) ?_); rintro e wk ⟨rfl, rfl⟩))
      go_ret
      exact ⟨by rw [hz.out]; rfl, mkStep⟩

theorem iclz (a : Int) (w : World) : Calls Tryz.prog 117 #[.int .i64 a] w fun e w' => e = .returned (.int .i64 (clz32 a)) ∧ Step w w' := by
  have ha := u32n_eq a
  have hr := hid (show clz32 a = 32 - (Lib.bitLen (u32n a) : Int) from rfl)
  have h1 := u32n_lt a
  have h2 := bitLen_le32 (u32n a) h1
  have hb := fun q : World => Tryz.bits_LeadingZeros32 (u32n a) q (by omega) (by omega)
  simp only [Int.toNat_natCast] at hb
  go_enter Tryz.func117, Tryz.ntmps117
  go_wp2_with (go_at_call 140; (with_reducible refine Calls.mono (hb _) ?_); rintro e wk ⟨rfl, rfl⟩)
  go_ret
  exact ⟨by rw [hr.out]; rfl, mkStep⟩

/-- The table of trailing zeros. -/
def tzTab : List Int := Lib.deBruijn32tab.map fun (n : Nat) => (n : Int)
def Tz (w : World) : Prop := Lib.TabIs Tryz.prog w "math/bits.deBruijn32tab" .u8 tzTab
class KnownTz (a : outParam World) : Prop where
  is : Tz a
class HasTz (w : World) : Prop where
  is : Tz w
instance hasTz {a w : World} [k : KnownTz a] [f : Fr0 a w] : HasTz w := ⟨tab_fr0 k.is f.fr⟩
theorem HasTz.known {w : World} (h : HasTz w) : KnownTz w := ⟨h.is⟩
theorem Tz.at {w : World} (h : Tz w) : TabAt (Tryz.laysTz_ren.g 0) Lib.deBruijn32tab w := by
  intro j hj
  have e := Lib.TabIs.cell h (g := Tryz.laysTz_ren.g 0) (by kernel_rfl) j (by simpa [tzTab] using hj)
  rw [e]
  simp [tzTab, List.getD, hj]
theorem ictz (a : Int) (w : World) [h : HasTz w] : Calls Tryz.prog 118 #[.int .i64 a] w fun e w' => e = .returned (.int .i64 (ctz32 a)) ∧ Step w w' := by
  have ha := u32n_eq a
  have hr := hid (show ctz32 a = (Lib.ctz 32 (u32n a) : Int) from rfl)
  have h1 := u32n_lt a
  have hb := Tryz.bits_TrailingZeros32 (u32n a) h1 w fun _ => h.is.at
  go_enter Tryz.func118, Tryz.ntmps118
  go_wp2_with (go_at_call 141; (with_reducible refine Calls.mono hb ?_); rintro e wk ⟨rfl, rfl⟩)
  go_ret
  exact ⟨by rw [hr.out]; rfl, mkStep⟩
end Go.Proofs.YtoffaobiikdflaaGreatDoor
