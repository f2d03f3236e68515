/- Contracts: arithmetic of 32 bits, both sides. Single bits of numbers of 32 bits: plain laws. Contracts: division of plain numbers, comparing, single bits, both sides. Contracts: single bits of numbers of 32 bits, both sides. Contracts: the ones of a number, impl's side. Shorter bodies, as plain data. Contracts: what one or two numbers come to, both sides. Rows of one's own: cells written over by append, copy and clear. Over any program. Contracts: spec's l15Work: a machine of one step. -/
import Derived.Test.YtnldaicibnkeoaaGreatDoorAuto
import Derived.Test.YtnldaicibnkeoaaGreatDoorNum
import Derived.Laws.Bits64b
import Derived.Lib.BitFns
import Derived.Lib.TrailingZeros
import Derived.Test.YtnldaicibnkeoaaGreatDoorText
import Derived.Shelf.Small.Bits
import Derived.Test.YtnldaicibnkeoaaGreatDoorInsOk
import Derived.Test.YtnldaicibnkeoaaGreatDoorWithin
import Derived.Test.YtnldaicibnkeoaaGreatDoorRow
import Derived.Laws.CopyRow
import Derived.Laws.CopyOwn
import Derived.Test.YtnldaicibnkeoaaGreatDoorMut
import Derived.Test.YtnldaicibnkeoaaGreatDoorShape
namespace Go.Proofs.YtnldaicibnkeoaaGreatDoor
attribute [local go_sem ↓] Go.wp_at_zero Go.wp_at_succ
open Go.RowKit
open Rep (Is sz)

def add32 (a b : Int) : Int := wrap32 (wrap32 a + wrap32 b)
def sub32 (a b : Int) : Int := wrap32 (wrap32 a - wrap32 b)
def mul32 (a b : Int) : Int := wrap32 (wrap32 a * wrap32 b)
theorem mul_lo {x y : Int} (h1 : -2147483648 ≤ x ∧ x ≤ 2147483647) (h2 : -2147483648 ≤ y ∧ y ≤ 2147483647) : -4611686018427387904 ≤ x * y ∧ x * y ≤ 4611686018427387904 := by
  have a1 : x.natAbs ≤ 2147483648 := by omega
  have a2 : y.natAbs ≤ 2147483648 := by omega
  have h := Nat.mul_le_mul a1 a2
  rw [← Int.natAbs_mul] at h
  omega
theorem iadd (a b : Int) (w : World) : Calls Tryz.prog 110 #[.int .i64 a, .int .i64 b] w fun e w' => e = .returned (.int .i64 (add32 a b)) ∧ Step w w' := by have h1 := wrap32_lo a; have h2 := wrap32_lo b; have h3 := mul_lo h1 h2; go_enter Tryz.func110, Tryz.ntmps110; go_wp2_with (first | (go_at_call 121; (with_reducible refine Calls.mono (iwrap_any ..) ?_); rintro e wk ⟨rfl, rfl⟩)); go_ret; exact ⟨rfl, mkStep⟩
theorem isub (a b : Int) (w : World) : Calls Tryz.prog 111 #[.int .i64 a, .int .i64 b] w fun e w' => e = .returned (.int .i64 (sub32 a b)) ∧ Step w w' := by have h1 := wrap32_lo a; have h2 := wrap32_lo b; have h3 := mul_lo h1 h2; go_enter Tryz.func111, Tryz.ntmps111; go_wp2_with (first | (go_at_call 121; (with_reducible refine Calls.mono (iwrap_any ..) ?_); rintro e wk ⟨rfl, rfl⟩)); go_ret; exact ⟨rfl, mkStep⟩
theorem imul (a b : Int) (w : World) : Calls Tryz.prog 112 #[.int .i64 a, .int .i64 b] w fun e w' => e = .returned (.int .i64 (mul32 a b)) ∧ Step w w' := by have h1 := wrap32_lo a; have h2 := wrap32_lo b; have h3 := mul_lo h1 h2; go_enter Tryz.func112, Tryz.ntmps112; go_wp2_with (first | (go_at_call 121; (with_reducible refine Calls.mono (iwrap_any ..) ?_); rintro e wk ⟨rfl, rfl⟩)); go_ret; exact ⟨rfl, mkStep⟩
theorem sadd (a b : Int) (w : World) : Calls Tryz.prog 137 #[.int .i64 a, .int .i64 b] w fun e w' => e = .returned (.int .i64 (add32 a b)) ∧ Step w w' := by have h1 := wrap32_lo a; have h2 := wrap32_lo b; have h3 := mul_lo h1 h2; go_enter Tryz.func137, Tryz.ntmps137; go_wp2_with (first | (go_at_call 36; (with_reducible refine Calls.mono (swrap_any ..) ?_); rintro e wk ⟨rfl, rfl⟩)); go_ret; exact ⟨rfl, mkStep⟩
theorem ssub (a b : Int) (w : World) : Calls Tryz.prog 138 #[.int .i64 a, .int .i64 b] w fun e w' => e = .returned (.int .i64 (sub32 a b)) ∧ Step w w' := by have h1 := wrap32_lo a; have h2 := wrap32_lo b; have h3 := mul_lo h1 h2; go_enter Tryz.func138, Tryz.ntmps138; go_wp2_with (first | (go_at_call 36; (with_reducible refine Calls.mono (swrap_any ..) ?_); rintro e wk ⟨rfl, rfl⟩)); go_ret; exact ⟨rfl, mkStep⟩
theorem smul (a b : Int) (w : World) : Calls Tryz.prog 139 #[.int .i64 a, .int .i64 b] w fun e w' => e = .returned (.int .i64 (mul32 a b)) ∧ Step w w' := by have h1 := wrap32_lo a; have h2 := wrap32_lo b; have h3 := mul_lo h1 h2; go_enter Tryz.func139, Tryz.ntmps139; go_wp2_with (first | (go_at_call 36; (with_reducible refine Calls.mono (swrap_any ..) ?_); rintro e wk ⟨rfl, rfl⟩)); go_ret; exact ⟨rfl, mkStep⟩
def divS32 (a b : Int) : Int × Int := if wrap32 b = 0 then (0, 2) else if wrap32 a = -2147483648 ∧ wrap32 b = -1 then (0, 3) else ((wrap32 a).tdiv (wrap32 b), 0)
def remS32 (a b : Int) : Int × Int := if wrap32 b = 0 then (0, 2) else ((wrap32 a).tmod (wrap32 b), 0)
def divU32 (a b : Int) : Int × Int := if b % 4294967296 = 0 then (0, 2) else (wrap32 (a % 4294967296 / (b % 4294967296)), 0)
def remU32 (a b : Int) : Int × Int := if b % 4294967296 = 0 then (0, 2) else (wrap32 (a % 4294967296 % (b % 4294967296)), 0)
theorem tdiv_lo {x y : Int} (h1 : -2147483648 ≤ x ∧ x ≤ 2147483647) : -2147483648 ≤ x.tdiv y ∧ x.tdiv y ≤ 2147483648 := by
  have h : (x.tdiv y).natAbs ≤ x.natAbs := by rw [Int.natAbs_tdiv]; exact Nat.div_le_self _ _
  omega
theorem divmin (x y : Int) (h : x = -2147483648) : wrap64 (-Int.tdiv 2147483648 y) = x.tdiv y := by
  have h3 := tdiv_lo (x := -2147483648) (y := y) (by omega)
  subst h
  rw [Int.neg_tdiv] at h3 ⊢
  exact wrap64_in (by unfold In64; omega)
theorem tmod_lo {x y : Int} (h1 : -2147483648 ≤ x ∧ x ≤ 2147483647) : -2147483648 ≤ x.tmod y ∧ x.tmod y ≤ 2147483648 := by
  have h : (x.tmod y).natAbs ≤ x.natAbs := by rw [Int.natAbs_tmod]; exact Nat.mod_le _ _
  omega
theorem idivs (a b : Int) (w : World) : Calls Tryz.prog 113 #[.int .i64 a, .int .i64 b] w fun e w' => e = .returned (.tuple #[.int .i64 (divS32 a b).1, .int .i64 (divS32 a b).2]) ∧ Step w w' := by have h1 := wrap32_lo a; have h3 := tdiv_lo (y := wrap32 b) h1; unfold divS32; go_enter Tryz.func113, Tryz.ntmps113; by_cases c1 : wrap32 b = 0; (focus (simp only [if_pos c1]; go_wp2_with (first | (go_at_call 121; (with_reducible refine Calls.mono (iwrap_any ..) ?_); rintro e wk ⟨rfl, rfl⟩)); go_ret2; exact ⟨rfl, mkStep⟩)); (focus (by_cases c2 : wrap32 a = -2147483648 ∧ wrap32 b = -1; (focus (simp only [if_neg c1, if_pos c2]; obtain ⟨c3, c4⟩ := c2; go_wp2_with (first | (go_at_call 121; (with_reducible refine Calls.mono (iwrap_any ..) ?_); rintro e wk ⟨rfl, rfl⟩)); go_ret2; exact ⟨rfl, mkStep⟩)); (focus (simp only [if_neg c1, if_neg c2]; by_cases c3 : wrap32 a = -2147483648; (focus (have c4 : ¬ wrap32 b = -1 := fun h => c2 ⟨c3, h⟩; have h5 := hid (divmin (wrap32 a) (wrap32 b) c3); clear c2 h3; go_wp2_with (first | (go_at_call 121; (with_reducible refine Calls.mono (iwrap_any ..) ?_); rintro e wk ⟨rfl, rfl⟩)); all_goals (go_ret2; exact ⟨by rw [← h5.out]; rfl, mkStep⟩))); (focus (clear c2; go_wp2_with (first | (go_at_call 121; (with_reducible refine Calls.mono (iwrap_any ..) ?_); rintro e wk ⟨rfl, rfl⟩)); all_goals (go_ret2; exact ⟨rfl, mkStep⟩)))))))
theorem sdivs (a b : Int) (w : World) : Calls Tryz.prog 140 #[.int .i64 a, .int .i64 b] w fun e w' => e = .returned (.tuple #[.int .i64 (divS32 a b).1, .int .i64 (divS32 a b).2]) ∧ Step w w' := by have h1 := wrap32_lo a; have h3 := tdiv_lo (y := wrap32 b) h1; unfold divS32; go_enter Tryz.func140, Tryz.ntmps140; by_cases c1 : wrap32 b = 0; (focus (simp only [if_pos c1]; go_wp2_with (first | (go_at_call 36; (with_reducible refine Calls.mono (swrap_any ..) ?_); rintro e wk ⟨rfl, rfl⟩)); go_ret2; exact ⟨rfl, mkStep⟩)); (focus (by_cases c2 : wrap32 a = -2147483648 ∧ wrap32 b = -1; (focus (simp only [if_neg c1, if_pos c2]; obtain ⟨c3, c4⟩ := c2; go_wp2_with (first | (go_at_call 36; (with_reducible refine Calls.mono (swrap_any ..) ?_); rintro e wk ⟨rfl, rfl⟩)); go_ret2; exact ⟨rfl, mkStep⟩)); (focus (simp only [if_neg c1, if_neg c2]; by_cases c3 : wrap32 a = -2147483648; (focus (have c4 : ¬ wrap32 b = -1 := fun h => c2 ⟨c3, h⟩; have h5 := hid (divmin (wrap32 a) (wrap32 b) c3); clear c2 h3; go_wp2_with (first | (go_at_call 36; (with_reducible refine Calls.mono (swrap_any ..) ?_); rintro e wk ⟨rfl, rfl⟩)); all_goals (go_ret2; exact ⟨by rw [← h5.out]; rfl, mkStep⟩))); (focus (clear c2; go_wp2_with (first | (go_at_call 36; (with_reducible refine Calls.mono (swrap_any ..) ?_); rintro e wk ⟨rfl, rfl⟩)); all_goals (go_ret2; exact ⟨rfl, mkStep⟩)))))))
theorem irems (a b : Int) (w : World) : Calls Tryz.prog 115 #[.int .i64 a, .int .i64 b] w fun e w' => e = .returned (.tuple #[.int .i64 (remS32 a b).1, .int .i64 (remS32 a b).2]) ∧ Step w w' := by have h1 := wrap32_lo a; have h3 := tmod_lo (y := wrap32 b) h1; unfold remS32; go_enter Tryz.func115, Tryz.ntmps115; by_cases c1 : wrap32 b = 0; (focus (simp only [if_pos c1]; go_wp2_with (first | (go_at_call 121; (with_reducible refine Calls.mono (iwrap_any ..) ?_); rintro e wk ⟨rfl, rfl⟩)); go_ret2; exact ⟨rfl, mkStep⟩)); (focus (simp only [if_neg c1]; go_wp2_with (first | (go_at_call 121; (with_reducible refine Calls.mono (iwrap_any ..) ?_); rintro e wk ⟨rfl, rfl⟩)); go_ret2; exact ⟨rfl, mkStep⟩))
theorem srems (a b : Int) (w : World) : Calls Tryz.prog 142 #[.int .i64 a, .int .i64 b] w fun e w' => e = .returned (.tuple #[.int .i64 (remS32 a b).1, .int .i64 (remS32 a b).2]) ∧ Step w w' := by have h1 := wrap32_lo a; have h3 := tmod_lo (y := wrap32 b) h1; unfold remS32; go_enter Tryz.func142, Tryz.ntmps142; by_cases c1 : wrap32 b = 0; (focus (simp only [if_pos c1]; go_wp2_with (first | (go_at_call 36; (with_reducible refine Calls.mono (swrap_any ..) ?_); rintro e wk ⟨rfl, rfl⟩)); go_ret2; exact ⟨rfl, mkStep⟩)); (focus (simp only [if_neg c1]; go_wp2_with (first | (go_at_call 36; (with_reducible refine Calls.mono (swrap_any ..) ?_); rintro e wk ⟨rfl, rfl⟩)); go_ret2; exact ⟨rfl, mkStep⟩))
end Go.Proofs.YtnldaicibnkeoaaGreatDoor
namespace Go.Proofs.YtnldaicibnkeoaaGreatDoor
open Go.RowKit
open Rep (Is sz)

def u32n (a : Int) : Nat := (a % 4294967296).toNat
theorem u32n_lt (a : Int) : u32n a < 4294967296 := by unfold u32n; omega
theorem u32n_eq (a : Int) : a % 4294967296 = (u32n a : Int) := by unfold u32n; omega

theorem bv_nat (m a : Nat) (h : a < 2 ^ m) : (BitVec.ofInt m (a : Int)).toNat = a := by
  rw [BitVec.ofInt_natCast, BitVec.toNat_ofNat]; exact Nat.mod_eq_of_lt h
theorem and64 (a b : Nat) (ha : a < 9223372036854775808) (hb : b < 9223372036854775808) : bits .and .i64 (a : Int) (b : Int) = ((a &&& b : Nat) : Int) := by
  have hx : a &&& b < 2 ^ 63 := Nat.and_lt_two_pow _ (by omega)
  show IntKind.i64.wrap ((BitVec.ofInt 64 (a : Int) &&& BitVec.ofInt 64 (b : Int)).toNat : Int) = _
  rw [BitVec.toNat_and, bv_nat 64 a (by omega), bv_nat 64 b (by omega), IntKind.wrap_i64]
  omega
theorem or64 (a b : Nat) (ha : a < 9223372036854775808) (hb : b < 9223372036854775808) : bits .or .i64 (a : Int) (b : Int) = ((a ||| b : Nat) : Int) := by
  have hx : a ||| b < 2 ^ 63 := Nat.or_lt_two_pow (by omega) (by omega)
  show IntKind.i64.wrap ((BitVec.ofInt 64 (a : Int) ||| BitVec.ofInt 64 (b : Int)).toNat : Int) = _
  rw [BitVec.toNat_or, bv_nat 64 a (by omega), bv_nat 64 b (by omega), IntKind.wrap_i64]
  omega
theorem xor64 (a b : Nat) (ha : a < 9223372036854775808) (hb : b < 9223372036854775808) : bits .xor .i64 (a : Int) (b : Int) = ((a ^^^ b : Nat) : Int) := by
  have hx : a ^^^ b < 2 ^ 63 := Nat.xor_lt_two_pow (by omega) (by omega)
  show IntKind.i64.wrap ((BitVec.ofInt 64 (a : Int) ^^^ BitVec.ofInt 64 (b : Int)).toNat : Int) = _
  rw [BitVec.toNat_xor, bv_nat 64 a (by omega), bv_nat 64 b (by omega), IntKind.wrap_i64]
  omega
theorem u32wrap (n : Int) : IntKind.u32.wrap n = n % 4294967296 := by simp [IntKind.wrap, IntKind.signed, IntKind.bits]
theorem and32 (a b : Nat) (ha : a < 4294967296) (hb : b < 4294967296) : bits .and .u32 (a : Int) (b : Int) = ((a &&& b : Nat) : Int) := by
  have hx : a &&& b < 2 ^ 32 := Nat.and_lt_two_pow _ (by omega)
  show IntKind.u32.wrap ((BitVec.ofInt 32 (a : Int) &&& BitVec.ofInt 32 (b : Int)).toNat : Int) = _
  rw [BitVec.toNat_and, bv_nat 32 a (by omega), bv_nat 32 b (by omega), u32wrap]
  omega
theorem or32 (a b : Nat) (ha : a < 4294967296) (hb : b < 4294967296) : bits .or .u32 (a : Int) (b : Int) = ((a ||| b : Nat) : Int) := by
  have hx : a ||| b < 2 ^ 32 := Nat.or_lt_two_pow (by omega) (by omega)
  show IntKind.u32.wrap ((BitVec.ofInt 32 (a : Int) ||| BitVec.ofInt 32 (b : Int)).toNat : Int) = _
  rw [BitVec.toNat_or, bv_nat 32 a (by omega), bv_nat 32 b (by omega), u32wrap]
  omega
theorem xor32 (a b : Nat) (ha : a < 4294967296) (hb : b < 4294967296) : bits .xor .u32 (a : Int) (b : Int) = ((a ^^^ b : Nat) : Int) := by
  have hx : a ^^^ b < 2 ^ 32 := Nat.xor_lt_two_pow (by omega) (by omega)
  show IntKind.u32.wrap ((BitVec.ofInt 32 (a : Int) ^^^ BitVec.ofInt 32 (b : Int)).toNat : Int) = _
  rw [BitVec.toNat_xor, bv_nat 32 a (by omega), bv_nat 32 b (by omega), u32wrap]
  omega
/-- x turned to the left by k; only the lowest 32 bits count. -/
def rotl (x k : Nat) : Nat := x * 2 ^ k ||| x / 2 ^ (32 - k)
def rotr (x k : Nat) : Nat := x / 2 ^ k ||| x * 2 ^ (32 - k)
theorem wrap_mod (n : Nat) : wrap32 ((n % 4294967296 : Nat) : Int) = wrap32 (n : Int) := by unfold wrap32; omega
theorem or_mod (x y : Nat) : (x % 4294967296 ||| y % 4294967296) = (x ||| y) % 4294967296 := (Nat.or_mod_two_pow (n := 32)).symm
theorem rotl32 (x k : Nat) (hx : x < 4294967296) : wrap32 ((x * 2 ^ k % 4294967296 ||| x / 2 ^ (32 - k) : Nat) : Int) = wrap32 (rotl x k : Nat) := by
  have h1 : x / 2 ^ (32 - k) < 4294967296 := Nat.lt_of_le_of_lt (Nat.div_le_self _ _) hx
  rw [← wrap_mod (rotl x k), rotl, ← or_mod, Nat.mod_eq_of_lt h1]
theorem rotr32 (x k : Nat) (hx : x < 4294967296) (hk : 0 < k) (hk2 : k < 32) : wrap32 ((x * 2 ^ (32 - k) % 4294967296 ||| x / 2 ^ (32 - (32 - k)) : Nat) : Int) = wrap32 (rotr x k : Nat) := by
  have h1 : x / 2 ^ k < 4294967296 := Nat.lt_of_le_of_lt (Nat.div_le_self _ _) hx
  rw [← wrap_mod (rotr x k), rotr, ← or_mod, Nat.mod_eq_of_lt h1, Nat.or_comm, show 32 - (32 - k) = k by omega]
theorem rotr0 (x : Nat) (hx : x < 4294967296) : wrap32 ((x * 2 ^ 0 % 4294967296 ||| x / 2 ^ 32 : Nat) : Int) = wrap32 (rotr x 0 : Nat) := by
  have h1 : x / 2 ^ 32 = 0 := Nat.div_eq_of_lt (by omega)
  have h2 : x * 2 ^ 32 % 4294967296 = 0 := by omega
  rw [← wrap_mod (rotr x 0), rotr, ← or_mod, h1]
  simp [h2]
theorem shl_lt (x k : Nat) (hx : x < 4294967296) (hk : k < 32) : x * 2 ^ k < 9223372036854775808 := by
  have h1 : 2 ^ k ≤ 2 ^ 31 := Nat.pow_le_pow_right (by decide) (by omega)
  calc x * 2 ^ k ≤ x * 2 ^ 31 := Nat.mul_le_mul_left _ h1
    _ < 9223372036854775808 := by omega
theorem shl_lt' (x k : Nat) (hx : x < 4294967296) (hk : k ≤ 32) : x * 2 ^ k < 18446744073709551616 := by
  have h1 : 2 ^ k ≤ 2 ^ 32 := Nat.pow_le_pow_right (by decide) (by omega)
  calc x * 2 ^ k ≤ x * 2 ^ 32 := Nat.mul_le_mul_left _ h1
    _ < 18446744073709551616 := by omega
theorem or64_0 (x : Nat) (hx : x < 4294967296) : wrap32 (bits .or .i64 (x : Int) (IntKind.i64.wrap ((x : Int) * 2 ^ 32))) = wrap32 (x : Nat) := by
  have e : (BitVec.ofInt 64 (IntKind.i64.wrap ((x : Int) * 2 ^ 32))).toNat = x * 2 ^ 32 := by
    rw [BitVec.toNat_ofInt, IntKind.wrap_i64]
    omega
  show wrap32 (IntKind.i64.wrap ((BitVec.ofInt 64 (x : Int) ||| BitVec.ofInt 64 (IntKind.i64.wrap ((x : Int) * 2 ^ 32))).toNat : Int)) = _
  rw [BitVec.toNat_or, bv_nat 64 x (by omega), e, IntKind.wrap_i64]
  have h := or_mod x (x * 2 ^ 32)
  have h2 : x * 2 ^ 32 % 4294967296 = 0 := by omega
  rw [h2, Nat.mod_eq_of_lt hx, Nat.or_zero] at h
  unfold wrap32
  omega
theorem bitLenAux_at : ∀ (i f x : Nat), i < f → x < 2 ^ (i + 1) → x / 2 ^ i % 2 = 1 → Lib.bitLenAux f x = i + 1
  | 0, f + 1, x, _, h1, h2 => by
    have e : x = 1 := by simp at h1 h2; omega
    subst e
    rw [Lib.bitLenAux, if_neg (by decide)]
    cases f <;> simp [Lib.bitLenAux]
  | i + 1, f + 1, x, h, h1, h2 => by
    have e : x / 2 / 2 ^ i = x / 2 ^ (i + 1) := by rw [Nat.div_div_eq_div_mul, Nat.pow_succ, Nat.mul_comm]
    have h3 : x ≠ 0 := by rintro rfl; simp at h2
    rw [Lib.bitLenAux, if_neg h3, bitLenAux_at i f (x / 2) (by omega) (by rw [Nat.pow_succ] at h1; omega) (by rw [e]; exact h2)]
    omega
theorem ctzFrom_at : ∀ (i f x : Nat), i < f → x % 2 ^ i = 0 → x / 2 ^ i % 2 = 1 → Lib.ctzFrom f x = i
  | 0, f + 1, x, _, _, h2 => by
    rw [Lib.ctzFrom, if_pos (by simpa using h2)]
  | i + 1, f + 1, x, h, h1, h2 => by
    have e : x / 2 / 2 ^ i = x / 2 ^ (i + 1) := by rw [Nat.div_div_eq_div_mul, Nat.pow_succ, Nat.mul_comm]
    have e2 : x % 2 ^ (i + 1) = x % 2 + 2 * (x / 2 % 2 ^ i) := by rw [Nat.pow_succ, Nat.mul_comm, Nat.mod_mul]
    rw [Lib.ctzFrom, if_neg (by omega), ctzFrom_at i f (x / 2) (by omega) (by omega) (by rw [e]; exact h2)]
    omega
theorem popAux_succ : ∀ (i x : Nat), Lib.popAux (i + 1) x = Lib.popAux i x + x / 2 ^ i % 2
  | 0, x => by simp [Lib.popAux]
  | i + 1, x => by
    have e : x / 2 / 2 ^ i = x / 2 ^ (i + 1) := by rw [Nat.div_div_eq_div_mul, Nat.pow_succ, Nat.mul_comm]
    rw [Lib.popAux, popAux_succ i (x / 2), Lib.popAux, e]
    omega
theorem popAux_add : ∀ (i j x : Nat), Lib.popAux (i + j) x = Lib.popAux i (x % 2 ^ i) + Lib.popAux j (x / 2 ^ i)
  | 0, j, x => by simp [Lib.popAux]
  | i + 1, j, x => by
    have e : x / 2 / 2 ^ i = x / 2 ^ (i + 1) := by rw [Nat.div_div_eq_div_mul, Nat.pow_succ, Nat.mul_comm]
    have e2 : x % 2 ^ (i + 1) = x % 2 + 2 * (x / 2 % 2 ^ i) := by rw [Nat.pow_succ, Nat.mul_comm, Nat.mod_mul]
    rw [show i + 1 + j = (i + j) + 1 by omega, Lib.popAux, popAux_add i j (x / 2), Lib.popAux, e, e2]
    have e3 : (x % 2 + 2 * (x / 2 % 2 ^ i)) % 2 = x % 2 := by omega
    have e4 : (x % 2 + 2 * (x / 2 % 2 ^ i)) / 2 = x / 2 % 2 ^ i := by omega
    rw [e3, e4]
    omega
theorem popAux_le : ∀ (i x : Nat), Lib.popAux i x ≤ i
  | 0, _ => Nat.le_refl _
  | i + 1, x => by have := popAux_le i (x / 2); rw [Lib.popAux]; omega
theorem popAux_zero : ∀ i : Nat, Lib.popAux i 0 = 0
  | 0 => rfl
  | i + 1 => by rw [Lib.popAux]; simp [popAux_zero i]
/-- The ones of a byte. -/
theorem popAux_8 (x : Nat) (h : x < 256) : Lib.popAux 64 x = Lib.popAux 8 x := by
  rw [show (64 : Nat) = 8 + 56 from rfl, popAux_add, Nat.mod_eq_of_lt h, Nat.div_eq_of_lt (by omega), popAux_zero]
  rfl
theorem popAux_32 (x : Nat) (h : x < 4294967296) : Lib.popAux 32 x = Lib.popAux 64 (x / 16777216) + Lib.popAux 64 (x / 65536 % 256) + Lib.popAux 64 (x / 256 % 256) + Lib.popAux 64 (x % 256) := by
  rw [popAux_8 (x / 16777216) (by omega), popAux_8 _ (Nat.mod_lt _ (by decide)), popAux_8 _ (Nat.mod_lt _ (by decide)), popAux_8 _ (Nat.mod_lt _ (by decide))]
  rw [show (32 : Nat) = 8 + (8 + (8 + 8)) from rfl, popAux_add, popAux_add 8 (8 + 8), popAux_add 8 8]
  have e1 : x / 2 ^ 8 / 2 ^ 8 = x / 65536 := by omega
  have e2 : x / 2 ^ 8 / 2 ^ 8 / 2 ^ 8 = x / 16777216 := by omega
  rw [e1] at *
  have e3 : x / 65536 / 2 ^ 8 = x / 16777216 := by omega
  rw [e3]
  show Lib.popAux 8 (x % 256) + (Lib.popAux 8 (x / 256 % 256) + (Lib.popAux 8 (x / 65536 % 256) + Lib.popAux 8 (x / 16777216))) = _
  omega
theorem ctz_at (i x : Nat) (hi : i < 32) (h1 : x % 2 ^ i = 0) (h2 : x / 2 ^ i % 2 = 1) : Lib.ctz 32 x = i := by
  have h3 : x ≠ 0 := by rintro rfl; simp at h2
  rw [Lib.ctz, if_neg h3, ctzFrom_at i 32 x hi h1 h2]
theorem ctz_no (x : Nat) (hx : x < 4294967296) (h1 : x % 2 ^ 32 = 0) : Lib.ctz 32 x = 32 := by
  have e : x = 0 := by omega
  subst e
  rfl
theorem ctz_le (x : Nat) : Lib.ctz 32 x ≤ 32 := by
  have h : ∀ f y, Lib.ctzFrom f y ≤ f := by
    intro f
    induction f with
    | zero => intro y; exact Nat.le_refl _
    | succ f ih => intro y; rw [Lib.ctzFrom]; split; exact Nat.zero_le _; have := ih (y / 2); omega
  unfold Lib.ctz
  split
  · exact Nat.le_refl _
  · exact h _ _
theorem bitLen_at (i x : Nat) (hi : i < 32) (h1 : x < 2 ^ (i + 1)) (h2 : x / 2 ^ i % 2 = 1) : Lib.bitLen x = i + 1 := bitLenAux_at i 64 x (by omega) h1 h2
theorem bitLen_le32 (x : Nat) (hx : x < 4294967296) : Lib.bitLen x ≤ 32 := by
  have h : ∀ f k y, y < 2 ^ k → Lib.bitLenAux f y ≤ k := by
    intro f
    induction f with
    | zero => intro k y _; exact Nat.zero_le _
    | succ f ih =>
      intro k y hy
      rw [Lib.bitLenAux]
      split
      · exact Nat.zero_le _
      · cases k with
        | zero => simp at hy; omega
        | succ k => have := ih k (y / 2) (by rw [Nat.pow_succ] at hy; omega); omega
  exact h 64 32 x (by omega)
theorem div_lt_pow (x i : Nat) (h1 : x < 2 ^ (i + 1)) (h2 : x / 2 ^ i % 2 = 0) : x < 2 ^ i := by
  have h3 : x / 2 ^ i < 2 := by rw [Nat.div_lt_iff_lt_mul (Nat.two_pow_pos i), Nat.mul_comm]; rw [Nat.pow_succ] at h1; exact h1
  have h4 : x / 2 ^ i = 0 := by generalize x / 2 ^ i = q at h2 h3; omega
  rcases Nat.div_eq_zero_iff.1 h4 with h5 | h5
  · exact absurd h5 (by have := Nat.two_pow_pos i; omega)
  · exact h5
theorem mod_pow_zero (x i : Nat) (h1 : x % 2 ^ i = 0) (h2 : x / 2 ^ i % 2 = 0) : x % 2 ^ (i + 1) = 0 := by
  rw [Nat.pow_succ, Nat.mod_mul, h1, h2]; rfl
end Go.Proofs.YtnldaicibnkeoaaGreatDoor
namespace Go.Proofs.YtnldaicibnkeoaaGreatDoor
attribute [local go_sem ↓] Go.wp_at_zero Go.wp_at_succ
open Go.RowKit
open Rep (Is sz)

theorem div_lo {x y : Int} (h0 : 0 ≤ x) (h1 : x ≤ 4294967295) (h2 : 0 ≤ y) : 0 ≤ x / y ∧ x / y ≤ 4294967295 :=
  ⟨Int.ediv_nonneg h0 h2, Int.le_trans (Int.ediv_le_self _ h0) h1⟩
theorem mod_lo {x y : Int} (_ : 0 ≤ x) (_ : x ≤ 4294967295) (h2 : 0 ≤ y) (h3 : ¬ y = 0) : 0 ≤ x % y ∧ x % y < y :=
  ⟨Int.emod_nonneg _ h3, Int.emod_lt_of_pos _ (by omega)⟩
theorem idivu (a b : Int) (w : World) : Calls Tryz.prog 114 #[.int .i64 a, .int .i64 b] w fun e w' => e = .returned (.tuple #[.int .i64 (divU32 a b).1, .int .i64 (divU32 a b).2]) ∧ Step w w' := by unfold divU32; go_enter Tryz.func114, Tryz.ntmps114; by_cases c1 : b % 4294967296 = 0; (focus (simp only [if_pos c1]; go_wp2_with (first | (go_at_call 130; (with_reducible refine Calls.mono (iplain_any ..) ?_); rintro e wk ⟨rfl, rfl⟩) | (go_at_call 121; (with_reducible refine Calls.mono (iwrap_any ..) ?_); rintro e wk ⟨rfl, rfl⟩)); go_ret2; exact ⟨rfl, mkStep⟩)); (focus (simp only [if_neg c1]; have h0 : 0 ≤ a % 4294967296 := (by omega); have h1 : 0 ≤ b % 4294967296 := (by omega); have h2 : a % 4294967296 ≤ 4294967295 := (by omega); have h3 : b % 4294967296 ≤ 4294967295 := (by omega); have h4 := div_lo h0 h2 h1; have h5 := mod_lo h0 h2 h1 c1; go_wp2_with (first | (go_at_call 130; (with_reducible refine Calls.mono (iplain_any ..) ?_); rintro e wk ⟨rfl, rfl⟩) | (go_at_call 121; (with_reducible refine Calls.mono (iwrap_any ..) ?_); rintro e wk ⟨rfl, rfl⟩)); go_ret2; exact ⟨rfl, mkStep⟩))
theorem sdivu (a b : Int) (w : World) : Calls Tryz.prog 141 #[.int .i64 a, .int .i64 b] w fun e w' => e = .returned (.tuple #[.int .i64 (divU32 a b).1, .int .i64 (divU32 a b).2]) ∧ Step w w' := by unfold divU32; go_enter Tryz.func141, Tryz.ntmps141; by_cases c1 : b % 4294967296 = 0; (focus (simp only [if_pos c1]; go_wp2_with (first | (go_at_call 60; (with_reducible refine Calls.mono (splain_any ..) ?_); rintro e wk ⟨rfl, rfl⟩) | (go_at_call 36; (with_reducible refine Calls.mono (swrap_any ..) ?_); rintro e wk ⟨rfl, rfl⟩)); go_ret2; exact ⟨rfl, mkStep⟩)); (focus (simp only [if_neg c1]; have h0 : 0 ≤ a % 4294967296 := (by omega); have h1 : 0 ≤ b % 4294967296 := (by omega); have h2 : a % 4294967296 ≤ 4294967295 := (by omega); have h3 : b % 4294967296 ≤ 4294967295 := (by omega); have h4 := div_lo h0 h2 h1; have h5 := mod_lo h0 h2 h1 c1; go_wp2_with (first | (go_at_call 60; (with_reducible refine Calls.mono (splain_any ..) ?_); rintro e wk ⟨rfl, rfl⟩) | (go_at_call 36; (with_reducible refine Calls.mono (swrap_any ..) ?_); rintro e wk ⟨rfl, rfl⟩)); go_ret2; exact ⟨rfl, mkStep⟩))
theorem iremu (a b : Int) (w : World) : Calls Tryz.prog 116 #[.int .i64 a, .int .i64 b] w fun e w' => e = .returned (.tuple #[.int .i64 (remU32 a b).1, .int .i64 (remU32 a b).2]) ∧ Step w w' := by unfold remU32; go_enter Tryz.func116, Tryz.ntmps116; by_cases c1 : b % 4294967296 = 0; (focus (simp only [if_pos c1]; go_wp2_with (first | (go_at_call 130; (with_reducible refine Calls.mono (iplain_any ..) ?_); rintro e wk ⟨rfl, rfl⟩) | (go_at_call 121; (with_reducible refine Calls.mono (iwrap_any ..) ?_); rintro e wk ⟨rfl, rfl⟩)); go_ret2; exact ⟨rfl, mkStep⟩)); (focus (simp only [if_neg c1]; have h0 : 0 ≤ a % 4294967296 := (by omega); have h1 : 0 ≤ b % 4294967296 := (by omega); have h2 : a % 4294967296 ≤ 4294967295 := (by omega); have h3 : b % 4294967296 ≤ 4294967295 := (by omega); have h4 := div_lo h0 h2 h1; have h5 := mod_lo h0 h2 h1 c1; go_wp2_with (first | (go_at_call 130; (with_reducible refine Calls.mono (iplain_any ..) ?_); rintro e wk ⟨rfl, rfl⟩) | (go_at_call 121; (with_reducible refine Calls.mono (iwrap_any ..) ?_); rintro e wk ⟨rfl, rfl⟩)); go_ret2; exact ⟨rfl, mkStep⟩))
theorem sremu (a b : Int) (w : World) : Calls Tryz.prog 143 #[.int .i64 a, .int .i64 b] w fun e w' => e = .returned (.tuple #[.int .i64 (remU32 a b).1, .int .i64 (remU32 a b).2]) ∧ Step w w' := by unfold remU32; go_enter Tryz.func143, Tryz.ntmps143; by_cases c1 : b % 4294967296 = 0; (focus (simp only [if_pos c1]; go_wp2_with (first | (go_at_call 60; (with_reducible refine Calls.mono (splain_any ..) ?_); rintro e wk ⟨rfl, rfl⟩) | (go_at_call 36; (with_reducible refine Calls.mono (swrap_any ..) ?_); rintro e wk ⟨rfl, rfl⟩)); go_ret2; exact ⟨rfl, mkStep⟩)); (focus (simp only [if_neg c1]; have h0 : 0 ≤ a % 4294967296 := (by omega); have h1 : 0 ≤ b % 4294967296 := (by omega); have h2 : a % 4294967296 ≤ 4294967295 := (by omega); have h3 : b % 4294967296 ≤ 4294967295 := (by omega); have h4 := div_lo h0 h2 h1; have h5 := mod_lo h0 h2 h1 c1; go_wp2_with (first | (go_at_call 60; (with_reducible refine Calls.mono (splain_any ..) ?_); rintro e wk ⟨rfl, rfl⟩) | (go_at_call 36; (with_reducible refine Calls.mono (swrap_any ..) ?_); rintro e wk ⟨rfl, rfl⟩)); go_ret2; exact ⟨rfl, mkStep⟩))

def cmp32 (k a b : Int) : Bool :=
  if k = 1 then wrap32 a == wrap32 b
  else if k = 2 then wrap32 a != wrap32 b
  else if k = 3 then decide (wrap32 a < wrap32 b)
  else if k = 4 then decide (a % 4294967296 < b % 4294967296)
  else if k = 5 then decide (wrap32 b < wrap32 a)
  else if k = 6 then decide (b % 4294967296 < a % 4294967296)
  else if k = 7 then decide (wrap32 a ≤ wrap32 b)
  else if k = 8 then decide (a % 4294967296 ≤ b % 4294967296)
  else if k = 9 then decide (wrap32 b ≤ wrap32 a)
  else if k = 10 then decide (b % 4294967296 ≤ a % 4294967296)
  else false
theorem icmp (k a b : Int) (w : World) (hk : 1 ≤ k ∧ k ≤ 10) : Calls Tryz.prog 109 #[.int .i64 k, .int .i64 a, .int .i64 b] w fun e w' => e = .returned (.bool (cmp32 k a b)) ∧ Step w w' := by have h : k = 1 ∨ k = 2 ∨ k = 3 ∨ k = 4 ∨ k = 5 ∨ k = 6 ∨ k = 7 ∨ k = 8 ∨ k = 9 ∨ k = 10 := (by omega); clear hk; rcases h with rfl | rfl | rfl | rfl | rfl | rfl | rfl | rfl | rfl | rfl <;> (go_enter Tryz.func109, Tryz.ntmps109; go_wp2_with (first | (go_at_call 121; (with_reducible refine Calls.mono (iwrap_any ..) ?_); rintro e wk ⟨rfl, rfl⟩) | (go_at_call 130; (with_reducible refine Calls.mono (iplain_any ..) ?_); rintro e wk ⟨rfl, rfl⟩)); (all_goals (go_ret; exact ⟨by (first | rfl | simp [cmp32]), mkStep⟩)))
theorem scmp (k a b : Int) (w : World) (hk : 1 ≤ k ∧ k ≤ 10) : Calls Tryz.prog 136 #[.int .i64 k, .int .i64 a, .int .i64 b] w fun e w' => e = .returned (.bool (cmp32 k a b)) ∧ Step w w' := by have h : k = 1 ∨ k = 2 ∨ k = 3 ∨ k = 4 ∨ k = 5 ∨ k = 6 ∨ k = 7 ∨ k = 8 ∨ k = 9 ∨ k = 10 := (by omega); clear hk; rcases h with rfl | rfl | rfl | rfl | rfl | rfl | rfl | rfl | rfl | rfl <;> (go_enter Tryz.func136, Tryz.ntmps136; go_wp2_with (first | (go_at_call 36; (with_reducible refine Calls.mono (swrap_any ..) ?_); rintro e wk ⟨rfl, rfl⟩) | (go_at_call 60; (with_reducible refine Calls.mono (splain_any ..) ?_); rintro e wk ⟨rfl, rfl⟩)); (all_goals (go_ret; exact ⟨by (first | rfl | simp [cmp32]), mkStep⟩)))
end Go.Proofs.YtnldaicibnkeoaaGreatDoor
namespace Go.Proofs.YtnldaicibnkeoaaGreatDoor
attribute [local go_sem ↓] Go.wp_at_zero Go.wp_at_succ
open Go.RowKit
open Rep (Is sz)

def bits32 (k a b : Int) : Int :=
  if k = 1 then wrap32 ((u32n a &&& u32n b : Nat) : Int)
  else if k = 2 then wrap32 ((u32n a ||| u32n b : Nat) : Int)
  else if k = 3 then wrap32 ((u32n a ^^^ u32n b : Nat) : Int)
  else if k = 4 then wrap32 ((u32n a * 2 ^ (u32n b % 32) : Nat) : Int)
  else if k = 5 then wrap32 a / 2 ^ (u32n b % 32)
  else if k = 6 then wrap32 ((u32n a / 2 ^ (u32n b % 32) : Nat) : Int)
  else if k = 7 then wrap32 ((rotl (u32n a) (u32n b % 32) : Nat) : Int)
  else if k = 8 then wrap32 ((rotr (u32n a) (u32n b % 32) : Nat) : Int)
  else 0
theorem bits_1 (a b : Int) : bits32 1 a b = wrap32 ((u32n a &&& u32n b : Nat) : Int) := by
  unfold bits32
  rw [if_pos rfl]
theorem bits_2 (a b : Int) : bits32 2 a b = wrap32 ((u32n a ||| u32n b : Nat) : Int) := by
  unfold bits32
  rw [if_neg (by decide), if_pos rfl]
theorem bits_3 (a b : Int) : bits32 3 a b = wrap32 ((u32n a ^^^ u32n b : Nat) : Int) := by
  unfold bits32
  rw [if_neg (by decide), if_neg (by decide), if_pos rfl]
theorem bits_4 (a b : Int) : bits32 4 a b = wrap32 ((u32n a * 2 ^ (u32n b % 32) : Nat) : Int) := by
  unfold bits32
  rw [if_neg (by decide), if_neg (by decide), if_neg (by decide), if_pos rfl]
theorem bits_5 (a b : Int) : bits32 5 a b = wrap32 a / 2 ^ (u32n b % 32) := by
  unfold bits32
  rw [if_neg (by decide), if_neg (by decide), if_neg (by decide), if_neg (by decide), if_pos rfl]
theorem bits_6 (a b : Int) : bits32 6 a b = wrap32 ((u32n a / 2 ^ (u32n b % 32) : Nat) : Int) := by
  unfold bits32
  rw [if_neg (by decide), if_neg (by decide), if_neg (by decide), if_neg (by decide), if_neg (by decide), if_pos rfl]
theorem bits_7 (a b : Int) : bits32 7 a b = wrap32 ((rotl (u32n a) (u32n b % 32) : Nat) : Int) := by
  unfold bits32
  rw [if_neg (by decide), if_neg (by decide), if_neg (by decide), if_neg (by decide), if_neg (by decide), if_neg (by decide), if_pos rfl]
theorem bits_8 (a b : Int) : bits32 8 a b = wrap32 ((rotr (u32n a) (u32n b % 32) : Nat) : Int) := by
  unfold bits32
  rw [if_neg (by decide), if_neg (by decide), if_neg (by decide), if_neg (by decide), if_neg (by decide), if_neg (by decide), if_neg (by decide), if_pos rfl]
def clz32 (a : Int) : Int := 32 - (Lib.bitLen (u32n a) : Int)
def ctz32 (a : Int) : Int := (Lib.ctz 32 (u32n a) : Int)
def pop32 (a : Int) : Int := (Lib.popAux 32 (u32n a) : Int)

def I32 (n : Int) : Prop := -2147483648 ≤ n ∧ n ≤ 2147483647
theorem wrap32_in (n : Int) : I32 (wrap32 n) := wrap32_lo n
theorem wrap32_id {n : Int} (h : I32 n) : wrap32 n = n := by unfold I32 at h; unfold wrap32; omega
theorem shr_in {x : Int} (hx : I32 x) (k : Nat) : I32 (x / 2 ^ k) := by
  unfold I32 at *
  have hp : (0 : Int) < 2 ^ k := Int.pow_pos (by decide)
  constructor
  · rw [Int.le_ediv_iff_mul_le hp]; generalize (2 : Int) ^ k = p at hp; omega
  · have h : x / 2 ^ k < 2147483648 := by rw [Int.ediv_lt_iff_lt_mul hp]; generalize (2 : Int) ^ k = p at hp; omega
    omega
theorem cast_shl (x k : Nat) : (x : Int) * 2 ^ k = ((x * 2 ^ k : Nat) : Int) := by simp
theorem cast_shr (x k : Nat) : (x : Int) / 2 ^ k = ((x / 2 ^ k : Nat) : Int) := by simp
theorem shl64 {x k : Nat} (hx : x < 4294967296) (hk : k < 32) : wrap64 ((x : Int) * 2 ^ k) = ((x * 2 ^ k : Nat) : Int) := by
  have h := shl_lt x k hx hk
  rw [cast_shl]
  exact wrap64_in (by unfold In64; omega)
theorem shr_lt (x k : Nat) (hx : x < 4294967296) : x / 2 ^ k < 4294967296 := Nat.lt_of_le_of_lt (Nat.div_le_self _ _) hx
theorem sb7 {x k : Nat} (hx : x < 4294967296) (hk : k < 32) : wrap32 (bits .or .i64 (wrap64 ((x : Int) * 2 ^ k)) ((x : Int) / 2 ^ (32 - k))) = wrap32 (rotl x k : Nat) := by
  have h := shl_lt x k hx hk
  have h2 := shr_lt x (32 - k) hx
  rw [shl64 hx hk, cast_shr, or64 _ _ (by omega) (by omega), rotl]
theorem sb8 {x k : Nat} (hx : x < 4294967296) (hk : k < 32) : wrap32 (bits .or .i64 ((x : Int) / 2 ^ k) (wrap64 ((x : Int) * 2 ^ (32 - k)))) = wrap32 (rotr x k : Nat) := by
  rcases Nat.eq_zero_or_pos k with rfl | h0
  · have h := or64_0 x hx
    have h2 : wrap32 ((rotr x 0 : Nat) : Int) = wrap32 (x : Int) := by
      have h3 := rotr0 x hx
      rw [← h3]
      have h4 : x / 2 ^ 32 = 0 := Nat.div_eq_of_lt (by omega)
      rw [h4]
      simp
      unfold wrap32
      omega
    rw [h2, ← h, IntKind.wrap_i64]
    unfold wrap64
    simp
  · have h := shl_lt x (32 - k) hx (by omega)
    have h2 := shr_lt x k hx
    rw [shl64 hx (by omega), cast_shr, or64 _ _ (by omega) (by omega), rotr]

theorem sbits (k a b : Int) (w : World) (hk : 1 ≤ k ∧ k ≤ 8) : Calls Tryz.prog 144 #[.int .i64 k, .int .i64 a, .int .i64 b] w fun e w' => e = .returned (.int .i64 (bits32 k a b)) ∧ Step w w' := by
  have h : k = 1 ∨ k = 2 ∨ k = 3 ∨ k = 4 ∨ k = 5 ∨ k = 6 ∨ k = 7 ∨ k = 8 := by omega
  clear hk
  have ha := u32n_eq a
  have hb := u32n_eq b
  have ha1 := u32n_lt a
  have hb1 := u32n_lt b
  rcases h with rfl | rfl | rfl | rfl | rfl | rfl | rfl | rfl
  all_goals go_enter Tryz.func144, Tryz.ntmps144
  · go_wp2_with (first | (go_at_call 60; (with_reducible refine Calls.mono (splain_any ..) ?_); rintro e wk ⟨rfl, rfl⟩) | (go_at_call 36; (with_reducible refine Calls.mono (swrap_any ..) ?_); rintro e wk ⟨rfl, rfl⟩))
    go_ret
    exact ⟨ret_int (by rw [and64 _ _ (by omega) (by omega), bits_1]), mkStep⟩
  · go_wp2_with (first | (go_at_call 60; (with_reducible refine Calls.mono (splain_any ..) ?_); rintro e wk ⟨rfl, rfl⟩) | (go_at_call 36; (with_reducible refine Calls.mono (swrap_any ..) ?_); rintro e wk ⟨rfl, rfl⟩))
    go_ret
    exact ⟨ret_int (by rw [or64 _ _ (by omega) (by omega), bits_2]), mkStep⟩
  · go_wp2_with (first | (go_at_call 60; (with_reducible refine Calls.mono (splain_any ..) ?_); rintro e wk ⟨rfl, rfl⟩) | (go_at_call 36; (with_reducible refine Calls.mono (swrap_any ..) ?_); rintro e wk ⟨rfl, rfl⟩))
    go_ret
    exact ⟨ret_int (by rw [xor64 _ _ (by omega) (by omega), bits_3]), mkStep⟩
  · go_wp2_with (first | (go_at_call 60; (with_reducible refine Calls.mono (splain_any ..) ?_); rintro e wk ⟨rfl, rfl⟩) | (go_at_call 36; (with_reducible refine Calls.mono (swrap_any ..) ?_); rintro e wk ⟨rfl, rfl⟩))
    go_ret
    exact ⟨ret_int (by rw [shl64 ha1 (by omega), bits_4]), mkStep⟩
  · go_wp2_with (first | (go_at_call 60; (with_reducible refine Calls.mono (splain_any ..) ?_); rintro e wk ⟨rfl, rfl⟩) | (go_at_call 36; (with_reducible refine Calls.mono (swrap_any ..) ?_); rintro e wk ⟨rfl, rfl⟩))
    go_ret
    exact ⟨ret_int (by rw [wrap32_id (shr_in (wrap32_in _) _), bits_5]), mkStep⟩
  · go_wp2_with (first | (go_at_call 60; (with_reducible refine Calls.mono (splain_any ..) ?_); rintro e wk ⟨rfl, rfl⟩) | (go_at_call 36; (with_reducible refine Calls.mono (swrap_any ..) ?_); rintro e wk ⟨rfl, rfl⟩))
    go_ret
    exact ⟨ret_int (by rw [cast_shr, bits_6]), mkStep⟩
  · go_wp2_with (first | (go_at_call 60; (with_reducible refine Calls.mono (splain_any ..) ?_); rintro e wk ⟨rfl, rfl⟩) | (go_at_call 36; (with_reducible refine Calls.mono (swrap_any ..) ?_); rintro e wk ⟨rfl, rfl⟩))
    refine rg_begin0 (n := 10) (by kernel_rfl) rfl fun rg0 => ?_
    refine rg_read (i := 0) (a1 := _) rfl (by kernel_rfl) rfl (by simp) (by intro wq hwq; go_wp2; exact ⟨rfl, rfl⟩) mkStep ?_
    refine rg_read (i := 1) (a1 := _) rfl (by kernel_rfl) rfl (by simp) (by intro wq hwq; go_wp2; exact ⟨rfl, rfl⟩) mkStep ?_
    refine rg_read (i := 2) (a1 := _) rfl (by kernel_rfl) rfl (by simp) (by intro wq hwq; go_wp2; exact ⟨rfl, rfl⟩) mkStep ?_
    refine rg_read (i := 3) (a1 := _) rfl (by kernel_rfl) rfl (by simp) (by intro wq hwq; go_wp2; exact ⟨rfl, rfl⟩) mkStep ?_
    refine rg_read (i := 4) (a1 := _) rfl (by kernel_rfl) rfl (by simp) (by intro wq hwq; go_wp2; exact ⟨rfl, rfl⟩) mkStep ?_
    refine rg_read (i := 5) (a1 := _) rfl (by kernel_rfl) rfl (by simp) (by intro wq hwq; go_wp2; exact ⟨rfl, rfl⟩) mkStep ?_
    refine rg_read (i := 6) (a1 := _) rfl (by kernel_rfl) rfl (by simp) (by intro wq hwq; go_wp2; exact ⟨rfl, rfl⟩) mkStep ?_
    refine rg_read (i := 7) (a1 := _) rfl (by kernel_rfl) rfl (by simp) (by intro wq hwq; go_wp2; exact ⟨rfl, rfl⟩) mkStep ?_
    refine rg_eff (i := 8) rfl (by kernel_rfl) ?_
    simp only [List.getElem_toArray, List.getElem_cons_succ, List.getElem_cons_zero]
    go_wp2_with (first | (go_at_call 36; (with_reducible refine Calls.mono (swrap_any ..) ?_); rintro e wk ⟨rfl, rfl⟩))
    refine ⟨mkStep, ?_⟩
    refine rg_read (i := 9) (a1 := _) rfl (by kernel_rfl) rfl (by simp) (by intro wq hwq; go_wp2; exact ⟨rfl, rfl⟩) mkStep ?_
    refine rg_done (by kernel_rfl) ?_
    go_wp2
    go_ret
    exact ⟨ret_int (by rw [sb7 ha1 (by omega), bits_7]), mkStep⟩
  · go_wp2_with (first | (go_at_call 60; (with_reducible refine Calls.mono (splain_any ..) ?_); rintro e wk ⟨rfl, rfl⟩) | (go_at_call 36; (with_reducible refine Calls.mono (swrap_any ..) ?_); rintro e wk ⟨rfl, rfl⟩))
    refine rg_begin0 (n := 10) (by kernel_rfl) rfl fun rg0 => ?_
    refine rg_read (i := 0) (a1 := _) rfl (by kernel_rfl) rfl (by simp) (by intro wq hwq; go_wp2; exact ⟨rfl, rfl⟩) mkStep ?_
    refine rg_read (i := 1) (a1 := _) rfl (by kernel_rfl) rfl (by simp) (by intro wq hwq; go_wp2; exact ⟨rfl, rfl⟩) mkStep ?_
    refine rg_read (i := 2) (a1 := _) rfl (by kernel_rfl) rfl (by simp) (by intro wq hwq; go_wp2; exact ⟨rfl, rfl⟩) mkStep ?_
    refine rg_read (i := 3) (a1 := _) rfl (by kernel_rfl) rfl (by simp) (by intro wq hwq; go_wp2; exact ⟨rfl, rfl⟩) mkStep ?_
    refine rg_read (i := 4) (a1 := _) rfl (by kernel_rfl) rfl (by simp) (by intro wq hwq; go_wp2; exact ⟨rfl, rfl⟩) mkStep ?_
    refine rg_read (i := 5) (a1 := _) rfl (by kernel_rfl) rfl (by simp) (by intro wq hwq; go_wp2; exact ⟨rfl, rfl⟩) mkStep ?_
    refine rg_read (i := 6) (a1 := _) rfl (by kernel_rfl) rfl (by simp) (by intro wq hwq; go_wp2; exact ⟨rfl, rfl⟩) mkStep ?_
    refine rg_read (i := 7) (a1 := _) rfl (by kernel_rfl) rfl (by simp) (by intro wq hwq; go_wp2; exact ⟨rfl, rfl⟩) mkStep ?_
    refine rg_eff (i := 8) rfl (by kernel_rfl) ?_
    simp only [List.getElem_toArray, List.getElem_cons_succ, List.getElem_cons_zero]
    go_wp2_with (first | (go_at_call 36; (with_reducible refine Calls.mono (swrap_any ..) ?_); rintro e wk ⟨rfl, rfl⟩))
    refine ⟨mkStep, ?_⟩
    refine rg_read (i := 9) (a1 := _) rfl (by kernel_rfl) rfl (by simp) (by intro wq hwq; go_wp2; exact ⟨rfl, rfl⟩) mkStep ?_
    refine rg_done (by kernel_rfl) ?_
    go_wp2
    go_ret
    exact ⟨ret_int (by rw [sb8 ha1 (by omega), bits_8]), mkStep⟩

theorem irot (x : Nat) (k : Int) (w : World) (hx : x < 4294967296) (hk : -32 < k ∧ k < 32) : Calls Tryz.prog 131 #[.int .u32 x, .int .i64 k] w fun e w' => e = .returned (.int .u32 ((x * 2 ^ (k % 32).toNat % 4294967296 ||| x / 2 ^ (32 - (k % 32).toNat) : Nat) : Int)) ∧ Step w w' := by
  have h1 := hk
  obtain ⟨j, hj⟩ : ∃ j : Nat, (k % 32).toNat = j := ⟨_, rfl⟩
  have hj1 : j < 32 := by omega
  have he : bits .and .u64 (IntKind.u64.wrap k) 31 = (j : Int) := by
    have e1 : IntKind.u64.wrap k = (((k % 18446744073709551616).toNat : Nat) : Int) := by rw [IntKind.wrap_u64]; omega
    have e2 := bits_and_u64_nat (k % 18446744073709551616).toNat 31 (by omega) (by omega)
    have e3 : (k % 18446744073709551616).toNat &&& 31 = (k % 18446744073709551616).toNat % 32 := Nat.and_two_pow_sub_one_eq_mod _ 5
    rw [e1]
    refine e2.trans ?_
    rw [e3]
    omega
  rw [hj]
  clear hk h1 hj
  go_enter Tryz.func131, Tryz.ntmps131
  go_wp2
  go_ret
  exact ⟨ret_int (by
    have h2 := shr_lt x (32 - j) hx
    have e4 : (x : Int) * 2 ^ j % 4294967296 = ((x * 2 ^ j % 4294967296 : Nat) : Int) := by rw [cast_shl]; omega
    rw [e4, cast_shr, or32 _ _ (Nat.mod_lt _ (by decide)) h2]), mkStep⟩

theorem ww (n : Int) : wrap64 (wrap32 n) = wrap32 n := by unfold wrap64 wrap32; omega
theorem wrap_mod2 (n : Int) : wrap32 (n % 4294967296) = wrap32 n := by unfold wrap32; omega
theorem ib8 (x y : Nat) (hx : x < 4294967296) : wrap32 ((x * 2 ^ (-((y : Int) % 32) % 32).toNat % 4294967296 ||| x / 2 ^ (32 - (-((y : Int) % 32) % 32).toNat) : Nat) : Int) = wrap32 (rotr x (y % 32) : Nat) := by
  rcases Nat.eq_zero_or_pos (y % 32) with h0 | h0
  · have e : (-((y : Int) % 32) % 32).toNat = 0 := by omega
    rw [e, h0]
    exact rotr0 x hx
  · have e : (-((y : Int) % 32) % 32).toNat = 32 - y % 32 := by omega
    rw [e]
    exact rotr32 x (y % 32) hx h0 (by omega)

theorem ibits (k a b : Int) (w : World) (hk : 1 ≤ k ∧ k ≤ 8) : Calls Tryz.prog 117 #[.int .i64 k, .int .i64 a, .int .i64 b] w fun e w' => e = .returned (.int .i64 (bits32 k a b)) ∧ Step w w' := by
  have h : k = 1 ∨ k = 2 ∨ k = 3 ∨ k = 4 ∨ k = 5 ∨ k = 6 ∨ k = 7 ∨ k = 8 := by omega
  clear hk
  have ha := u32n_eq a
  have hb := u32n_eq b
  have ha1 := u32n_lt a
  have hb1 := u32n_lt b
  rcases h with rfl | rfl | rfl | rfl | rfl | rfl | rfl | rfl
  all_goals go_enter Tryz.func117, Tryz.ntmps117
  · go_wp2_with (first | (go_at_call 121; (with_reducible refine Calls.mono (iwrap_any ..) ?_); rintro e wk ⟨rfl, rfl⟩) | (go_at_call 131; (with_reducible refine Calls.mono (irot _ _ _ (by omega) (by omega)) ?_); rintro e wk ⟨rfl, st⟩))
    go_ret
    exact ⟨ret_int (by rw [ww, and32 _ _ ha1 hb1, bits_1]), mkStep⟩
  · go_wp2_with (first | (go_at_call 121; (with_reducible refine Calls.mono (iwrap_any ..) ?_); rintro e wk ⟨rfl, rfl⟩) | (go_at_call 131; (with_reducible refine Calls.mono (irot _ _ _ (by omega) (by omega)) ?_); rintro e wk ⟨rfl, st⟩))
    go_ret
    exact ⟨ret_int (by rw [ww, or32 _ _ ha1 hb1, bits_2]), mkStep⟩
  · go_wp2_with (first | (go_at_call 121; (with_reducible refine Calls.mono (iwrap_any ..) ?_); rintro e wk ⟨rfl, rfl⟩) | (go_at_call 131; (with_reducible refine Calls.mono (irot _ _ _ (by omega) (by omega)) ?_); rintro e wk ⟨rfl, st⟩))
    go_ret
    exact ⟨ret_int (by rw [ww, xor32 _ _ ha1 hb1, bits_3]), mkStep⟩
  · go_wp2_with (first | (go_at_call 121; (with_reducible refine Calls.mono (iwrap_any ..) ?_); rintro e wk ⟨rfl, rfl⟩) | (go_at_call 131; (with_reducible refine Calls.mono (irot _ _ _ (by omega) (by omega)) ?_); rintro e wk ⟨rfl, st⟩))
    go_ret
    exact ⟨ret_int (by rw [ww, cast_shl, wrap_mod2, bits_4]), mkStep⟩
  · go_wp2_with (first | (go_at_call 121; (with_reducible refine Calls.mono (iwrap_any ..) ?_); rintro e wk ⟨rfl, rfl⟩) | (go_at_call 131; (with_reducible refine Calls.mono (irot _ _ _ (by omega) (by omega)) ?_); rintro e wk ⟨rfl, st⟩))
    go_ret
    exact ⟨ret_int (by rw [bits_5]), mkStep⟩
  · go_wp2_with (first | (go_at_call 121; (with_reducible refine Calls.mono (iwrap_any ..) ?_); rintro e wk ⟨rfl, rfl⟩) | (go_at_call 131; (with_reducible refine Calls.mono (irot _ _ _ (by omega) (by omega)) ?_); rintro e wk ⟨rfl, st⟩))
    go_ret
    exact ⟨ret_int (by rw [ww, cast_shr, bits_6]), mkStep⟩
  · go_wp2_with (first | (go_at_call 121; (with_reducible refine Calls.mono (iwrap_any ..) ?_); rintro e wk ⟨rfl, rfl⟩) | (go_at_call 131; (with_reducible refine Calls.mono (irot _ _ _ (by omega) (by omega)) ?_); rintro e wk ⟨rfl, st⟩))
    go_ret
    exact ⟨ret_int (by rw [ww, rotl32 _ _ ha1, bits_7]), mkStep⟩
  · go_wp2_with (first | (go_at_call 121; (with_reducible refine Calls.mono (iwrap_any ..) ?_); rintro e wk ⟨rfl, rfl⟩) | (go_at_call 131; (with_reducible refine Calls.mono (irot _ _ _ (by omega) (by omega)) ?_); rintro e wk ⟨rfl, st⟩))
    go_ret
    exact ⟨ret_int (by rw [ww, ib8 _ _ ha1, bits_8]), mkStep⟩

/-! ### One number -/

theorem bit_and (n : Nat) (h : n < 9223372036854775808) : bits .and .i64 (n : Int) 1 = ((n % 2 : Nat) : Int) := by
  have h1 := and64 n 1 h (by decide)
  rw [Nat.and_one_is_mod] at h1
  exact h1
theorem bit_at (x k : Nat) (hx : x < 4294967296) : bits .and .i64 ((x : Int) / 2 ^ k) 1 = ((x / 2 ^ k % 2 : Nat) : Int) := by
  have := shr_lt x k hx
  rw [cast_shr]
  exact bit_and _ (by omega)
theorem sclz (a : Int) (w : World) : Calls Tryz.prog 126 #[.int .i64 a] w fun e w' => e = .returned (.int .i64 (clz32 a)) ∧ Step w w' := by
  obtain ⟨x, hx⟩ : ∃ x, x = u32n a := ⟨_, rfl⟩
  have hx1 : x < 4294967296 := hx ▸ u32n_lt a
  have ha : a % 4294967296 = (x : Int) := hx ▸ u32n_eq a
  have hr : clz32 a = 32 - (Lib.bitLen x : Int) := by rw [hx]; rfl
  clear hx
  go_enter Tryz.func126, Tryz.ntmps126
  go_wp2
  go_loopw [3] (fun i wr => ∃ k : Nat, k ≤ 32 ∧ i = .int .i64 ((k : Int) - 1) ∧ Step w wr ∧ Hid (x < 2 ^ k)) (fun i _ => (intOf i + 1).toNat)
  case atStart => exact ⟨32, by omega, rfl, mkStep, hid (by omega)⟩
  case round =>
    obtain ⟨k, hk, rfl, st, hl⟩ := hrel
    cases k with
    | zero =>
      have h0 : x = 0 := by have := hl.out; simpa using this
      have hz := hid (show clz32 a = 32 by rw [hr, h0]; rfl)
      clear hr
      go_wp2_with (first | (go_at_call 60; (with_reducible refine Calls.mono (splain_any ..) ?_); rintro e wk ⟨rfl, rfl⟩))
      go_ret
      exact ⟨by rw [hz.out]; rfl, mkStep⟩
    | succ k =>
      have e1 : ((k + 1 : Nat) : Int) - 1 = (k : Int) := by omega
      have e3 := bit_at x k hx1
      rw [e1]
      rcases Nat.mod_two_eq_zero_or_one (x / 2 ^ k) with hb | hb
      · have h2 := hid (div_lt_pow x k hl.out hb)
        rw [hb] at e3
        clear hr hb
        go_wp2_with (first | (go_at_call 60; (with_reducible refine Calls.mono (splain_any ..) ?_); rintro e wk ⟨rfl, rfl⟩))
        go_roundw
        case rel => exact ⟨k, by omega, by go_num, mkStep, h2⟩
        case measure => simp [intOf]
      · have h2 := hid (show clz32 a = 31 - (k : Int) by rw [hr, bitLen_at k x (by omega) hl.out hb]; omega)
        rw [hb] at e3
        clear hr hb
        go_wp2_with (first | (go_at_call 60; (with_reducible refine Calls.mono (splain_any ..) ?_); rintro e wk ⟨rfl, rfl⟩))
        go_ret
        exact ⟨by rw [h2.out]; rfl, mkStep⟩

theorem sctz (a : Int) (w : World) : Calls Tryz.prog 127 #[.int .i64 a] w fun e w' => e = .returned (.int .i64 (ctz32 a)) ∧ Step w w' := by
  obtain ⟨x, hx⟩ : ∃ x, x = u32n a := ⟨_, rfl⟩
  have hx1 : x < 4294967296 := hx ▸ u32n_lt a
  have ha : a % 4294967296 = (x : Int) := hx ▸ u32n_eq a
  have hr : ctz32 a = (Lib.ctz 32 x : Int) := by rw [hx]; rfl
  clear hx
  go_enter Tryz.func127, Tryz.ntmps127
  go_wp2
  go_loopw [3] (fun i wr => ∃ k : Nat, k ≤ 32 ∧ i = .int .i64 (k : Int) ∧ Step w wr ∧ Hid (x % 2 ^ k = 0)) (fun i _ => 32 - (intOf i).toNat)
  case atStart => exact ⟨0, by omega, rfl, mkStep, hid (by simp [Nat.mod_one])⟩
  case round =>
    obtain ⟨k, hk, rfl, st, hl⟩ := hrel
    by_cases h32 : k < 32
    · have e3 := bit_at x k hx1
      rcases Nat.mod_two_eq_zero_or_one (x / 2 ^ k) with hb | hb
      · have h2 := hid (mod_pow_zero x k hl.out hb)
        rw [hb] at e3
        clear hr hb
        go_wp2_with (first | (go_at_call 60; (with_reducible refine Calls.mono (splain_any ..) ?_); rintro e wk ⟨rfl, rfl⟩))
        go_roundw
        case rel => exact ⟨k + 1, by omega, by go_num, mkStep, h2⟩
        case measure => simp [intOf]; omega
      · have h2 := hid (show ctz32 a = (k : Int) by rw [hr, ctz_at k x h32 hl.out hb])
        rw [hb] at e3
        clear hr hb
        go_wp2_with (first | (go_at_call 60; (with_reducible refine Calls.mono (splain_any ..) ?_); rintro e wk ⟨rfl, rfl⟩))
        go_ret
        exact ⟨by rw [h2.out]; rfl, mkStep⟩
    · obtain rfl : k = 32 := by omega
      have hz := hid (show ctz32 a = 32 by rw [hr, ctz_no x hx1 hl.out]; rfl)
      clear hr
      go_wp2_with (first | (go_at_call 60; (with_reducible refine Calls.mono (splain_any ..) ?_); rintro e wk ⟨rfl, rfl⟩))
      go_ret
      exact ⟨by rw [hz.out]; rfl, mkStep⟩

theorem spop (a : Int) (w : World) : Calls Tryz.prog 128 #[.int .i64 a] w fun e w' => e = .returned (.int .i64 (pop32 a)) ∧ Step w w' := by
  obtain ⟨x, hx⟩ : ∃ x, x = u32n a := ⟨_, rfl⟩
  have hx1 : x < 4294967296 := hx ▸ u32n_lt a
  have ha : a % 4294967296 = (x : Int) := hx ▸ u32n_eq a
  have hr : pop32 a = (Lib.popAux 32 x : Int) := by rw [hx]; rfl
  clear hx
  go_enter Tryz.func128, Tryz.ntmps128
  go_wp2
  go_loopw [3, 4] (fun p i wr => ∃ k n : Nat, k ≤ 32 ∧ n ≤ k ∧ p = .int .i64 (n : Int) ∧ i = .int .i64 (k : Int) ∧ Step w wr ∧ Hid (n = Lib.popAux k x)) (fun _ i _ => 32 - (intOf i).toNat)
  case atStart => exact ⟨0, 0, by omega, by omega, rfl, rfl, mkStep, hid rfl⟩
  case round =>
    obtain ⟨k, n, hk, hn, rfl, rfl, st, hl⟩ := hrel
    by_cases h32 : k < 32
    · have e3 := bit_at x k hx1
      have h2 := hid (popAux_succ k x)
      rcases Nat.mod_two_eq_zero_or_one (x / 2 ^ k) with hb | hb
      · rw [hb] at e3
        have h3 := hid (show n = Lib.popAux (k + 1) x by rw [h2.out, hb, hl.out]; rfl)
        clear hr hb h2
        go_wp2_with (first | (go_at_call 60; (with_reducible refine Calls.mono (splain_any ..) ?_); rintro e wk ⟨rfl, rfl⟩))
        go_roundw
        case rel => exact ⟨k + 1, n, by omega, by omega, by go_num, by go_num, mkStep, h3⟩
        case measure => simp [intOf]; omega
      · rw [hb] at e3
        have h3 := hid (show n + 1 = Lib.popAux (k + 1) x by rw [h2.out, hb, hl.out])
        clear hr hb h2
        go_wp2_with (first | (go_at_call 60; (with_reducible refine Calls.mono (splain_any ..) ?_); rintro e wk ⟨rfl, rfl⟩))
        go_roundw
        case rel => exact ⟨k + 1, n + 1, by omega, by omega, by go_num, by go_num, mkStep, h3⟩
        case measure => simp [intOf]; omega
    · obtain rfl : k = 32 := by omega
      have hz := hid (show pop32 a = (n : Int) by rw [hr, hl.out])
      clear hr
      go_wp2_with (first | (go_at_call 60; (with_reducible refine Calls.mono (splain_any ..) ?_); rintro e wk ⟨rfl, rfl⟩))
      go_ret
      exact ⟨by rw [hz.out]; rfl, mkStep⟩

theorem iclz (a : Int) (w : World) : Calls Tryz.prog 118 #[.int .i64 a] w fun e w' => e = .returned (.int .i64 (clz32 a)) ∧ Step w w' := by
  have ha := u32n_eq a
  have hr := hid (show clz32 a = 32 - (Lib.bitLen (u32n a) : Int) from rfl)
  have h1 := u32n_lt a
  have h2 := bitLen_le32 (u32n a) h1
  have hb := fun q : World => Tryz.bits_LeadingZeros32 (u32n a) q (by omega) (by omega)
  simp only [Int.toNat_natCast] at hb
  go_enter Tryz.func118, Tryz.ntmps118
  go_wp2_with (go_at_call 132; (with_reducible refine Calls.mono (hb _) ?_); rintro e wk ⟨rfl, rfl⟩)
  go_ret
  exact ⟨by rw [hr.out]; rfl, mkStep⟩

/-- The table of trailing zeros. -/
def tzTab : List Int := Lib.deBruijn32tab.map fun (n : Nat) => (n : Int)
def Tz (w : World) : Prop := Lib.TabIs Tryz.prog w "math/bits.deBruijn32tab" .u8 tzTab
class KnownTz (a : outParam World) : Prop where
  is : Tz a
class HasTz (w : World) : Prop where
  is : Tz w
instance hasTz {a w : World} [k : KnownTz a] [f : Fr0 a w] : HasTz w := ⟨tab_fr0 k.is f.fr⟩
theorem HasTz.known {w : World} (h : HasTz w) : KnownTz w := ⟨h.is⟩
theorem Tz.at {w : World} (h : Tz w) : TabAt (Tryz.laysTz_ren.g 0) Lib.deBruijn32tab w := by
  intro j hj
  have e := Lib.TabIs.cell h (g := Tryz.laysTz_ren.g 0) (by kernel_rfl) j (by simpa [tzTab] using hj)
  rw [e]
  simp [tzTab, List.getD, hj]
theorem ictz (a : Int) (w : World) [h : HasTz w] : Calls Tryz.prog 119 #[.int .i64 a] w fun e w' => e = .returned (.int .i64 (ctz32 a)) ∧ Step w w' := by
  have ha := u32n_eq a
  have hr := hid (show ctz32 a = (Lib.ctz 32 (u32n a) : Int) from rfl)
  have h1 := u32n_lt a
  have hb := Tryz.bits_TrailingZeros32 (u32n a) h1 w fun _ => h.is.at
  go_enter Tryz.func119, Tryz.ntmps119
  go_wp2_with (go_at_call 133; (with_reducible refine Calls.mono hb ?_); rintro e wk ⟨rfl, rfl⟩)
  go_ret
  exact ⟨by rw [hr.out]; rfl, mkStep⟩
end Go.Proofs.YtnldaicibnkeoaaGreatDoor
namespace Go.Proofs.YtnldaicibnkeoaaGreatDoor
attribute [local go_sem ↓] Go.wp_at_zero Go.wp_at_succ
open Go.RowKit
open Rep (Is sz)

theorem and255 (n : Nat) (h : n < 4294967296) : bits .and .u32 (n : Int) 255 = (n : Int) % 256 := by
  have h1 := and32 n 255 h (by decide)
  have h2 : n &&& 255 = n % 256 := Nat.and_two_pow_sub_one_eq_mod _ 8
  rw [h2] at h1
  exact h1

theorem pop8_at (n : Nat) (h : n < 256) : Lib.pop8 (n : Int) = (Lib.popAux 64 n : Int) := Lib.pop8_eq ⟨n, h⟩
theorem pop_sum (x : Nat) (hx : x < 4294967296) : (Lib.pop8 ((x : Int) / 16777216) + Lib.pop8 ((x : Int) / 65536 % 256) + Lib.pop8 ((x : Int) / 256 % 256) + Lib.pop8 ((x : Int) % 256)) % 256 = (Lib.popAux 32 x : Int) := by
  have e1 := pop8_at (x / 16777216) (by omega)
  have e2 := pop8_at (x / 65536 % 256) (by omega)
  have e3 := pop8_at (x / 256 % 256) (by omega)
  have e4 := pop8_at (x % 256) (by omega)
  have h := popAux_32 x hx
  have h2 := popAux_le 32 x
  rw [show ((x / 16777216 : Nat) : Int) = (x : Int) / 16777216 from rfl] at e1
  rw [show ((x / 65536 % 256 : Nat) : Int) = (x : Int) / 65536 % 256 from rfl] at e2
  rw [show ((x / 256 % 256 : Nat) : Int) = (x : Int) / 256 % 256 from rfl] at e3
  rw [show ((x % 256 : Nat) : Int) = (x : Int) % 256 from rfl] at e4
  rw [e1, e2, e3, e4]
  omega

set_option maxRecDepth 100000 in
theorem iones (x : Nat) (w : World) (hx : x < 4294967296) : Calls Tryz.prog 134 #[.int .u32 x] w fun e w' => e = .returned (.int .i64 (Lib.popAux 32 x : Int)) ∧ Step w w' := by
  have d0 : 0 ≤ (x : Int) / 16777216 := by omega
  have d1 : (x : Int) / 16777216 ≤ 255 := by omega
  have m1 := and255 (x / 65536) (by omega)
  have m2 := and255 (x / 256) (by omega)
  have m3 := and255 x hx
  rw [show ((x / 65536 : Nat) : Int) = (x : Int) / 65536 from rfl] at m1
  rw [show ((x / 256 : Nat) : Int) = (x : Int) / 256 from rfl] at m2
  go_enter Tryz.func134, Tryz.ntmps134
  go_wp2
  refine rg_begin0 (n := 19) (by kernel_rfl) rfl fun rg0 => ?_
  refine rg_read (i := 0) (a1 := _) rfl (by kernel_rfl) rfl (by simp) (by intro wq hwq; go_wp2; exact ⟨rfl, rfl⟩) mkStep ?_
  refine rg_read (i := 1) (a1 := _) rfl (by kernel_rfl) rfl (by simp) (by intro wq hwq; go_wp2; exact ⟨rfl, rfl⟩) mkStep ?_
  refine rg_read (i := 2) (a1 := _) rfl (by kernel_rfl) rfl (by simp) (by intro wq hwq; go_wp2; exact ⟨rfl, rfl⟩) mkStep ?_
  refine rg_read (i := 3) (a1 := _) rfl (by kernel_rfl) rfl (by simp) (by intro wq hwq; go_wp2; exact ⟨rfl, rfl⟩) mkStep ?_
  refine rg_read (i := 4) (a1 := _) rfl (by kernel_rfl) rfl (by simp) (by intro wq hwq; go_wp2; exact ⟨rfl, rfl⟩) mkStep ?_
  refine rg_read (i := 5) (a1 := _) rfl (by kernel_rfl) rfl (by simp) (by intro wq hwq; go_wp2; exact ⟨rfl, rfl⟩) mkStep ?_
  refine rg_read (i := 6) (a1 := _) rfl (by kernel_rfl) rfl (by simp) (by intro wq hwq; go_wp2; exact ⟨rfl, rfl⟩) mkStep ?_
  refine rg_read (i := 7) (a1 := _) rfl (by kernel_rfl) rfl (by simp) (by intro wq hwq; go_wp2; exact ⟨rfl, rfl⟩) mkStep ?_
  refine rg_read (i := 8) (a1 := _) rfl (by kernel_rfl) rfl (by simp) (by intro wq hwq; go_wp2; exact ⟨rfl, rfl⟩) mkStep ?_
  refine rg_read (i := 9) (a1 := _) rfl (by kernel_rfl) rfl (by simp) (by intro wq hwq; go_wp2; exact ⟨rfl, rfl⟩) mkStep ?_
  refine rg_read (i := 10) (a1 := _) rfl (by kernel_rfl) rfl (by simp) (by intro wq hwq; go_wp2; exact ⟨rfl, rfl⟩) mkStep ?_
  refine rg_read (i := 11) (a1 := _) rfl (by kernel_rfl) rfl (by simp) (by intro wq hwq; go_wp2; exact ⟨rfl, rfl⟩) mkStep ?_
  refine rg_read (i := 12) (a1 := _) rfl (by kernel_rfl) rfl (by simp) (by intro wq hwq; go_wp2; exact ⟨rfl, rfl⟩) mkStep ?_
  refine rg_read (i := 13) (a1 := _) rfl (by kernel_rfl) rfl (by simp) (by intro wq hwq; go_wp2; exact ⟨rfl, rfl⟩) mkStep ?_
  refine rg_read (i := 14) (a1 := _) rfl (by kernel_rfl) rfl (by simp) (by intro wq hwq; go_wp2; exact ⟨rfl, rfl⟩) mkStep ?_
  refine rg_read (i := 15) (a1 := _) rfl (by kernel_rfl) rfl (by simp) (by intro wq hwq; go_wp2; exact ⟨rfl, rfl⟩) mkStep ?_
  refine rg_read (i := 16) (a1 := _) rfl (by kernel_rfl) rfl (by simp) (by intro wq hwq; go_wp2; exact ⟨rfl, rfl⟩) mkStep ?_
  refine rg_read (i := 17) (a1 := _) rfl (by kernel_rfl) rfl (by simp) (by intro wq hwq; go_wp2; exact ⟨rfl, rfl⟩) mkStep ?_
  refine rg_read (i := 18) (a1 := _) rfl (by kernel_rfl) rfl (by simp) (by intro wq hwq; go_wp2; exact ⟨rfl, rfl⟩) mkStep ?_
  refine rg_done (by kernel_rfl) ?_
  go_wp2
  go_ret
  exact ⟨ret_int (pop_sum x hx), mkStep⟩
theorem ipop (a : Int) (w : World) : Calls Tryz.prog 120 #[.int .i64 a] w fun e w' => e = .returned (.int .i64 (pop32 a)) ∧ Step w w' := by
  have ha := u32n_eq a
  have h1 := u32n_lt a
  have hr := hid (show pop32 a = (Lib.popAux 32 (u32n a) : Int) from rfl)
  go_enter Tryz.func120, Tryz.ntmps120
  go_wp2_with (first | (go_at_call 134; (with_reducible refine Calls.mono (iones _ _ (by omega)) ?_); rintro e wk ⟨rfl, st⟩))
  go_ret
  exact ⟨by rw [hr.out]; rfl, mkStep⟩
end Go.Proofs.YtnldaicibnkeoaaGreatDoor
namespace Go.Proofs.YtnldaicibnkeoaaGreatDoor
open Go.RowKit
open Rep (Is sz)

def b01 (b : Bool) : Int := if b = true then 1 else 0
/-- What two numbers come to, and the fault. -/
def bin32 (op a b : Int) : Int × Int :=
  if op ≤ 79 then (b01 (cmp32 (op - 70 + 1) a b), 0)
  else if op = 106 then (add32 a b, 0)
  else if op = 107 then (sub32 a b, 0)
  else if op = 108 then (mul32 a b, 0)
  else if op = 109 then divS32 a b
  else if op = 110 then divU32 a b
  else if op = 111 then remS32 a b
  else if op = 112 then remU32 a b
  else (bits32 (op - 106 - 6) a b, 0)
def un32 (op a : Int) : Int :=
  if op = 103 then clz32 a else if op = 104 then ctz32 a else if op = 105 then pop32 a else b01 (decide (wrap32 a = 0))

theorem b01_in (b : Bool) : I32 (b01 b) := by unfold b01 I32; split <;> omega
theorem tdiv_in {x y : Int} (hx : I32 x) (h0 : ¬ y = 0) (h1 : ¬ (x = -2147483648 ∧ y = -1)) : I32 (x.tdiv y) := by
  unfold I32 at *
  by_cases e1 : y = 1
  · subst e1; rw [Int.tdiv_one]; exact hx
  by_cases e2 : y = -1
  · subst e2; rw [Int.tdiv_neg, Int.tdiv_one]; omega
  have h : (x.tdiv y).natAbs = x.natAbs / y.natAbs := Int.natAbs_tdiv _ _
  have h2 : x.natAbs / y.natAbs ≤ x.natAbs / 2 := Nat.div_le_div_left (by omega) (by omega)
  omega
theorem tmod_in {x y : Int} (hy : I32 y) (h0 : ¬ y = 0) : I32 (x.tmod y) := by
  unfold I32 at *
  have h : (x.tmod y).natAbs = x.natAbs % y.natAbs := Int.natAbs_tmod _ _
  have h2 : x.natAbs % y.natAbs < y.natAbs := Nat.mod_lt _ (by omega)
  omega
theorem bits32_in (k a b : Int) : I32 (bits32 k a b) := by
  unfold bits32
  repeat' split
  all_goals first | exact wrap32_in _ | exact shr_in (wrap32_in _) _ | (unfold I32; omega)
theorem bin32_in (op a b : Int) (h : (bin32 op a b).2 = 0) : I32 (bin32 op a b).1 := by
  unfold bin32 at h ⊢
  split
  · exact b01_in _
  split
  · exact wrap32_in _
  split
  · exact wrap32_in _
  split
  · exact wrap32_in _
  split
  · rename_i h1 h2 h3 h4 h5
    rw [if_neg h1, if_neg h2, if_neg h3, if_neg h4, if_pos h5] at h
    unfold divS32 at h ⊢
    split
    · rename_i h6; rw [if_pos h6] at h; simp at h
    split
    · rename_i h6 h7; rw [if_neg h6, if_pos h7] at h; simp at h
    · rename_i h6 h7; exact tdiv_in (wrap32_in _) h6 h7
  split
  · unfold divU32
    split
    · unfold I32; simp
    · exact wrap32_in _
  split
  · unfold remS32
    split
    · unfold I32; simp
    · rename_i h6; exact tmod_in (wrap32_in _) h6
  split
  · unfold remU32
    split
    · unfold I32; simp
    · exact wrap32_in _
  · exact bits32_in _ _ _
theorem clz32_in (a : Int) : 0 ≤ clz32 a ∧ clz32 a ≤ 32 := by
  have := bitLen_le32 (u32n a) (u32n_lt a)
  unfold clz32; omega
theorem ctz32_in (a : Int) : 0 ≤ ctz32 a ∧ ctz32 a ≤ 32 := by
  have := ctz_le (u32n a)
  unfold ctz32; omega
theorem pop32_in (a : Int) : 0 ≤ pop32 a ∧ pop32 a ≤ 32 := by
  have := popAux_le 32 (u32n a)
  unfold pop32; omega
theorem un32_in (op a : Int) : I32 (un32 op a) := by
  have h1 := clz32_in a
  have h2 := ctz32_in a
  have h3 := pop32_in a
  unfold un32
  repeat' split
  all_goals first | exact b01_in _ | (unfold I32; omega)

def opAt (l : List InsD) (k : Nat) : Int := match l[k]? with
  | some i => i.op
  | none => -1
def argAt (l : List InsD) (k : Nat) : Int := match l[k]? with
  | some i => i.a
  | none => 0
theorem opAt_in {l : List InsD} {k : Nat} (h : k < l.length) : opAt l k = l[k].op := by unfold opAt; rw [List.getElem?_eq_getElem h]
theorem argAt_in {l : List InsD} {k : Nat} (h : k < l.length) : argAt l k = l[k].a := by unfold argAt; rw [List.getElem?_eq_getElem h]
theorem opAt_out {l : List InsD} {k : Nat} (h : l.length ≤ k) : opAt l k = -1 := by unfold opAt; rw [List.getElem?_eq_none h]
theorem opAt_lt {l : List InsD} {k : Nat} (h : opAt l k ≠ -1) : k < l.length := by
  rcases Nat.lt_or_ge k l.length with h1 | h1
  · exact h1
  · exact absurd (opAt_out h1) h
theorem opAt_drop (l : List InsD) (k j : Nat) : opAt (l.drop k) j = opAt l (k + j) := by unfold opAt; rw [List.getElem?_drop]
theorem argAt_drop (l : List InsD) (k j : Nat) : argAt (l.drop k) j = argAt l (k + j) := by unfold argAt; rw [List.getElem?_drop]
def isTwo (op : Int) : Bool := decide (70 ≤ op ∧ op ≤ 79 ∨ 106 ≤ op ∧ op ≤ 120)
def isOne (op : Int) : Bool := decide (op = 69 ∨ 103 ≤ op ∧ op ≤ 105)
theorem isTwo_iff (op : Int) : isTwo op = true ↔ (70 ≤ op ∧ op ≤ 79 ∨ 106 ≤ op ∧ op ≤ 120) := by simp [isTwo]
theorem isOne_iff (op : Int) : isOne op = true ↔ (op = 69 ∨ 103 ≤ op ∧ op ≤ 105) := by simp [isOne]
/-- What the first instructions become, and how many they are. -/
def tryQ (o0 o1 o2 a0 a1 : Int) : List InsD × Nat :=
  if o0 = 65 ∧ o1 = 65 ∧ isTwo o2 = true then
    (if (bin32 o2 a0 a1).2 = 0 then ([⟨65, (bin32 o2 a0 a1).1, 0⟩], 3) else ([], 0))
  else if o0 = 65 ∧ isOne o1 = true then ([⟨65, un32 o1 a0, 0⟩], 2)
  else if (o0 = 65 ∨ o0 = 32 ∨ o0 = 35) ∧ o1 = 26 then ([], 2)
  else if o0 = 1 then ([], 1)
  else if o0 = 33 ∧ o1 = 32 ∧ a0 = a1 then ([⟨34, a0, 0⟩], 2)
  else if o0 = 69 ∧ o1 = 69 ∧ o2 = 69 then ([⟨69, 0, 0⟩], 3)
  else ([], 0)
def tryP (l : List InsD) : List InsD × Nat := tryQ (opAt l 0) (opAt l 1) (opAt l 2) (argAt l 0) (argAt l 1)

theorem try_fits (l : List InsD) : (tryP l).2 ≤ l.length ∧ (tryP l).1.length ≤ 1 ∧ ((tryP l).2 ≠ 0 → (tryP l).1.length < (tryP l).2) := by
  unfold tryP tryQ
  split
  · rename_i h
    have h3 := (isTwo_iff _).1 h.2.2
    have h4 := opAt_lt (l := l) (k := 2) (by omega)
    split <;> simp
    omega
  split
  · rename_i h
    have h3 := (isOne_iff _).1 h.2
    have h4 := opAt_lt (l := l) (k := 1) (by omega)
    simp; omega
  split
  · rename_i h
    have h4 := opAt_lt (l := l) (k := 1) (by omega)
    simp; omega
  split
  · rename_i h
    have h4 := opAt_lt (l := l) (k := 0) (by omega)
    simp; omega
  split
  · rename_i h
    have h4 := opAt_lt (l := l) (k := 1) (by omega)
    simp; omega
  split
  · rename_i h
    have h4 := opAt_lt (l := l) (k := 2) (by omega)
    simp; omega
  · simp

theorem ok_at {l : List InsD} {k : Nat} (h : l.all insOk = true) (hk : k < l.length) : insOk l[k] = true := List.all_eq_true.1 h _ (List.getElem_mem hk)
theorem ok_const {n : Int} (h : I32 n) : insOk ⟨65, n, 0⟩ = true := by
  have h1 : knownB 65 = true := by decide +kernel
  rw [insOk_4 h1 (show kindOf 65 = 4 by decide)]
  unfold I32 at h
  simp; omega
theorem ok_tee {n : Int} (h : 0 ≤ n ∧ n ≤ 1000) : insOk ⟨34, n, 0⟩ = true := by
  have h1 : knownB 34 = true := by decide +kernel
  rw [insOk_2 h1 (show kindOf 34 = 2 by decide)]
  simp; omega
theorem ok_set {i : InsD} (h : insOk i = true) (ho : i.op = 33) : 0 ≤ i.a ∧ i.a ≤ 1000 := by
  have h1 : knownB i.op = true := by rw [ho]; decide +kernel
  rw [insOk_2 h1 (by rw [ho]; decide)] at h
  simp at h
  omega
theorem ok_num {i : InsD} (h : insOk i = true) (ho : i.op = 65) : I32 i.a := by
  have h1 : knownB i.op = true := by rw [ho]; decide +kernel
  rw [insOk_4 h1 (by rw [ho]; decide)] at h
  simp at h
  unfold I32
  omega
theorem try_ok {l : List InsD} (h : l.all insOk = true) : (tryP l).1.all insOk = true := by
  unfold tryP tryQ
  split
  · split
    · rename_i h1; simp only [List.all_cons, List.all_nil, Bool.and_true]; exact ok_const (bin32_in _ _ _ h1)
    · rfl
  split
  · simp only [List.all_cons, List.all_nil, Bool.and_true]; exact ok_const (un32_in _ _)
  split
  · rfl
  split
  · rfl
  split
  · rename_i h1
    have h4 := opAt_lt (l := l) (k := 0) (by omega)
    simp only [List.all_cons, List.all_nil, Bool.and_true]
    rw [argAt_in h4]
    have h5 := h1.1
    rw [opAt_in h4] at h5
    exact ok_tee (ok_set (ok_at h h4) h5)
  split
  · simp only [List.all_cons, List.all_nil, Bool.and_true]; decide +kernel
  · rfl

/-- The first place at which something goes. -/
def onceP : List InsD → Option (List InsD)
  | [] => none
  | i :: l => if (tryP (i :: l)).2 = 0 then (onceP l).map (fun x => i :: x) else some ((tryP (i :: l)).1 ++ (i :: l).drop (tryP (i :: l)).2)
theorem onceP_skip : ∀ (k : Nat) (l : List InsD), (∀ j, j < k → (tryP (l.drop j)).2 = 0) → onceP l = (onceP (l.drop k)).map (fun x => l.take k ++ x)
  | 0, l, _ => by simp
  | k + 1, [], _ => by simp [onceP]
  | k + 1, i :: l, h => by
    have h0 := h 0 (by omega)
    rw [List.drop_zero] at h0
    rw [onceP, if_pos h0, onceP_skip k l (fun j hj => h (j + 1) (by omega))]
    simp only [Option.map_map, List.drop_succ_cons, List.take_succ_cons, List.cons_append]
    rfl
theorem onceP_at {l : List InsD} {k : Nat} (hk : k < l.length) (h : ∀ j, j < k → (tryP (l.drop j)).2 = 0) (h1 : (tryP (l.drop k)).2 ≠ 0) :
    onceP l = some (l.take k ++ (tryP (l.drop k)).1 ++ l.drop (k + (tryP (l.drop k)).2)) := by
  rw [onceP_skip k l h]
  have e : l.drop k = l[k] :: l.drop (k + 1) := List.drop_eq_getElem_cons hk
  have e2 : onceP (l.drop k) = some ((tryP (l.drop k)).1 ++ (l.drop k).drop (tryP (l.drop k)).2) := by
    rw [e] at h1 ⊢
    rw [onceP, if_neg h1]
  rw [e2, Option.map_some, List.drop_drop]
  simp
theorem onceP_no {l : List InsD} (h : ∀ j, j < l.length → (tryP (l.drop j)).2 = 0) : onceP l = none := by
  rw [onceP_skip l.length l h]
  simp [onceP]
theorem onceP_lt : ∀ (l : List InsD) {l' : List InsD}, onceP l = some l' → l'.length < l.length
  | [], _, h => by simp [onceP] at h
  | i :: l, l', h => by
    rw [onceP] at h
    split at h
    · cases e : onceP l with
      | none => simp [e] at h
      | some x =>
        have := onceP_lt l e
        simp [e] at h
        subst h
        simp; omega
    · rename_i h1
      have h2 := try_fits (i :: l)
      have h3 := h2.2.2 h1
      simp at h
      subst h
      rw [List.length_append, List.length_drop]
      omega
theorem onceP_ok : ∀ (l : List InsD) {l' : List InsD}, l.all insOk = true → onceP l = some l' → l'.all insOk = true
  | [], _, _, h => by simp [onceP] at h
  | i :: l, l', ho, h => by
    rw [onceP] at h
    split at h
    · cases e : onceP l with
      | none => simp [e] at h
      | some x =>
        simp [e] at h
        subst h
        rw [List.all_cons, Bool.and_eq_true] at ho ⊢
        exact ⟨ho.1, onceP_ok l ho.2 e⟩
    · simp at h
      subst h
      rw [List.all_append, Bool.and_eq_true]
      refine ⟨try_ok ho, ?_⟩
      rw [List.all_eq_true] at ho ⊢
      exact fun x hx => ho x (List.mem_of_mem_drop hx)

def peepOnce (l : List InsD) : List InsD := if l.all insOk = true then (onceP l).getD l else l
def bodyP : Nat → List InsD → List InsD
  | 0, l => l
  | f + 1, l => match onceP l with
    | none => l
    | some x => bodyP f x
def peepBody (l : List InsD) : List InsD := if l.all insOk = true then bodyP l.length l else l
theorem bodyP_fuel : ∀ (f g : Nat) (l : List InsD), l.length ≤ f → l.length ≤ g → bodyP f l = bodyP g l
  | 0, 0, _, _, _ => rfl
  | 0, g + 1, l, h, _ => by
    have e : l = [] := List.eq_nil_of_length_eq_zero (by omega)
    subst e
    rfl
  | f + 1, 0, l, _, h => by
    have e : l = [] := List.eq_nil_of_length_eq_zero (by omega)
    subst e
    rfl
  | f + 1, g + 1, l, h1, h2 => by
    rw [bodyP, bodyP]
    cases e : onceP l with
    | none => rfl
    | some x =>
      have := onceP_lt l e
      exact bodyP_fuel f g x (by omega) (by omega)
theorem body_none {l : List InsD} (h : onceP l = none) : bodyP l.length l = l := by
  cases e : l.length with
  | zero => rfl
  | succ f => rw [bodyP, h]
theorem body_some {l x : List InsD} (h : onceP l = some x) : bodyP l.length l = bodyP x.length x := by
  have h1 := onceP_lt l h
  cases e : l.length with
  | zero => omega
  | succ f =>
    rw [bodyP, h]
    exact bodyP_fuel _ _ _ (by omega) (Nat.le_refl _)
theorem onceP_len (l : List InsD) : ((onceP l).getD l).length ≤ l.length := by
  cases e : onceP l with
  | none => simp
  | some x => have := onceP_lt l e; simp; omega
end Go.Proofs.YtnldaicibnkeoaaGreatDoor
namespace Go.Proofs.YtnldaicibnkeoaaGreatDoor
attribute [local go_sem ↓] Go.wp_at_zero Go.wp_at_succ
open Go.RowKit
open Rep (Is sz)

def isCmp (op : Int) : Bool := decide (70 ≤ op ∧ op ≤ 79)
def isNum (op : Int) : Bool := decide (106 ≤ op ∧ op ≤ 120)
theorem isTwo_or (op : Int) : isTwo op = (isCmp op || isNum op) := by unfold isTwo isCmp isNum; rw [Bool.eq_iff_iff]; simp
theorem iscmp (op : Int) (w : World) : Calls Tryz.prog 108 #[.int .i64 op] w fun e w' => e = .returned (.bool (isCmp op)) ∧ Step w w' := by
  have hr := hid (show isCmp op = (decide (70 ≤ op) && decide (op ≤ 79)) by unfold isCmp; rw [Bool.eq_iff_iff]; simp)
  go_enter Tryz.func108, Tryz.ntmps108
  go_wp2_with (first | (go_at_call 46; (with_reducible refine Calls.mono (within_any ..) ?_); rintro e wk ⟨rfl, rfl⟩))
  go_ret
  exact ⟨by rw [hr.out]; rfl, mkStep⟩
theorem itwo (op : Int) (w : World) : Calls Tryz.prog 91 #[.int .i64 op] w fun e w' => e = .returned (.bool (isTwo op)) ∧ Step w w' := by
  have hr := hid (isTwo_or op)
  have hn := hid (show isNum op = (decide (106 ≤ op) && decide (op ≤ 120)) by unfold isNum; rw [Bool.eq_iff_iff]; simp)
  go_enter Tryz.func91, Tryz.ntmps91
  cases q : isCmp op
  · rw [q] at hr
    go_wp2_with (first | (go_at_call 46; (with_reducible refine Calls.mono (within_any ..) ?_); rintro e wk ⟨rfl, rfl⟩) | (go_at_call 108; (with_reducible refine Calls.mono (iscmp ..) ?_); rintro e wk ⟨rfl, st⟩))
    go_ret
    exact ⟨by rw [hr.out, Bool.false_or, hn.out]; rfl, mkStep⟩
  · rw [q] at hr
    go_wp2_with (first | (go_at_call 46; (with_reducible refine Calls.mono (within_any ..) ?_); rintro e wk ⟨rfl, rfl⟩) | (go_at_call 108; (with_reducible refine Calls.mono (iscmp ..) ?_); rintro e wk ⟨rfl, st⟩))
    go_ret
    exact ⟨by rw [hr.out]; rfl, mkStep⟩
theorem isOne_or (op : Int) : isOne op = (op == 69 || decide (103 ≤ op) && decide (op ≤ 105)) := by unfold isOne; rw [Bool.eq_iff_iff]; simp
theorem ione (op : Int) (w : World) : Calls Tryz.prog 93 #[.int .i64 op] w fun e w' => e = .returned (.bool (isOne op)) ∧ Step w w' := by
  have hr := hid (isOne_or op)
  by_cases q : op = 69
  · have hz := hid (show isOne op = true by rw [isOne_iff]; exact .inl q)
    go_enter Tryz.func93, Tryz.ntmps93
    go_wp2_with (first | (go_at_call 46; (with_reducible refine Calls.mono (within_any ..) ?_); rintro e wk ⟨rfl, rfl⟩))
    go_ret
    exact ⟨by rw [hz.out]; rfl, mkStep⟩
  · go_enter Tryz.func93, Tryz.ntmps93
    go_wp2_with (first | (go_at_call 46; (with_reducible refine Calls.mono (within_any ..) ?_); rintro e wk ⟨rfl, rfl⟩))
    go_ret
    exact ⟨by rw [hr.out]; rfl, mkStep⟩

theorem bin_cmp {op : Int} (h : op ≤ 79) (a b : Int) : bin32 op a b = (b01 (cmp32 (op - 70 + 1) a b), 0) := by unfold bin32; rw [if_pos h]
theorem bin_106 (a b : Int) : bin32 106 a b = (add32 a b, 0) := by unfold bin32; rw [if_neg (by decide), if_pos rfl]
theorem bin_107 (a b : Int) : bin32 107 a b = (sub32 a b, 0) := by unfold bin32; rw [if_neg (by decide), if_neg (by decide), if_pos rfl]
theorem bin_108 (a b : Int) : bin32 108 a b = (mul32 a b, 0) := by unfold bin32; rw [if_neg (by decide), if_neg (by decide), if_neg (by decide), if_pos rfl]
theorem bin_109 (a b : Int) : bin32 109 a b = divS32 a b := by unfold bin32; rw [if_neg (by decide), if_neg (by decide), if_neg (by decide), if_neg (by decide), if_pos rfl]
theorem bin_110 (a b : Int) : bin32 110 a b = divU32 a b := by unfold bin32; rw [if_neg (by decide), if_neg (by decide), if_neg (by decide), if_neg (by decide), if_neg (by decide), if_pos rfl]
theorem bin_111 (a b : Int) : bin32 111 a b = remS32 a b := by unfold bin32; rw [if_neg (by decide), if_neg (by decide), if_neg (by decide), if_neg (by decide), if_neg (by decide), if_neg (by decide), if_pos rfl]
theorem bin_112 (a b : Int) : bin32 112 a b = remU32 a b := by unfold bin32; rw [if_neg (by decide), if_neg (by decide), if_neg (by decide), if_neg (by decide), if_neg (by decide), if_neg (by decide), if_neg (by decide), if_pos rfl]
theorem bin_bits {op : Int} (h : 113 ≤ op) (a b : Int) : bin32 op a b = (bits32 (op - 106 - 6) a b, 0) := by unfold bin32; rw [if_neg (by omega), if_neg (by omega), if_neg (by omega), if_neg (by omega), if_neg (by omega), if_neg (by omega), if_neg (by omega), if_neg (by omega)]
theorem two_cases {op : Int} (ht : isTwo op = true) : (70 ≤ op ∧ op ≤ 79) ∨ op = 106 ∨ op = 107 ∨ op = 108 ∨ op = 109 ∨ op = 110 ∨ op = 111 ∨ op = 112 ∨ (113 ≤ op ∧ op ≤ 120) := by
  have h := (isTwo_iff op).1 ht
  omega
theorem ret_pair {k l : IntKind} {a b : Int} {p : Int × Int} (h : p = (a, b)) : Ending.returned (.tuple #[.int k a, .int l b]) = .returned (.tuple #[.int k p.1, .int l p.2]) := by rw [h]
theorem ret_pair' {k l : IntKind} {p q : Int × Int} (h : q = p) : Ending.returned (.tuple #[.int k p.1, .int l p.2]) = .returned (.tuple #[.int k q.1, .int l q.2]) := by rw [h]
theorem ibin (op a b : Int) (w : World) (ht : isTwo op = true) : Calls Tryz.prog 92 #[.int .i64 op, .int .i64 a, .int .i64 b] w fun e w' => e = .returned (.tuple #[.int .i64 (bin32 op a b).1, .int .i64 (bin32 op a b).2]) ∧ Step w w' := by
  rcases two_cases ht with h | rfl | rfl | rfl | rfl | rfl | rfl | rfl | h <;> clear ht
  · have q1 : isCmp op = true := by unfold isCmp; exact decide_eq_true h
    have hr := hid (bin_cmp h.2 a b)
    go_enter Tryz.func92, Tryz.ntmps92
    cases q : cmp32 (op - 70 + 1) a b
    · rw [q] at hr
      go_wp2_with (first | (go_at_call 108; (with_reducible refine Calls.mono (iscmp ..) ?_); rintro e wk ⟨rfl, st⟩) | (go_at_call 109; (with_reducible refine Calls.mono (icmp _ _ _ _ (by omega)) ?_); rintro e wk ⟨rfl, st⟩))
      go_ret2
      exact ⟨ret_pair hr.out, mkStep⟩
    · rw [q] at hr
      go_wp2_with (first | (go_at_call 108; (with_reducible refine Calls.mono (iscmp ..) ?_); rintro e wk ⟨rfl, st⟩) | (go_at_call 109; (with_reducible refine Calls.mono (icmp _ _ _ _ (by omega)) ?_); rintro e wk ⟨rfl, st⟩))
      go_ret2
      exact ⟨ret_pair hr.out, mkStep⟩
  · have q1 : isCmp 106 = false := by decide
    have hr := hid (bin_106 a b)
    go_enter Tryz.func92, Tryz.ntmps92
    go_wp2_with (first | (go_at_call 108; (with_reducible refine Calls.mono (iscmp ..) ?_); rintro e wk ⟨rfl, st⟩) | (go_at_call 110; (with_reducible refine Calls.mono (iadd ..) ?_); rintro e wk ⟨rfl, st⟩))
    go_ret2
    exact ⟨ret_pair hr.out, mkStep⟩
  · have q1 : isCmp 107 = false := by decide
    have hr := hid (bin_107 a b)
    go_enter Tryz.func92, Tryz.ntmps92
    go_wp2_with (first | (go_at_call 108; (with_reducible refine Calls.mono (iscmp ..) ?_); rintro e wk ⟨rfl, st⟩) | (go_at_call 111; (with_reducible refine Calls.mono (isub ..) ?_); rintro e wk ⟨rfl, st⟩))
    go_ret2
    exact ⟨ret_pair hr.out, mkStep⟩
  · have q1 : isCmp 108 = false := by decide
    have hr := hid (bin_108 a b)
    go_enter Tryz.func92, Tryz.ntmps92
    go_wp2_with (first | (go_at_call 108; (with_reducible refine Calls.mono (iscmp ..) ?_); rintro e wk ⟨rfl, st⟩) | (go_at_call 112; (with_reducible refine Calls.mono (imul ..) ?_); rintro e wk ⟨rfl, st⟩))
    go_ret2
    exact ⟨ret_pair hr.out, mkStep⟩
  · have q1 : isCmp 109 = false := by decide
    have hr := hid (bin_109 a b)
    go_enter Tryz.func92, Tryz.ntmps92
    go_wp2_with (first | (go_at_call 108; (with_reducible refine Calls.mono (iscmp ..) ?_); rintro e wk ⟨rfl, st⟩) | (go_at_call 113; (with_reducible refine Calls.mono (idivs ..) ?_); rintro e wk ⟨rfl, st⟩))
    go_ret2
    exact ⟨ret_pair' hr.out, mkStep⟩
  · have q1 : isCmp 110 = false := by decide
    have hr := hid (bin_110 a b)
    go_enter Tryz.func92, Tryz.ntmps92
    go_wp2_with (first | (go_at_call 108; (with_reducible refine Calls.mono (iscmp ..) ?_); rintro e wk ⟨rfl, st⟩) | (go_at_call 114; (with_reducible refine Calls.mono (idivu ..) ?_); rintro e wk ⟨rfl, st⟩))
    go_ret2
    exact ⟨ret_pair' hr.out, mkStep⟩
  · have q1 : isCmp 111 = false := by decide
    have hr := hid (bin_111 a b)
    go_enter Tryz.func92, Tryz.ntmps92
    go_wp2_with (first | (go_at_call 108; (with_reducible refine Calls.mono (iscmp ..) ?_); rintro e wk ⟨rfl, st⟩) | (go_at_call 115; (with_reducible refine Calls.mono (irems ..) ?_); rintro e wk ⟨rfl, st⟩))
    go_ret2
    exact ⟨ret_pair' hr.out, mkStep⟩
  · have q1 : isCmp 112 = false := by decide
    have hr := hid (bin_112 a b)
    go_enter Tryz.func92, Tryz.ntmps92
    go_wp2_with (first | (go_at_call 108; (with_reducible refine Calls.mono (iscmp ..) ?_); rintro e wk ⟨rfl, st⟩) | (go_at_call 116; (with_reducible refine Calls.mono (iremu ..) ?_); rintro e wk ⟨rfl, st⟩))
    go_ret2
    exact ⟨ret_pair' hr.out, mkStep⟩
  · have q1 : isCmp op = false := by unfold isCmp; exact decide_eq_false (by omega)
    have hr := hid (bin_bits h.1 a b)
    have n0 : (op - 106 == 0) = false := by rw [beq_eq_false_iff_ne]; omega
    have n1 : (op - 106 == 1) = false := by rw [beq_eq_false_iff_ne]; omega
    have n2 : (op - 106 == 2) = false := by rw [beq_eq_false_iff_ne]; omega
    have n3 : (op - 106 == 3) = false := by rw [beq_eq_false_iff_ne]; omega
    have n4 : (op - 106 == 4) = false := by rw [beq_eq_false_iff_ne]; omega
    have n5 : (op - 106 == 5) = false := by rw [beq_eq_false_iff_ne]; omega
    have n6 : (op - 106 == 6) = false := by rw [beq_eq_false_iff_ne]; omega
    go_enter Tryz.func92, Tryz.ntmps92
    go_wp2_with (first | (go_at_call 108; (with_reducible refine Calls.mono (iscmp ..) ?_); rintro e wk ⟨rfl, st⟩) | (go_at_call 117; (with_reducible refine Calls.mono (ibits _ _ _ _ (by omega)) ?_); rintro e wk ⟨rfl, st⟩))
    go_ret2
    exact ⟨ret_pair hr.out, mkStep⟩

theorem un_103 (a : Int) : un32 103 a = clz32 a := by unfold un32; rw [if_pos rfl]
theorem un_104 (a : Int) : un32 104 a = ctz32 a := by unfold un32; rw [if_neg (by decide), if_pos rfl]
theorem un_105 (a : Int) : un32 105 a = pop32 a := by unfold un32; rw [if_neg (by decide), if_neg (by decide), if_pos rfl]
theorem un_69 (a : Int) : un32 69 a = b01 (decide (wrap32 a = 0)) := by unfold un32; rw [if_neg (by decide), if_neg (by decide), if_neg (by decide)]
theorem one_cases {op : Int} (ht : isOne op = true) : op = 69 ∨ op = 103 ∨ op = 104 ∨ op = 105 := by
  have h := (isOne_iff op).1 ht
  omega
theorem iun (op a : Int) (w : World) (ht : isOne op = true) [hT : HasTz w] : Calls Tryz.prog 94 #[.int .i64 op, .int .i64 a] w fun e w' => e = .returned (.int .i64 (un32 op a)) ∧ Step w w' := by
  have kT := hT.known
  rcases one_cases ht with rfl | rfl | rfl | rfl <;> clear ht hT
  · by_cases h0 : wrap32 a = 0
    · have hr := hid (show un32 69 a = 1 by rw [un_69, decide_eq_true h0]; rfl)
      go_enter Tryz.func94, Tryz.ntmps94
      go_wp2_with (first | (go_at_call 121; (with_reducible refine Calls.mono (iwrap_any ..) ?_); rintro e wk ⟨rfl, rfl⟩))
      go_ret
      exact ⟨by rw [hr.out]; rfl, mkStep⟩
    · have hr := hid (show un32 69 a = 0 by rw [un_69, decide_eq_false h0]; rfl)
      go_enter Tryz.func94, Tryz.ntmps94
      go_wp2_with (first | (go_at_call 121; (with_reducible refine Calls.mono (iwrap_any ..) ?_); rintro e wk ⟨rfl, rfl⟩))
      go_ret
      exact ⟨by rw [hr.out]; rfl, mkStep⟩
  · have hr := hid (un_103 a)
    go_enter Tryz.func94, Tryz.ntmps94
    go_wp2_with (first | (go_at_call 118; (with_reducible refine Calls.mono (iclz ..) ?_); rintro e wk ⟨rfl, st⟩))
    go_ret
    exact ⟨by rw [hr.out]; rfl, mkStep⟩
  · have hr := hid (un_104 a)
    go_enter Tryz.func94, Tryz.ntmps94
    go_wp2_with (first | (go_at_call 119; (with_reducible refine Calls.mono (ictz ..) ?_); rintro e wk ⟨rfl, st⟩))
    go_ret
    exact ⟨by rw [hr.out]; rfl, mkStep⟩
  · have hr := hid (un_105 a)
    go_enter Tryz.func94, Tryz.ntmps94
    go_wp2_with (first | (go_at_call 120; (with_reducible refine Calls.mono (ipop ..) ?_); rintro e wk ⟨rfl, st⟩))
    go_ret
    exact ⟨by rw [hr.out]; rfl, mkStep⟩
end Go.Proofs.YtnldaicibnkeoaaGreatDoor
namespace Go.Proofs.YtnldaicibnkeoaaGreatDoor
open Go.RowKit
open Rep (Is sz)

theorem fr_row (w : World) (g : Nat) (cs : Array Value) : Fr [g] w (w.setRow g cs) :=
  ⟨rfl, rfl, rfl, by simp [World.setRow], fun k _ hn => setRow_other w g k cs (by simpa using hn)⟩

/-- Cells written over. -/
def over (xs : List Value) (o : Nat) (cs : List Value) : List Value := xs.take o ++ cs ++ xs.drop (o + cs.length)
theorem over_len {xs : List Value} {o : Nat} {cs : List Value} (h : o + cs.length ≤ xs.length) : (over xs o cs).length = xs.length := by
  unfold over; simp; omega

theorem over_at {xs : List Value} {o : Nat} {v : Value} (h : o < xs.length) : (over xs o [v])[o]? = some v := by
  unfold over
  have h1 : (xs.take o).length = o := by simp; omega
  rw [List.append_assoc, List.getElem?_append_right (by omega), h1]
  simp

theorem own_over {w : World} {B g : Nat} {e : TypeId} {m n cap : Nat} {xs : List Value} (h : w.ownsRow B e m (.slice (some ⟨g, 0, none⟩) n cap) n xs) (o : Nat) (cs : List Value) (hfit : o + cs.length ≤ xs.length) (hm : 0 < cs.length) :
    ∃ cur, w.heap[g]? = some (.cells cur e (0, 0)) ∧ o + cs.length ≤ cur.size ∧
      (w.setRow g (cur.toList.take o ++ cs ++ cur.toList.drop (o + cs.length)).toArray).ownsRow B e m (.slice (some ⟨g, 0, none⟩) n cap) n (over xs o cs) ∧
      Fr [g] w (w.setRow g (cur.toList.take o ++ cs ++ cur.toList.drop (o + cs.length)).toArray) := by
  obtain ⟨hl, h⟩ := h
  rcases h with ⟨h, _⟩ | ⟨g', cap', cur, hv, hB, hg, hn, hc, hsz, hx⟩
  · simp at h
  · simp at hv
    obtain ⟨rfl, rfl⟩ := hv
    have hle : n * m ≤ cur.size := by rw [hsz]; exact Nat.mul_le_mul_right _ hn
    have hcl : cur.toList.length = cur.size := by simp
    refine ⟨cur, hg, by omega, ⟨by rw [over_len hfit]; exact hl, .inr ⟨g, cap, _, rfl, hB, setRow_heap w g _ _ _ _ hg, hn, hc, ?_, ?_⟩⟩, ?_⟩
    · simp; omega
    · rw [List.toList_toArray, ← hx]
      unfold over
      rw [List.take_take, List.drop_take, Nat.min_eq_left (by omega), List.append_assoc, List.take_append, List.take_append, List.append_assoc]
      congr 1
      · rw [List.take_of_length_le (by simp; omega)]
      · congr 1
        · rw [List.take_of_length_le (by simp; omega)]
        · congr 1
          simp
          omega
    · exact fr_row _ _ _

theorem own_one {w : World} {ax : Option Addr} {s n : Nat} {cs : List Value} (hv : View w ax s n cs) (h : 0 < n) : ∃ ad, ax = some ad ∧ ∀ j v, cs[j]? = some v → w.cell? (ad.add j) = some v := by
  obtain ⟨b, o, rfl, hc⟩ := hv.cells h
  exact ⟨_, rfl, fun j v hj => by rw [Addr.add_lit]; exact (hc j v hj).1⟩

theorem size_of {P : Program} {e : TypeId} {m : Nat} (hi : (P.info? e).map (·.size) = some m) (w : World) : (Go.sizeOf e).run P w = .ok m w := by
  cases hq : P.info? e with
  | none => simp [hq] at hi
  | some i =>
    have : i.size = m := by simpa [hq] using hi
    simp [Go.sizeOf, typeInfo, hq, this]

/-- copy into one's own row: k elements of the source's, at an element's place. -/
theorem wp_copy_row {P : Program} (w : World) {o : Oper} {a : Act} {K : Act → World → Prop} {Q : Exit → Act → World → Prop} (d s : Operand) (dT sT : TypeId)
    (ho : o.op = .call { callee := .builtin .copy, args := #[d, s], argTypes := #[dT, sT] }) (e : TypeId) (m : Nat) (hu : P.underlying dT = some (.slice e)) (hs : (P.info? e).map (·.size) = some m)
    (B g n cap : Nat) (xs : List Value) (hown : w.ownsRow B e m (.slice (some ⟨g, 0, none⟩) n cap) n xs) (off dLen dCap k : Nat) (hd : a.eval d = .slice (some ⟨g, off, none⟩) dLen dCap)
    (ax : Option Addr) (sLen sCap : Nat) (cs : List Value) (hx : a.eval s = .slice ax sLen sCap) (hk : k = Nat.min sLen dLen) (hv : View w ax m k cs) (h1 : ∀ u ∈ cs, u.oneCell' = true) (hm : 0 < m)
    (hfit : off + cs.length ≤ xs.length)
    (h : ∀ w', w'.ownsRow B e m (.slice (some ⟨g, 0, none⟩) n cap) n (over xs off cs) → Fr [g] w w' → K (a.put o.dst (goInt k)) w') : o.wp P a w K Q := by
  rcases Nat.eq_zero_or_pos k with h0 | h0
  · have e1 : cs = [] := List.eq_nil_of_length_eq_zero (by rw [hv.len, h0, Nat.zero_mul])
    subst e1
    have e2 : over xs off [] = xs := by unfold over; simp
    rw [e2] at h
    have hl : ∀ x : Addr, (loadCells x 0).run P w = .ok #[] w := fun x => by simpa using run_loadCells_list (P := P) w x [] (by simp)
    have hrun : (Builtin.copy_ #[dT, sT] o.type #[.slice (some ⟨g, off, none⟩) dLen dCap, .slice ax sLen sCap]).run P w = .ok (goInt k) w := by
      rw [h0] at hk ⊢
      cases ax <;> simp [Builtin.copy_, run_underlying hu, Builtin.lenOf, Builtin.firstCells, size_of hs, ← hk, storeCells, hl]
    unfold Oper.wp
    simp [execOp, ho, resolve, invoke, builtin, hd, hx, hrun, Result.andThen]
    exact h w hown ((Fr.refl [] w).mono (by simp))
  · obtain ⟨ad, rfl, hsrc⟩ := own_one hv h0
    have hcs : cs.length = k * m := hv.len
    obtain ⟨cur, hg, hfit2, ho2, hf⟩ := own_over hown off cs hfit (by rw [hcs]; exact Nat.mul_pos h0 hm)
    have hl2 := run_loadCells_list (P := P) w ad cs hsrc
    rw [hcs] at hl2
    have hst := run_storeCells_at P g off e cs 0 cur w hg (by simpa using hfit2) h1
    rw [Nat.add_zero] at hst
    generalize (cur.toList.take off ++ cs ++ cur.toList.drop (off + cs.length)).toArray = arr at hst ho2 hf
    have hrun : (Builtin.copy_ #[dT, sT] o.type #[.slice (some ⟨g, off, none⟩) dLen dCap, .slice (some ad) sLen sCap]).run P w = .ok (goInt k) (w.setRow g arr) := by
      simp [Builtin.copy_, run_underlying hu, Builtin.lenOf, Builtin.firstCells, size_of hs, ← hk, hl2, hst]
    unfold Oper.wp
    simp only [execOp, ho, resolve, invoke, builtin]
    simp [hd, hx, hrun, Result.andThen]
    exact h _ ho2 hf

/-- clear of the end of one's own row. -/
theorem wp_clear_row {P : Program} (w : World) {o : Oper} {a : Act} {K : Act → World → Prop} {Q : Exit → Act → World → Prop} (d : Operand) (dT : TypeId)
    (ho : o.op = .call { callee := .builtin .clear, args := #[d], argTypes := #[dT] }) (e : TypeId) (m : Nat) (z : Value) (hu : P.underlying dT = some (.slice e)) (hz : ∀ w, (zeroValue e).run P w = .ok z w)
    (B g n cap : Nat) (xs : List Value) (hown : w.ownsRow B e m (.slice (some ⟨g, 0, none⟩) n cap) n xs) (off k c : Nat) (hd : a.eval d = .slice (some ⟨g, off, none⟩) k c)
    (cs : List Value) (hc : (Builtin.zeroCells z.cells k).toList = cs) (h1 : ∀ u ∈ cs, u.oneCell' = true) (h0 : 0 < k) (hp : 0 < cs.length) (hfit : off + cs.length ≤ xs.length)
    (h : ∀ w', w'.ownsRow B e m (.slice (some ⟨g, 0, none⟩) n cap) n (over xs off cs) → Fr [g] w w' → K (a.put o.dst (.tuple #[])) w') : o.wp P a w K Q := by
  obtain ⟨cur, hg, hfit2, ho2, hf⟩ := own_over hown off cs hfit hp
  have hst := run_storeCells_at P g off e cs 0 cur w hg (by simpa using hfit2) h1
  rw [Nat.add_zero] at hst
  generalize (cur.toList.take off ++ cs ++ cur.toList.drop (off + cs.length)).toArray = arr at hst ho2 hf
  have hrun : (Builtin.clear_ #[dT] o.type #[.slice (some ⟨g, off, none⟩) k c]).run P w = .ok (.tuple #[]) (w.setRow g arr) := by
    obtain ⟨k', rfl⟩ : ∃ k', k = k' + 1 := ⟨k - 1, by omega⟩
    simp [Builtin.clear_, run_underlying hu, hz, hc, hst]
  unfold Oper.wp
  simp only [execOp, ho, resolve, invoke, builtin]
  simp [hd, hrun, Result.andThen]
  exact h _ ho2 hf

/-- append onto the beginning of one's own row, where it fits. -/
theorem wp_app_fit {P : Program} (w : World) {o : Oper} {a : Act} {K : Act → World → Prop} {Q : Exit → Act → World → Prop} (s x : Operand) (t : TypeId)
    (ho : o.op = .call { callee := .builtin .append, args := #[s, x], argTypes := #[t, t] }) (e : TypeId) (m : Nat) (hu : P.underlying t = some (.slice e)) (hs : (P.info? e).map (·.size) = some m)
    (B g n cap : Nat) (xs : List Value) (hown : w.ownsRow B e m (.slice (some ⟨g, 0, none⟩) n cap) n xs) (i k : Nat) (hd : a.eval s = .slice (some ⟨g, 0, none⟩) i cap)
    (ax : Option Addr) (c : Nat) (cs : List Value) (hx : a.eval x = .slice ax k c) (hv : View w ax m k cs) (h1 : ∀ u ∈ cs, u.oneCell' = true) (hm : 0 < m) (hfit : i + k ≤ n)
    (h : ∀ w', w'.ownsRow B e m (.slice (some ⟨g, 0, none⟩) n cap) n (over xs (i * m) cs) → Fr [g] w w' → K (a.put o.dst (.slice (some ⟨g, 0, none⟩) (i + k) cap)) w') : o.wp P a w K Q := by
  have hcap := (ownsRow_cap hown).1
  have hxs : xs.length = n * m := hown.1
  have hne : ((some (TypeDesc.slice e) : Option TypeDesc).getD default matches .int _) = false := rfl
  rcases Nat.eq_zero_or_pos k with h0 | h0
  · have e1 : cs = [] := List.eq_nil_of_length_eq_zero (by rw [hv.len, h0, Nat.zero_mul])
    subst e1
    have e2 : over xs (i * m) [] = xs := by unfold over; simp
    rw [e2] at h
    have hl : ∀ x : Addr, (loadCells x 0).run P w = .ok #[] w := fun x => by simpa using run_loadCells_list (P := P) w x [] (by simp)
    have hrun : (Builtin.append_ #[t, t] o.type #[.slice (some ⟨g, 0, none⟩) i cap, .slice ax k c]).run P w = .ok (.slice (some ⟨g, 0, none⟩) (i + k) cap) w := by
      subst h0
      have h9 : i ≤ cap := by omega
      cases ax <;> simp [Builtin.append_, run_underlying hu, Builtin.lenOf, Builtin.firstCells, size_of hs, storeCells, hl, h9]
    unfold Oper.wp
    simp only [execOp, ho, resolve, invoke, builtin]
    simp [hd, hx, hrun, Result.andThen]
    exact h w hown ((Fr.refl [] w).mono (by simp))
  · obtain ⟨ad, rfl, hsrc⟩ := own_one hv h0
    have hcs : cs.length = k * m := hv.len
    have hle : (i + k) * m ≤ n * m := Nat.mul_le_mul_right _ hfit
    obtain ⟨cur, hg, hfit2, ho2, hf⟩ := own_over hown (i * m) cs (by rw [hcs, ← Nat.add_mul, hxs]; exact hle) (by rw [hcs]; exact Nat.mul_pos h0 hm)
    have hl2 := run_loadCells_list (P := P) w ad cs hsrc
    rw [hcs] at hl2
    have hst := run_storeCells_at P g (i * m) e cs 0 cur w hg (by simpa using hfit2) h1
    rw [Nat.add_zero] at hst
    generalize (cur.toList.take (i * m) ++ cs ++ cur.toList.drop (i * m + cs.length)).toArray = arr at hst ho2 hf
    have hrun : (Builtin.append_ #[t, t] o.type #[.slice (some ⟨g, 0, none⟩) i cap, .slice (some ad) k c]).run P w = .ok (.slice (some ⟨g, 0, none⟩) (i + k) cap) (w.setRow g arr) := by
      have h9 : i + k ≤ cap := by omega
      simp [Builtin.append_, run_underlying hu, Builtin.lenOf, Builtin.firstCells, size_of hs, hl2, Addr.add_lit, hst, h9]
    unfold Oper.wp
    simp only [execOp, ho, resolve, invoke, builtin]
    simp [hd, hx, hrun, Result.andThen]
    exact h _ ho2 hf

theorem app_fit {P : Program} (w : World) {ops : Array Oper} {rest : List Oper} {o : Oper} {a : Act} {Q : Exit → Act → World → Prop} (hgd : o.guard = none) (s x : Operand) (t : TypeId)
    (ho : o.op = .call { callee := .builtin .append, args := #[s, x], argTypes := #[t, t] }) (e : TypeId) (m : Nat) (hu : P.underlying t = some (.slice e)) (hs : (P.info? e).map (·.size) = some m)
    (B g n cap : Nat) (xs : List Value) (hown : w.ownsRow B e m (.slice (some ⟨g, 0, none⟩) n cap) n xs) (i k : Nat) (hd : a.eval s = .slice (some ⟨g, 0, none⟩) i cap)
    (ax : Option Addr) (c : Nat) (cs : List Value) (hx : a.eval x = .slice ax k c) (hv : View w ax m k cs) (h1 : ∀ u ∈ cs, u.oneCell' = true) (hm : 0 < m) (hfit : i + k ≤ n)
    (h : ∀ w', w'.ownsRow B e m (.slice (some ⟨g, 0, none⟩) n cap) n (over xs (i * m) cs) → Fr [g] w w' → wpList P ops Q rest (a.put o.dst (.slice (some ⟨g, 0, none⟩) (i + k) cap)) w') : wpList P ops Q (o :: rest) a w :=
  wpList_plain hgd fun _ hK => wp_app_fit w s x t ho e m hu hs B g n cap xs hown i k hd ax c cs hx hv h1 hm hfit fun w' h2 h3 => hK _ _ (h w' h2 h3)
theorem copy_row {P : Program} (w : World) {ops : Array Oper} {rest : List Oper} {o : Oper} {a : Act} {Q : Exit → Act → World → Prop} (hgd : o.guard = none) (d s : Operand) (dT sT : TypeId)
    (ho : o.op = .call { callee := .builtin .copy, args := #[d, s], argTypes := #[dT, sT] }) (e : TypeId) (m : Nat) (hu : P.underlying dT = some (.slice e)) (hs : (P.info? e).map (·.size) = some m)
    (B g n cap : Nat) (xs : List Value) (hown : w.ownsRow B e m (.slice (some ⟨g, 0, none⟩) n cap) n xs) (off dLen dCap k : Nat) (hd : a.eval d = .slice (some ⟨g, off, none⟩) dLen dCap)
    (ax : Option Addr) (sLen sCap : Nat) (cs : List Value) (hx : a.eval s = .slice ax sLen sCap) (hk : k = Nat.min sLen dLen) (hv : View w ax m k cs) (h1 : ∀ u ∈ cs, u.oneCell' = true) (hm : 0 < m)
    (hfit : off + cs.length ≤ xs.length)
    (h : ∀ w', w'.ownsRow B e m (.slice (some ⟨g, 0, none⟩) n cap) n (over xs off cs) → Fr [g] w w' → wpList P ops Q rest (a.put o.dst (goInt k)) w') : wpList P ops Q (o :: rest) a w :=
  wpList_plain hgd fun _ hK => wp_copy_row w d s dT sT ho e m hu hs B g n cap xs hown off dLen dCap k hd ax sLen sCap cs hx hk hv h1 hm hfit fun w' h2 h3 => hK _ _ (h w' h2 h3)
theorem step_copy_row {P : Program} (w : World) {ops : Array Oper} {o : Oper} {a : Act} {K : Act → World → Prop} {Q : Exit → Act → World → Prop} {E : Prop} (hgd : o.guard = none) (d s : Operand) (dT sT : TypeId)
    (ho : o.op = .call { callee := .builtin .copy, args := #[d, s], argTypes := #[dT, sT] }) (e : TypeId) (m : Nat) (hu : P.underlying dT = some (.slice e)) (hs : (P.info? e).map (·.size) = some m)
    (B g n cap : Nat) (xs : List Value) (hown : w.ownsRow B e m (.slice (some ⟨g, 0, none⟩) n cap) n xs) (off dLen dCap k : Nat) (hd : a.eval d = .slice (some ⟨g, off, none⟩) dLen dCap)
    (ax : Option Addr) (sLen sCap : Nat) (cs : List Value) (hx : a.eval s = .slice ax sLen sCap) (hk : k = Nat.min sLen dLen) (hv : View w ax m k cs) (h1 : ∀ u ∈ cs, u.oneCell' = true) (hm : 0 < m)
    (hfit : off + cs.length ≤ xs.length)
    (h : ∀ w', w'.ownsRow B e m (.slice (some ⟨g, 0, none⟩) n cap) n (over xs off cs) → Fr [g] w w' → K (a.put o.dst (goInt k)) w') :
    if Region.wanted o (yielded ops a.tmps) = true then Oper.wp P o a w K Q else E := by
  rw [if_pos (by simp [Region.wanted, hgd])]
  exact wp_copy_row w d s dT sT ho e m hu hs B g n cap xs hown off dLen dCap k hd ax sLen sCap cs hx hk hv h1 hm hfit h
theorem clear_row {P : Program} (w : World) {ops : Array Oper} {rest : List Oper} {o : Oper} {a : Act} {Q : Exit → Act → World → Prop} (hgd : o.guard = none) (d : Operand) (dT : TypeId)
    (ho : o.op = .call { callee := .builtin .clear, args := #[d], argTypes := #[dT] }) (e : TypeId) (m : Nat) (z : Value) (hu : P.underlying dT = some (.slice e)) (hz : ∀ w, (zeroValue e).run P w = .ok z w)
    (B g n cap : Nat) (xs : List Value) (hown : w.ownsRow B e m (.slice (some ⟨g, 0, none⟩) n cap) n xs) (off k c : Nat) (hd : a.eval d = .slice (some ⟨g, off, none⟩) k c)
    (cs : List Value) (hc : (Builtin.zeroCells z.cells k).toList = cs) (h1 : ∀ u ∈ cs, u.oneCell' = true) (h0 : 0 < k) (hp : 0 < cs.length) (hfit : off + cs.length ≤ xs.length)
    (h : ∀ w', w'.ownsRow B e m (.slice (some ⟨g, 0, none⟩) n cap) n (over xs off cs) → Fr [g] w w' → wpList P ops Q rest (a.put o.dst (.tuple #[])) w') : wpList P ops Q (o :: rest) a w :=
  wpList_plain hgd fun _ hK => wp_clear_row w d dT ho e m z hu hz B g n cap xs hown off k c hd cs hc h1 h0 hp hfit fun w' h2 h3 => hK _ _ (h w' h2 h3)
end Go.Proofs.YtnldaicibnkeoaaGreatDoor
namespace Go.Proofs.YtnldaicibnkeoaaGreatDoor
attribute [local go_sem ↓] Go.wp_at_zero Go.wp_at_succ
open Go.RowKit
open Rep (Is sz)

/-- A machine's cells: how it ended and why, its stack; nothing else is there. -/
def mch (e y : Int) (st : Value) : Array Value := #[.slice none 0 0, .slice none 0 0, .slice none 0 0, .int .i64 0, .int .i64 0, .slice none 0 0, .slice none 0 0, .slice none 0 0, .slice none 0 0, .int .i64 0, .int .i64 e, .int .i64 y, .int .i64 0, .slice none 0 0, .int .i64 0, .slice none 0 0, .slice none 0 0, .slice none 0 0, st, .slice none 0 0]
@[go_sem] theorem mch_end (e y : Int) (st : Value) : (mch e y st)[10]? = some (.int .i64 e) := rfl
@[go_sem] theorem mch_why (e y : Int) (st : Value) : (mch e y st)[11]? = some (.int .i64 y) := rfl
@[go_sem] theorem mch_st (e y : Int) (st : Value) : (mch e y st)[18]? = some st := rfl
theorem mch_set (e y : Int) (st st' : Value) : (mch e y st).setIfInBounds 18 st' = mch e y st' := rfl
theorem mch_set2 (e y e' y' : Int) (st : Value) : ((mch e y st).setIfInBounds 10 (.int .i64 e')).setIfInBounds 11 (.int .i64 y') = mch e' y' st := rfl

theorem spop6 {p g k cap : Nat} {e y : Int} (x : Int) (w : World) [b : BoxAt w p (mch e y (.slice (some ⟨g, 0, none⟩) (k + 1) cap))] (hx : w.cell? ⟨g, k, none⟩ = some (.int .i64 x)) (hk : k < 100) (hc : k < cap) :
    Calls Tryz.prog 124 #[.pointer (some ⟨p, 0, none⟩)] w fun r w' => r = .returned (.int .i64 x) ∧ BoxL w' p (mch e y (.slice (some ⟨g, 0, none⟩) k cap)) ∧ StepX [p] w w' := by
  have bl := b.l
  go_enter Tryz.func124, Tryz.ntmps124
  go_wp2
  go_ret
  exact ⟨rfl, boxSet (mch_set ..), mkStepX⟩
theorem sbool6 (x : Bool) (w : World) : Calls Tryz.prog 125 #[.bool x] w fun e w' => e = .returned (.int .i64 (b01 x)) ∧ Step w w' := by
  cases x
  · go_enter Tryz.func125, Tryz.ntmps125
    go_wp2
    go_ret
    exact ⟨rfl, mkStep⟩
  · go_enter Tryz.func125, Tryz.ntmps125
    go_wp2
    go_ret
    exact ⟨rfl, mkStep⟩
theorem send6 {p : Nat} {st : Value} (c : Int) (w : World) [b : BoxAt w p (mch 0 0 st)] :
    Calls Tryz.prog 145 #[.pointer (some ⟨p, 0, none⟩), .int .i64 2, .int .i64 c] w fun r w' => r = .returned (.tuple #[]) ∧ BoxL w' p (mch 2 c st) ∧ StepX [p] w w' := by
  have bl := b.l
  go_enter Tryz.func145, Tryz.ntmps145
  go_wp2
  go_end0
  have b1 : BoxL (w.setCell ⟨p, 10, none⟩ (.int .i64 2)) p ((mch 0 0 st).setIfInBounds 10 (.int .i64 2)) := boxSet rfl
  exact ⟨rfl, boxSet (mch_set2 ..), mkStepX⟩

def endOf (c : Int) : Int := if c = 0 then 0 else 2
theorem endOf_0 : endOf 0 = 0 := rfl
theorem endOf_pos {c : Int} (h : 0 < c) : endOf c = 2 := if_neg (by omega)
theorem endOf_eq (c : Int) : (endOf c == 0) = decide (c = 0) := by
  unfold endOf
  by_cases h : c = 0
  · simp [h]
  · simp [h]
theorem divS_code (a b : Int) : 0 ≤ (divS32 a b).2 := by
  unfold divS32
  split
  · simp
  · split <;> simp
theorem divU_code (a b : Int) : 0 ≤ (divU32 a b).2 := by unfold divU32; split <;> simp
theorem remS_code (a b : Int) : 0 ≤ (remS32 a b).2 := by unfold remS32; split <;> simp
theorem remU_code (a b : Int) : 0 ≤ (remU32 a b).2 := by unfold remU32; split <;> simp
theorem mch_ret {p : Nat} {st : Value} {w : World} {x : Int × Int} {n : Int} (h : x = (n, 0)) (b : BoxL w p (mch 0 0 st)) : BoxL w p (mch (endOf x.2) x.2 st) := by rw [h]; exact b
theorem mch_trap {p : Nat} {st : Value} {w : World} {x : Int × Int} {n c : Int} (h : x = (n, c)) (hc : 0 < c) (b : BoxL w p (mch 2 c st)) : BoxL w p (mch (endOf x.2) x.2 st) := by rw [h, endOf_pos hc]; exact b
theorem ret_fst {k : IntKind} {x : Int × Int} {n c : Int} (h : x = (n, c)) : Ending.returned (.int k n) = .returned (.int k x.1) := by rw [h]
set_option maxHeartbeats 1000000 in
theorem stwo6 {p : Nat} {st : Value} (op a b : Int) (w : World) (ht : isTwo op = true) [bx : BoxAt w p (mch 0 0 st)] :
    Calls Tryz.prog 129 #[.pointer (some ⟨p, 0, none⟩), .int .i64 op, .int .i64 a, .int .i64 b] w fun r w' => r = .returned (.int .i64 (bin32 op a b).1) ∧ BoxL w' p (mch (endOf (bin32 op a b).2) (bin32 op a b).2 st) ∧ StepX [p] w w' := by
  have bl := bx.l
  have ag := bl.arg
  rcases two_cases ht with h | rfl | rfl | rfl | rfl | rfl | rfl | rfl | h <;> clear ht
  · have hr := hid (bin_cmp h.2 a b)
    go_enter Tryz.func129, Tryz.ntmps129
    go_wp2_with (first | (go_at_call 136; (with_reducible refine Calls.mono (scmp _ _ _ _ (by omega)) ?_); rintro e wk ⟨rfl, st⟩) | (go_at_call 125; (with_reducible refine Calls.mono (sbool6 ..) ?_); rintro e wk ⟨rfl, st⟩))
    go_ret
    exact ⟨ret_fst hr.out, mch_ret hr.out boxOf, mkStepX⟩
  · have hr := hid (bin_106 a b)
    go_enter Tryz.func129, Tryz.ntmps129
    go_wp2_with (first | (go_at_call 137; (with_reducible refine Calls.mono (sadd ..) ?_); rintro e wk ⟨rfl, st⟩))
    go_ret
    exact ⟨ret_fst hr.out, mch_ret hr.out boxOf, mkStepX⟩
  · have hr := hid (bin_107 a b)
    go_enter Tryz.func129, Tryz.ntmps129
    go_wp2_with (first | (go_at_call 138; (with_reducible refine Calls.mono (ssub ..) ?_); rintro e wk ⟨rfl, st⟩))
    go_ret
    exact ⟨ret_fst hr.out, mch_ret hr.out boxOf, mkStepX⟩
  · have hr := hid (bin_108 a b)
    go_enter Tryz.func129, Tryz.ntmps129
    go_wp2_with (first | (go_at_call 139; (with_reducible refine Calls.mono (smul ..) ?_); rintro e wk ⟨rfl, st⟩))
    go_ret
    exact ⟨ret_fst hr.out, mch_ret hr.out boxOf, mkStepX⟩
  · have hr := hid (bin_109 a b)
    have hc := divS_code a b
    rcases hd : divS32 a b with ⟨q, c⟩
    rw [hd] at hc
    have hr2 := hid (hr.out.trans hd)
    clear hr
    simp only at hc
    by_cases h0 : c = 0
    · subst h0
      clear hc
      go_enter Tryz.func129, Tryz.ntmps129
      go_wp2_with (first | (go_at_call 140; (with_reducible refine Calls.mono (sdivs ..) ?_); rintro e wk ⟨rfl, st⟩))
      go_ret
      exact ⟨ret_fst hr2.out, mch_ret hr2.out boxOf, mkStepX⟩
    · have hp : 0 < c := by omega
      clear hc h0
      go_enter Tryz.func129, Tryz.ntmps129
      go_wp2_with (first | (go_at_call 140; (with_reducible refine Calls.mono (sdivs ..) ?_); rintro e wk ⟨rfl, st⟩; have b1 : BoxL wk p (mch 0 0 _) := boxOf) | (go_at_call 145; (with_reducible refine Calls.mono (send6 _ _) ?_); rintro e wk2 ⟨rfl, b2, st2⟩))
      go_ret
      exact ⟨ret_fst hr2.out, mch_trap hr2.out hp b2, mkStepX⟩
  · have hr := hid (bin_110 a b)
    have hc := divU_code a b
    rcases hd : divU32 a b with ⟨q, c⟩
    rw [hd] at hc
    have hr2 := hid (hr.out.trans hd)
    clear hr
    simp only at hc
    by_cases h0 : c = 0
    · subst h0
      clear hc
      go_enter Tryz.func129, Tryz.ntmps129
      go_wp2_with (first | (go_at_call 141; (with_reducible refine Calls.mono (sdivu ..) ?_); rintro e wk ⟨rfl, st⟩))
      go_ret
      exact ⟨ret_fst hr2.out, mch_ret hr2.out boxOf, mkStepX⟩
    · have hp : 0 < c := by omega
      clear hc h0
      go_enter Tryz.func129, Tryz.ntmps129
      go_wp2_with (first | (go_at_call 141; (with_reducible refine Calls.mono (sdivu ..) ?_); rintro e wk ⟨rfl, st⟩; have b1 : BoxL wk p (mch 0 0 _) := boxOf) | (go_at_call 145; (with_reducible refine Calls.mono (send6 _ _) ?_); rintro e wk2 ⟨rfl, b2, st2⟩))
      go_ret
      exact ⟨ret_fst hr2.out, mch_trap hr2.out hp b2, mkStepX⟩
  · have hr := hid (bin_111 a b)
    have hc := remS_code a b
    rcases hd : remS32 a b with ⟨q, c⟩
    rw [hd] at hc
    have hr2 := hid (hr.out.trans hd)
    clear hr
    simp only at hc
    by_cases h0 : c = 0
    · subst h0
      clear hc
      go_enter Tryz.func129, Tryz.ntmps129
      go_wp2_with (first | (go_at_call 142; (with_reducible refine Calls.mono (srems ..) ?_); rintro e wk ⟨rfl, st⟩))
      go_ret
      exact ⟨ret_fst hr2.out, mch_ret hr2.out boxOf, mkStepX⟩
    · have hp : 0 < c := by omega
      clear hc h0
      go_enter Tryz.func129, Tryz.ntmps129
      go_wp2_with (first | (go_at_call 142; (with_reducible refine Calls.mono (srems ..) ?_); rintro e wk ⟨rfl, st⟩; have b1 : BoxL wk p (mch 0 0 _) := boxOf) | (go_at_call 145; (with_reducible refine Calls.mono (send6 _ _) ?_); rintro e wk2 ⟨rfl, b2, st2⟩))
      go_ret
      exact ⟨ret_fst hr2.out, mch_trap hr2.out hp b2, mkStepX⟩
  · have hr := hid (bin_112 a b)
    have hc := remU_code a b
    rcases hd : remU32 a b with ⟨q, c⟩
    rw [hd] at hc
    have hr2 := hid (hr.out.trans hd)
    clear hr
    simp only at hc
    by_cases h0 : c = 0
    · subst h0
      clear hc
      go_enter Tryz.func129, Tryz.ntmps129
      go_wp2_with (first | (go_at_call 143; (with_reducible refine Calls.mono (sremu ..) ?_); rintro e wk ⟨rfl, st⟩))
      go_ret
      exact ⟨ret_fst hr2.out, mch_ret hr2.out boxOf, mkStepX⟩
    · have hp : 0 < c := by omega
      clear hc h0
      go_enter Tryz.func129, Tryz.ntmps129
      go_wp2_with (first | (go_at_call 143; (with_reducible refine Calls.mono (sremu ..) ?_); rintro e wk ⟨rfl, st⟩; have b1 : BoxL wk p (mch 0 0 _) := boxOf) | (go_at_call 145; (with_reducible refine Calls.mono (send6 _ _) ?_); rintro e wk2 ⟨rfl, b2, st2⟩))
      go_ret
      exact ⟨ret_fst hr2.out, mch_trap hr2.out hp b2, mkStepX⟩
  · have hr := hid (bin_bits h.1 a b)
    have n0 : (op - 106 == 0) = false := by rw [beq_eq_false_iff_ne]; omega
    have n1 : (op - 106 == 1) = false := by rw [beq_eq_false_iff_ne]; omega
    have n2 : (op - 106 == 2) = false := by rw [beq_eq_false_iff_ne]; omega
    have n3 : (op - 106 == 3) = false := by rw [beq_eq_false_iff_ne]; omega
    have n4 : (op - 106 == 4) = false := by rw [beq_eq_false_iff_ne]; omega
    have n5 : (op - 106 == 5) = false := by rw [beq_eq_false_iff_ne]; omega
    have n6 : (op - 106 == 6) = false := by rw [beq_eq_false_iff_ne]; omega
    have n9 : (op ≤ 79) = False := by rw [eq_iff_iff, iff_false]; omega
    go_enter Tryz.func129, Tryz.ntmps129
    go_wp2_with (first | (go_at_call 144; (with_reducible refine Calls.mono (sbits _ _ _ _ (by omega)) ?_); rintro e wk ⟨rfl, st⟩))
    go_ret
    exact ⟨ret_fst hr.out, mch_ret hr.out boxOf, mkStepX⟩

theorem spush6 {B p g n k cap : Nat} {e y : Int} {xs : List Value} (x : Int) (w : World) (hown : w.ownsRow B 3 1 (.slice (some ⟨g, 0, none⟩) n cap) n xs) (hk : k < n) (hn : n < 100) [bx : BoxAt w p (mch e y (.slice (some ⟨g, 0, none⟩) k cap))] [nb : NeB g p] [nb' : NeB p g] :
    Calls Tryz.prog 123 #[.pointer (some ⟨p, 0, none⟩), .int .i64 x] w fun r w' => r = .returned (.tuple #[]) ∧ w'.cell? ⟨g, k, none⟩ = some (.int .i64 x) ∧ BoxL w' p (mch e y (.slice (some ⟨g, 0, none⟩) (k + 1) cap)) ∧ StepX [g, p] w w' := by
  have bl := bx.l
  have ag := bl.arg
  have og : Old g w := ⟨(own_addr hown (by omega)).elim fun _ h => by cases h.1; exact h.2.2⟩
  have hcap := (ownsRow_cap hown).1
  go_enter Tryz.func123, Tryz.ntmps123
  go_wp2_with (at_builtin; go_must (refine app_fit _ rfl (.tmp 8) (.tmp 10) 117 rfl 3 1 (by kernel_rfl) (by kernel_rfl) B g n cap xs (own_keep hown) k 1 rfl (some ⟨w.heap.size, 0, none⟩) 1 [.int .i64 x] rfl (view_lit' w _ _ 1 1 _ rfl rfl) (by simp [Value.oneCell']) (by decide) (by omega) ?_); intro w1 hown1 f1; have s1 : StepX [g] (w.alloc _) w1 := ⟨f1⟩; have b1 : BoxL w1 p (mch e y (.slice (some ⟨g, 0, none⟩) k cap)) := boxOf)
  go_end0
  have c1 : w1.cell? ⟨g, k, none⟩ = some (.int .i64 x) := by
    have hl : (over xs (k * 1) [.int .i64 x]).length = n := by rw [hown1.1, Nat.mul_one]
    have h1 := (own_slot hown1 k (by omega)).1
    rw [h1]
    have h2 := over_at (xs := xs) (o := k) (v := .int .i64 x) (by have := hown.1; omega)
    simp only [Nat.mul_one] at h1 ⊢
    rw [← h2, List.getElem?_eq_getElem]
  refine ⟨rfl, ((Fr.refl [p] w1).setCell (p := ⟨p, 18, none⟩) (.inl (by simp)) _).cell_some c1 (by simp [nb.ne]), boxSet (mch_set ..), mkStepX⟩

theorem mch_box (w : World) (e : TypeId) (y z : Int) (st : Value) : BoxL (w.alloc (.cells (mch y z st) e)) w.heap.size (mch y z st) := ⟨Box.new w _ _⟩
set_option maxHeartbeats 1000000 in
theorem snum2 {B p g cap : Nat} (op a b : Int) (w : World) (ht : isTwo op = true) (hown : w.ownsRow B 3 1 (.slice (some ⟨g, 0, none⟩) 2 cap) 2 [.int .i64 a, .int .i64 b]) [bx : BoxAt w p (mch 0 0 (.slice (some ⟨g, 0, none⟩) 2 cap))] [nb : NeB g p] [nb' : NeB p g] [ag : Arg g w] :
    Calls Tryz.prog 105 #[.pointer (some ⟨p, 0, none⟩), .agg #[.int .i64 op, .int .i64 0, .int .i64 0]] w fun r w' => r = .returned (.tuple #[]) ∧ w'.cell? ⟨g, 0, none⟩ = some (.int .i64 (bin32 op a b).1) ∧ BoxL w' p (mch (endOf (bin32 op a b).2) (bin32 op a b).2 (.slice (some ⟨g, 0, none⟩) 1 cap)) ∧ StepX [g, p] w w' := by
  have bl := bx.l
  have ap := bl.arg
  have og : Old g w := ⟨ag.lt⟩
  have op1 := bl.old
  have hcap := (ownsRow_cap hown).1
  have ha : w.cell? ⟨g, 0, none⟩ = some (.int .i64 a) := (own_slot hown 0 (by simp)).1
  have hb : w.cell? ⟨g, 1, none⟩ = some (.int .i64 b) := (own_slot hown 1 (by simp)).1
  have h0 := (isTwo_iff op).1 ht
  have n65 : (op == 65) = false := by rw [beq_eq_false_iff_ne]; omega
  have n26 : (op == 26) = false := by rw [beq_eq_false_iff_ne]; omega
  have n27 : (op == 27) = false := by rw [beq_eq_false_iff_ne]; omega
  have n69 : (op == 69) = false := by rw [beq_eq_false_iff_ne]; omega
  have n103 : (op == 103) = false := by rw [beq_eq_false_iff_ne]; omega
  have n104 : (op == 104) = false := by rw [beq_eq_false_iff_ne]; omega
  have n105 : (op == 105) = false := by rw [beq_eq_false_iff_ne]; omega
  clear h0
  go_enter Tryz.func105, Tryz.ntmps105
  go_wp2_with fail
  with_reducible refine Calls.mono (spop6 b _ (by go_simp) (by omega) (by omega)) ?_
  rintro e w1 ⟨rfl, b1, st1⟩
  go_wp2_with fail
  with_reducible refine Calls.mono (spop6 a _ (by go_simp) (by omega) (by omega)) ?_
  rintro e w2 ⟨rfl, b2, st2⟩
  go_wp2_with fail
  with_reducible refine Calls.mono (stwo6 op a b _ ht) ?_
  rintro e w3 ⟨rfl, b3, st3⟩
  have o3 : w3.ownsRow B 3 1 (.slice (some ⟨g, 0, none⟩) 2 cap) 2 [.int .i64 a, .int .i64 b] := ownsRow_fr hown (FrX.fr (S := [p])) (by simp only [blk, List.mem_singleton]; rintro x rfl; exact nb.ne)
  go_wp2_with fail
  with_reducible refine Calls.mono (spush6 _ _ o3 (by omega) (by omega)) ?_
  rintro e w4 ⟨rfl, c4, b4, st4⟩
  go_wp2
  go_end0
  exact ⟨rfl, c4, b4, mkStepX⟩

set_option maxHeartbeats 1000000 in
theorem snum1 {B p g cap : Nat} (op a : Int) (w : World) (ht : isOne op = true) (ha32 : wrap32 a = a) (hown : w.ownsRow B 3 1 (.slice (some ⟨g, 0, none⟩) 1 cap) 1 [.int .i64 a]) [bx : BoxAt w p (mch 0 0 (.slice (some ⟨g, 0, none⟩) 1 cap))] [nb : NeB g p] [nb' : NeB p g] [ag : Arg g w] :
    Calls Tryz.prog 105 #[.pointer (some ⟨p, 0, none⟩), .agg #[.int .i64 op, .int .i64 0, .int .i64 0]] w fun r w' => r = .returned (.tuple #[]) ∧ w'.cell? ⟨g, 0, none⟩ = some (.int .i64 (un32 op a)) ∧ BoxL w' p (mch 0 0 (.slice (some ⟨g, 0, none⟩) 1 cap)) ∧ StepX [g, p] w w' := by
  have bl := bx.l
  have ap := bl.arg
  have og : Old g w := ⟨ag.lt⟩
  have op1 := bl.old
  have hcap := (ownsRow_cap hown).1
  have ha : w.cell? ⟨g, 0, none⟩ = some (.int .i64 a) := (own_slot hown 0 (by simp)).1
  have h69 := hid (show un32 69 a = b01 (a == 0) by rw [un_69, ha32]; rfl)
  have h103 := hid (un_103 a)
  have h104 := hid (un_104 a)
  have h105 := hid (un_105 a)
  clear ha32
  rcases one_cases ht with rfl | rfl | rfl | rfl <;> clear ht
  · go_enter Tryz.func105, Tryz.ntmps105
    go_wp2_with fail
    with_reducible refine Calls.mono (spop6 a _ (by go_simp) (by omega) (by omega)) ?_
    rintro e w1 ⟨rfl, b1, st1⟩
    go_wp2_with fail
    with_reducible refine Calls.mono (sbool6 _ _) ?_
    rintro e w3 ⟨rfl, st3⟩
    have o3 : w3.ownsRow B 3 1 (.slice (some ⟨g, 0, none⟩) 1 cap) 1 [.int .i64 a] := ownsRow_fr hown (FrX.fr (S := [p])) (by simp only [blk, List.mem_singleton]; rintro x rfl; exact nb.ne)
    go_wp2_with fail
    with_reducible refine Calls.mono (spush6 _ _ o3 (by omega) (by omega)) ?_
    rintro e w4 ⟨rfl, c4, b4, st4⟩
    go_wp2
    go_end0
    exact ⟨rfl, by rw [h69.out]; exact c4, b4, mkStepX⟩
  · go_enter Tryz.func105, Tryz.ntmps105
    go_wp2_with fail
    with_reducible refine Calls.mono (spop6 a _ (by go_simp) (by omega) (by omega)) ?_
    rintro e w1 ⟨rfl, b1, st1⟩
    go_wp2_with fail
    with_reducible refine Calls.mono (sclz _ _) ?_
    rintro e w3 ⟨rfl, st3⟩
    have o3 : w3.ownsRow B 3 1 (.slice (some ⟨g, 0, none⟩) 1 cap) 1 [.int .i64 a] := ownsRow_fr hown (FrX.fr (S := [p])) (by simp only [blk, List.mem_singleton]; rintro x rfl; exact nb.ne)
    go_wp2_with fail
    with_reducible refine Calls.mono (spush6 _ _ o3 (by omega) (by omega)) ?_
    rintro e w4 ⟨rfl, c4, b4, st4⟩
    go_wp2
    go_end0
    exact ⟨rfl, by rw [h103.out]; exact c4, b4, mkStepX⟩
  · go_enter Tryz.func105, Tryz.ntmps105
    go_wp2_with fail
    with_reducible refine Calls.mono (spop6 a _ (by go_simp) (by omega) (by omega)) ?_
    rintro e w1 ⟨rfl, b1, st1⟩
    go_wp2_with fail
    with_reducible refine Calls.mono (sctz _ _) ?_
    rintro e w3 ⟨rfl, st3⟩
    have o3 : w3.ownsRow B 3 1 (.slice (some ⟨g, 0, none⟩) 1 cap) 1 [.int .i64 a] := ownsRow_fr hown (FrX.fr (S := [p])) (by simp only [blk, List.mem_singleton]; rintro x rfl; exact nb.ne)
    go_wp2_with fail
    with_reducible refine Calls.mono (spush6 _ _ o3 (by omega) (by omega)) ?_
    rintro e w4 ⟨rfl, c4, b4, st4⟩
    go_wp2
    go_end0
    exact ⟨rfl, by rw [h104.out]; exact c4, b4, mkStepX⟩
  · go_enter Tryz.func105, Tryz.ntmps105
    go_wp2_with fail
    with_reducible refine Calls.mono (spop6 a _ (by go_simp) (by omega) (by omega)) ?_
    rintro e w1 ⟨rfl, b1, st1⟩
    go_wp2_with fail
    with_reducible refine Calls.mono (spop _ _) ?_
    rintro e w3 ⟨rfl, st3⟩
    have o3 : w3.ownsRow B 3 1 (.slice (some ⟨g, 0, none⟩) 1 cap) 1 [.int .i64 a] := ownsRow_fr hown (FrX.fr (S := [p])) (by simp only [blk, List.mem_singleton]; rintro x rfl; exact nb.ne)
    go_wp2_with fail
    with_reducible refine Calls.mono (spush6 _ _ o3 (by omega) (by omega)) ?_
    rintro e w4 ⟨rfl, c4, b4, st4⟩
    go_wp2
    go_end0
    exact ⟨rfl, by rw [h105.out]; exact c4, b4, mkStepX⟩

theorem two_lit (w : World) (x y : Int) (e : TypeId) : View (w.alloc (.cells #[.int .i64 x, .int .i64 y] e)) (some ⟨w.heap.size, 0, none⟩) 1 2 [.int .i64 x, .int .i64 y] := view_lit' w _ _ 1 2 _ rfl rfl
set_option maxHeartbeats 1000000 in
theorem swork2 {ad : Option Addr} {cp : Nat} (op a b : Int) (w : World) (ht : isTwo op = true) (hv : View w ad 1 2 [.int .i64 a, .int .i64 b]) :
    Calls Tryz.prog 81 #[.int .i64 op, .slice ad 2 cp] w fun e w' => e = .returned (.tuple #[.int .i64 (bin32 op a b).1, .bool (decide ((bin32 op a b).2 = 0))]) ∧ Step w w' := by
  go_enter Tryz.func81, Tryz.ntmps81
  go_wp2_with (at_builtin; go_must (refine app_own _ rfl (.tmp 7) (.tmp 8) 117 rfl 3 (.int .i64 0) 1 8 Tryz.ints_tab w.heap.size _ 0 0 [] rfl (own_litAt rfl rfl (Nat.le_refl _) (by unfold maxLen; omega) rfl) ad 2 cp [.int .i64 a, .int .i64 b] rfl (hv.fr0 ((Fr.refl [] w).alloc _)) (by simp [Value.oneCell']) (by omega) (by simp) ?_); intro ao1 cap1 w1 hown1 f1)
  have hown2 : w1.ownsRow w.heap.size 3 1 (.slice ao1 2 cap1) 2 [.int .i64 a, .int .i64 b] := hown1
  obtain ⟨g, rfl, hg1, hg2⟩ := own_addr hown2 (by omega)
  have st1 : Step w w1 := ⟨((Fr.refl [] w).alloc _).trans f1 (fun x hx => .inr (by simp only [blk, List.mem_singleton] at hx; omega))⟩
  clear hown1 f1
  have nb : NeB g w1.heap.size := ⟨by omega⟩
  have nb' : NeB w1.heap.size g := ⟨by omega⟩
  have bx : BoxAt (w1.alloc (.cells #[.slice none 0 0, .slice none 0 0, .slice none 0 0, .int .i64 0, .int .i64 0, .slice none 0 0, .slice none 0 0, .slice none 0 0, .slice none 0 0, .int .i64 0, .int .i64 0, .int .i64 0, .int .i64 0, .slice none 0 0, .int .i64 0, .slice none 0 0, .slice none 0 0, .slice none 0 0, .slice (some ⟨g, 0, none⟩) 2 cap1, .slice none 0 0] 147)) w1.heap.size (mch 0 0 (.slice (some ⟨g, 0, none⟩) 2 cap1)) := ⟨(mch_box w1 _ 0 0 _).is⟩
  with_reducible refine Calls.mono (snum2 (B := w.heap.size) (p := w1.heap.size) (g := g) (cap := cap1) op a b _ ht (own_keep hown2) (bx := bx) (nb := nb) (nb' := nb') (ag := ⟨by simp; omega⟩)) ?_
  rintro e w2 ⟨rfl, c2, b2, st2⟩
  have nbg : NewB w g := ⟨hg1⟩
  have og2 : Old g w2 := ⟨block_lt_of_cell c2⟩
  have c3 : w2.drew.cell? ⟨g, 0, none⟩ = some (.int .i64 (bin32 op a b).1) := c2
  have b3 : BoxL w2.drew w1.heap.size (mch (endOf (bin32 op a b).2) (bin32 op a b).2 (.slice (some ⟨g, 0, none⟩) 1 cap1)) := boxOf
  go_wp2_with fail
  refine rg_begin0 (n := 20) (by kernel_rfl) rfl fun rg0 => ?_
  refine rg_read (i := 0) (a1 := _) rfl (by kernel_rfl) rfl (by simp) (by intro wq hwq; go_wp2; exact ⟨rfl, rfl⟩) mkStep ?_
  refine rg_read (i := 1) (a1 := _) rfl (by kernel_rfl) rfl (by simp) (by intro wq hwq; go_wp2; exact ⟨rfl, rfl⟩) mkStep ?_
  refine rg_read (i := 2) (a1 := _) rfl (by kernel_rfl) rfl (by simp) (by intro wq hwq; go_wp2; exact ⟨rfl, rfl⟩) mkStep ?_
  refine rg_read (i := 3) (a1 := _) rfl (by kernel_rfl) rfl (by simp) (by intro wq hwq; go_wp2; exact ⟨rfl, rfl⟩) mkStep ?_
  refine rg_read (i := 4) (a1 := _) rfl (by kernel_rfl) rfl (by simp) (by intro wq hwq; go_wp2; exact ⟨rfl, rfl⟩) mkStep ?_
  refine rg_read (i := 5) (a1 := _) rfl (by kernel_rfl) rfl (by simp) (by intro wq hwq; go_wp2; exact ⟨rfl, rfl⟩) mkStep ?_
  refine rg_read (i := 6) (a1 := _) rfl (by kernel_rfl) rfl (by simp) (by intro wq hwq; go_wp2; exact ⟨rfl, rfl⟩) mkStep ?_
  refine rg_read (i := 7) (a1 := _) rfl (by kernel_rfl) rfl (by simp) (by intro wq hwq; go_wp2; exact ⟨rfl, rfl⟩) mkStep ?_
  refine rg_read (i := 8) (a1 := _) rfl (by kernel_rfl) rfl (by simp) (by intro wq hwq; go_wp2; exact ⟨rfl, rfl⟩) mkStep ?_
  refine rg_read (i := 9) (a1 := _) rfl (by kernel_rfl) rfl (by simp) (by intro wq hwq; go_wp2; exact ⟨rfl, rfl⟩) mkStep ?_
  refine rg_read (i := 10) (a1 := _) rfl (by kernel_rfl) rfl (by simp) (by intro wq hwq; go_wp2; exact ⟨rfl, rfl⟩) mkStep ?_
  refine rg_read (i := 11) (a1 := _) rfl (by kernel_rfl) rfl (by simp) (by intro wq hwq; go_wp2; exact ⟨rfl, rfl⟩) mkStep ?_
  refine rg_read (i := 12) (a1 := _) rfl (by kernel_rfl) rfl (by simp) (by intro wq hwq; go_wp2; exact ⟨rfl, rfl⟩) mkStep ?_
  refine rg_read (i := 13) (a1 := _) rfl (by kernel_rfl) rfl (by simp) (by intro wq hwq; go_wp2; exact ⟨rfl, rfl⟩) mkStep ?_
  refine rg_read (i := 14) (a1 := _) rfl (by kernel_rfl) rfl (by simp) (by intro wq hwq; go_wp2; exact ⟨rfl, rfl⟩) mkStep ?_
  refine rg_read (i := 15) (a1 := _) rfl (by kernel_rfl) rfl (by simp) (by intro wq hwq; go_wp2; exact ⟨rfl, rfl⟩) mkStep ?_
  refine rg_read (i := 16) (a1 := _) rfl (by kernel_rfl) rfl (by simp) (by intro wq hwq; go_wp2; exact ⟨rfl, rfl⟩) mkStep ?_
  refine rg_read (i := 17) (a1 := _) rfl (by kernel_rfl) rfl (by simp) (by intro wq hwq; go_wp2; exact ⟨rfl, rfl⟩) mkStep ?_
  refine rg_read (i := 18) (a1 := _) rfl (by kernel_rfl) rfl (by simp) (by intro wq hwq; go_wp2; exact ⟨rfl, rfl⟩) mkStep ?_
  refine rg_read (i := 19) (a1 := _) rfl (by kernel_rfl) rfl (by simp) (by intro wq hwq; go_wp2; exact ⟨rfl, rfl⟩) mkStep ?_
  refine rg_done (by kernel_rfl) ?_
  go_wp2
  go_ret2
  exact ⟨by rw [← endOf_eq]; rfl, mkStep⟩
set_option maxHeartbeats 1000000 in
theorem swork1 {ad : Option Addr} {cp : Nat} (op a : Int) (w : World) (ht : isOne op = true) (ha : wrap32 a = a) (hv : View w ad 1 1 [.int .i64 a]) :
    Calls Tryz.prog 81 #[.int .i64 op, .slice ad 1 cp] w fun e w' => e = .returned (.tuple #[.int .i64 (un32 op a), .bool true]) ∧ Step w w' := by
  go_enter Tryz.func81, Tryz.ntmps81
  go_wp2_with (at_builtin; go_must (refine app_own _ rfl (.tmp 7) (.tmp 8) 117 rfl 3 (.int .i64 0) 1 8 Tryz.ints_tab w.heap.size _ 0 0 [] rfl (own_litAt rfl rfl (Nat.le_refl _) (by unfold maxLen; omega) rfl) ad 1 cp [.int .i64 a] rfl (hv.fr0 ((Fr.refl [] w).alloc _)) (by simp [Value.oneCell']) (by omega) (by simp) ?_); intro ao1 cap1 w1 hown1 f1)
  have hown2 : w1.ownsRow w.heap.size 3 1 (.slice ao1 1 cap1) 1 [.int .i64 a] := hown1
  obtain ⟨g, rfl, hg1, hg2⟩ := own_addr hown2 (by omega)
  have st1 : Step w w1 := ⟨((Fr.refl [] w).alloc _).trans f1 (fun x hx => .inr (by simp only [blk, List.mem_singleton] at hx; omega))⟩
  clear hown1 f1
  have nb : NeB g w1.heap.size := ⟨by omega⟩
  have nb' : NeB w1.heap.size g := ⟨by omega⟩
  have bx : BoxAt (w1.alloc (.cells #[.slice none 0 0, .slice none 0 0, .slice none 0 0, .int .i64 0, .int .i64 0, .slice none 0 0, .slice none 0 0, .slice none 0 0, .slice none 0 0, .int .i64 0, .int .i64 0, .int .i64 0, .int .i64 0, .slice none 0 0, .int .i64 0, .slice none 0 0, .slice none 0 0, .slice none 0 0, .slice (some ⟨g, 0, none⟩) 1 cap1, .slice none 0 0] 147)) w1.heap.size (mch 0 0 (.slice (some ⟨g, 0, none⟩) 1 cap1)) := ⟨(mch_box w1 _ 0 0 _).is⟩
  with_reducible refine Calls.mono (snum1 (B := w.heap.size) (p := w1.heap.size) (g := g) (cap := cap1) op a _ ht ha (own_keep hown2) (bx := bx) (nb := nb) (nb' := nb') (ag := ⟨by simp; omega⟩)) ?_
  rintro e w2 ⟨rfl, c2, b2, st2⟩
  have nbg : NewB w g := ⟨hg1⟩
  have og2 : Old g w2 := ⟨block_lt_of_cell c2⟩
  have c3 : w2.drew.cell? ⟨g, 0, none⟩ = some (.int .i64 (un32 op a)) := c2
  have b3 : BoxL w2.drew w1.heap.size (mch 0 0 (.slice (some ⟨g, 0, none⟩) 1 cap1)) := boxOf
  go_wp2_with fail
  refine rg_begin0 (n := 20) (by kernel_rfl) rfl fun rg0 => ?_
  refine rg_read (i := 0) (a1 := _) rfl (by kernel_rfl) rfl (by simp) (by intro wq hwq; go_wp2; exact ⟨rfl, rfl⟩) mkStep ?_
  refine rg_read (i := 1) (a1 := _) rfl (by kernel_rfl) rfl (by simp) (by intro wq hwq; go_wp2; exact ⟨rfl, rfl⟩) mkStep ?_
  refine rg_read (i := 2) (a1 := _) rfl (by kernel_rfl) rfl (by simp) (by intro wq hwq; go_wp2; exact ⟨rfl, rfl⟩) mkStep ?_
  refine rg_read (i := 3) (a1 := _) rfl (by kernel_rfl) rfl (by simp) (by intro wq hwq; go_wp2; exact ⟨rfl, rfl⟩) mkStep ?_
  refine rg_read (i := 4) (a1 := _) rfl (by kernel_rfl) rfl (by simp) (by intro wq hwq; go_wp2; exact ⟨rfl, rfl⟩) mkStep ?_
  refine rg_read (i := 5) (a1 := _) rfl (by kernel_rfl) rfl (by simp) (by intro wq hwq; go_wp2; exact ⟨rfl, rfl⟩) mkStep ?_
  refine rg_read (i := 6) (a1 := _) rfl (by kernel_rfl) rfl (by simp) (by intro wq hwq; go_wp2; exact ⟨rfl, rfl⟩) mkStep ?_
  refine rg_read (i := 7) (a1 := _) rfl (by kernel_rfl) rfl (by simp) (by intro wq hwq; go_wp2; exact ⟨rfl, rfl⟩) mkStep ?_
  refine rg_read (i := 8) (a1 := _) rfl (by kernel_rfl) rfl (by simp) (by intro wq hwq; go_wp2; exact ⟨rfl, rfl⟩) mkStep ?_
  refine rg_read (i := 9) (a1 := _) rfl (by kernel_rfl) rfl (by simp) (by intro wq hwq; go_wp2; exact ⟨rfl, rfl⟩) mkStep ?_
  refine rg_read (i := 10) (a1 := _) rfl (by kernel_rfl) rfl (by simp) (by intro wq hwq; go_wp2; exact ⟨rfl, rfl⟩) mkStep ?_
  refine rg_read (i := 11) (a1 := _) rfl (by kernel_rfl) rfl (by simp) (by intro wq hwq; go_wp2; exact ⟨rfl, rfl⟩) mkStep ?_
  refine rg_read (i := 12) (a1 := _) rfl (by kernel_rfl) rfl (by simp) (by intro wq hwq; go_wp2; exact ⟨rfl, rfl⟩) mkStep ?_
  refine rg_read (i := 13) (a1 := _) rfl (by kernel_rfl) rfl (by simp) (by intro wq hwq; go_wp2; exact ⟨rfl, rfl⟩) mkStep ?_
  refine rg_read (i := 14) (a1 := _) rfl (by kernel_rfl) rfl (by simp) (by intro wq hwq; go_wp2; exact ⟨rfl, rfl⟩) mkStep ?_
  refine rg_read (i := 15) (a1 := _) rfl (by kernel_rfl) rfl (by simp) (by intro wq hwq; go_wp2; exact ⟨rfl, rfl⟩) mkStep ?_
  refine rg_read (i := 16) (a1 := _) rfl (by kernel_rfl) rfl (by simp) (by intro wq hwq; go_wp2; exact ⟨rfl, rfl⟩) mkStep ?_
  refine rg_read (i := 17) (a1 := _) rfl (by kernel_rfl) rfl (by simp) (by intro wq hwq; go_wp2; exact ⟨rfl, rfl⟩) mkStep ?_
  refine rg_read (i := 18) (a1 := _) rfl (by kernel_rfl) rfl (by simp) (by intro wq hwq; go_wp2; exact ⟨rfl, rfl⟩) mkStep ?_
  refine rg_read (i := 19) (a1 := _) rfl (by kernel_rfl) rfl (by simp) (by intro wq hwq; go_wp2; exact ⟨rfl, rfl⟩) mkStep ?_
  refine rg_done (by kernel_rfl) ?_
  go_wp2
  go_ret2
  exact ⟨rfl, mkStep⟩
end Go.Proofs.YtnldaicibnkeoaaGreatDoor
