/- Single bits of numbers of 32 bits: plain laws. -/
import Derived.Test.YtoffaobiikdflaaGreatDoorArith
import Derived.Laws.Bits64b
import Derived.Lib.BitFns
import Derived.Lib.TrailingZeros
namespace Go.Proofs.YtoffaobiikdflaaGreatDoor
open Go.RowKit
open Rep (Is sz)

def u32n (a : Int) : Nat := (a % 4294967296).toNat
theorem u32n_lt (a : Int) : u32n a < 4294967296 := by unfold u32n; omega
theorem u32n_eq (a : Int) : a % 4294967296 = (u32n a : Int) := by unfold u32n; omega

theorem bv_nat (m a : Nat) (h : a < 2 ^ m) : (BitVec.ofInt m (a : Int)).toNat = a := by
  rw [BitVec.ofInt_natCast, BitVec.toNat_ofNat]; exact Nat.mod_eq_of_lt h
theorem and64 (a b : Nat) (ha : a < 9223372036854775808) (hb : b < 9223372036854775808) : bits .and .i64 (a : Int) (b : Int) = ((a &&& b : Nat) : Int) := by
  have hx : a &&& b < 2 ^ 63 := Nat.and_lt_two_pow _ (by omega)
  show IntKind.i64.wrap ((BitVec.ofInt 64 (a : Int) &&& BitVec.ofInt 64 (b : Int)).toNat : Int) = _
  rw [BitVec.toNat_and, bv_nat 64 a (by omega), bv_nat 64 b (by omega), IntKind.wrap_i64]
  omega
theorem or64 (a b : Nat) (ha : a < 9223372036854775808) (hb : b < 9223372036854775808) : bits .or .i64 (a : Int) (b : Int) = ((a ||| b : Nat) : Int) := by
  have hx : a ||| b < 2 ^ 63 := Nat.or_lt_two_pow (by omega) (by omega)
  show IntKind.i64.wrap ((BitVec.ofInt 64 (a : Int) ||| BitVec.ofInt 64 (b : Int)).toNat : Int) = _
  rw [BitVec.toNat_or, bv_nat 64 a (by omega), bv_nat 64 b (by omega), IntKind.wrap_i64]
  omega
theorem xor64 (a b : Nat) (ha : a < 9223372036854775808) (hb : b < 9223372036854775808) : bits .xor .i64 (a : Int) (b : Int) = ((a ^^^ b : Nat) : Int) := by
  have hx : a ^^^ b < 2 ^ 63 := Nat.xor_lt_two_pow (by omega) (by omega)
  show IntKind.i64.wrap ((BitVec.ofInt 64 (a : Int) ^^^ BitVec.ofInt 64 (b : Int)).toNat : Int) = _
  rw [BitVec.toNat_xor, bv_nat 64 a (by omega), bv_nat 64 b (by omega), IntKind.wrap_i64]
  omega
theorem u32wrap (n : Int) : IntKind.u32.wrap n = n % 4294967296 := by simp [IntKind.wrap, IntKind.signed, IntKind.bits]
theorem and32 (a b : Nat) (ha : a < 4294967296) (hb : b < 4294967296) : bits .and .u32 (a : Int) (b : Int) = ((a &&& b : Nat) : Int) := by
  have hx : a &&& b < 2 ^ 32 := Nat.and_lt_two_pow _ (by omega)
  show IntKind.u32.wrap ((BitVec.ofInt 32 (a : Int) &&& BitVec.ofInt 32 (b : Int)).toNat : Int) = _
  rw [BitVec.toNat_and, bv_nat 32 a (by omega), bv_nat 32 b (by omega), u32wrap]
  omega
theorem or32 (a b : Nat) (ha : a < 4294967296) (hb : b < 4294967296) : bits .or .u32 (a : Int) (b : Int) = ((a ||| b : Nat) : Int) := by
  have hx : a ||| b < 2 ^ 32 := Nat.or_lt_two_pow (by omega) (by omega)
  show IntKind.u32.wrap ((BitVec.ofInt 32 (a : Int) ||| BitVec.ofInt 32 (b : Int)).toNat : Int) = _
  rw [BitVec.toNat_or, bv_nat 32 a (by omega), bv_nat 32 b (by omega), u32wrap]
  omega
theorem xor32 (a b : Nat) (ha : a < 4294967296) (hb : b < 4294967296) : bits .xor .u32 (a : Int) (b : Int) = ((a ^^^ b : Nat) : Int) := by
  have hx : a ^^^ b < 2 ^ 32 := Nat.xor_lt_two_pow (by omega) (by omega)
  show IntKind.u32.wrap ((BitVec.ofInt 32 (a : Int) ^^^ BitVec.ofInt 32 (b : Int)).toNat : Int) = _
  rw [BitVec.toNat_xor, bv_nat 32 a (by omega), bv_nat 32 b (by omega), u32wrap]
  omega
/-- x turned to the left by k; only the lowest 32 bits count. -/
def rotl (x k : Nat) : Nat := x * 2 ^ k ||| x / 2 ^ (32 - k)
def rotr (x k : Nat) : Nat := x / 2 ^ k ||| x * 2 ^ (32 - k)
theorem wrap_mod (n : Nat) : wrap32 ((n % 4294967296 : Nat) : Int) = wrap32 (n : Int) := by unfold wrap32; omega
theorem or_mod (x y : Nat) : (x % 4294967296 ||| y % 4294967296) = (x ||| y) % 4294967296 := (Nat.or_mod_two_pow (n := 32)).symm
theorem rotl32 (x k : Nat) (hx : x < 4294967296) : wrap32 ((x * 2 ^ k % 4294967296 ||| x / 2 ^ (32 - k) : Nat) : Int) = wrap32 (rotl x k : Nat) := by
  have h1 : x / 2 ^ (32 - k) < 4294967296 := Nat.lt_of_le_of_lt (Nat.div_le_self _ _) hx
  rw [← wrap_mod (rotl x k), rotl, ← or_mod, Nat.mod_eq_of_lt h1]
theorem rotr32 (x k : Nat) (hx : x < 4294967296) (hk : 0 < k) (hk2 : k < 32) : wrap32 ((x * 2 ^ (32 - k) % 4294967296 ||| x / 2 ^ (32 - (32 - k)) : Nat) : Int) = wrap32 (rotr x k : Nat) := by
  have h1 : x / 2 ^ k < 4294967296 := Nat.lt_of_le_of_lt (Nat.div_le_self _ _) hx
  rw [← wrap_mod (rotr x k), rotr, ← or_mod, Nat.mod_eq_of_lt h1, Nat.or_comm, show 32 - (32 - k) = k by omega]
theorem rotr0 (x : Nat) (hx : x < 4294967296) : wrap32 ((x * 2 ^ 0 % 4294967296 ||| x / 2 ^ 32 : Nat) : Int) = wrap32 (rotr x 0 : Nat) := by
  have h1 : x / 2 ^ 32 = 0 := Nat.div_eq_of_lt (by omega)
  have h2 : x * 2 ^ 32 % 4294967296 = 0 := by omega
  rw [← wrap_mod (rotr x 0), rotr, ← or_mod, h1]
  simp [h2]
theorem shl_lt (x k : Nat) (hx : x < 4294967296) (hk : k < 32) : x * 2 ^ k < 9223372036854775808 := by
  have h1 : 2 ^ k ≤ 2 ^ 31 := Nat.pow_le_pow_right (by decide) (by omega)
  calc x * 2 ^ k ≤ x * 2 ^ 31 := Nat.mul_le_mul_left _ h1
    _ < 9223372036854775808 := by omega
theorem shl_lt' (x k : Nat) (hx : x < 4294967296) (hk : k ≤ 32) : x * 2 ^ k < 18446744073709551616 := by
  have h1 : 2 ^ k ≤ 2 ^ 32 := Nat.pow_le_pow_right (by decide) (by omega)
  calc x * 2 ^ k ≤ x * 2 ^ 32 := Nat.mul_le_mul_left _ h1
    _ < 18446744073709551616 := by omega
theorem or64_0 (x : Nat) (hx : x < 4294967296) : wrap32 (bits .or .i64 (x : Int) (IntKind.i64.wrap ((x : Int) * 2 ^ 32))) = wrap32 (x : Nat) := by
  have e : (BitVec.ofInt 64 (IntKind.i64.wrap ((x : Int) * 2 ^ 32))).toNat = x * 2 ^ 32 := by
    rw [BitVec.toNat_ofInt, IntKind.wrap_i64]
    omega
  show wrap32 (IntKind.i64.wrap ((BitVec.ofInt 64 (x : Int) ||| BitVec.ofInt 64 (IntKind.i64.wrap ((x : Int) * 2 ^ 32))).toNat : Int)) = _
  rw [BitVec.toNat_or, bv_nat 64 x (by omega), e, IntKind.wrap_i64]
  have h := or_mod x (x * 2 ^ 32)
  have h2 : x * 2 ^ 32 % 4294967296 = 0 := by omega
  rw [h2, Nat.mod_eq_of_lt hx, Nat.or_zero] at h
  unfold wrap32
  omega
theorem bitLenAux_at : ∀ (i f x : Nat), i < f → x < 2 ^ (i + 1) → x / 2 ^ i % 2 = 1 → Lib.bitLenAux f x = i + 1
  | 0, f + 1, x, _, h1, h2 => by
    have e : x = 1 := by simp at h1 h2; omega
    subst e
    rw [Lib.bitLenAux, if_neg (by decide)]
    cases f <;> simp [Lib.bitLenAux]
  | i + 1, f + 1, x, h, h1, h2 => by
    have e : x / 2 / 2 ^ i = x / 2 ^ (i + 1) := by rw [Nat.div_div_eq_div_mul, Nat.pow_succ, Nat.mul_comm]
    have h3 : x ≠ 0 := by rintro rfl; simp at h2
    rw [Lib.bitLenAux, if_neg h3, bitLenAux_at i f (x / 2) (by omega) (by rw [Nat.pow_succ] at h1; omega) (by rw [e]; exact h2)]
    omega
theorem ctzFrom_at : ∀ (i f x : Nat), i < f → x % 2 ^ i = 0 → x / 2 ^ i % 2 = 1 → Lib.ctzFrom f x = i
  | 0, f + 1, x, _, _, h2 => by
    rw [Lib.ctzFrom, if_pos (by simpa using h2)]
  | i + 1, f + 1, x, h, h1, h2 => by
    have e : x / 2 / 2 ^ i = x / 2 ^ (i + 1) := by rw [Nat.div_div_eq_div_mul, Nat.pow_succ, Nat.mul_comm]
    have e2 : x % 2 ^ (i + 1) = x % 2 + 2 * (x / 2 % 2 ^ i) := by rw [Nat.pow_succ, Nat.mul_comm, Nat.mod_mul]
    rw [Lib.ctzFrom, if_neg (by omega), ctzFrom_at i f (x / 2) (by omega) (by omega) (by rw [e]; exact h2)]
    omega
theorem popAux_succ : ∀ (i x : Nat), Lib.popAux (i + 1) x = Lib.popAux i x + x / 2 ^ i % 2
  | 0, x => by simp [Lib.popAux]
  | i + 1, x => by
    have e : x / 2 / 2 ^ i = x / 2 ^ (i + 1) := by rw [Nat.div_div_eq_div_mul, Nat.pow_succ, Nat.mul_comm]
    rw [Lib.popAux, popAux_succ i (x / 2), Lib.popAux, e]
    omega
theorem popAux_add : ∀ (i j x : Nat), Lib.popAux (i + j) x = Lib.popAux i (x % 2 ^ i) + Lib.popAux j (x / 2 ^ i)
  | 0, j, x => by simp [Lib.popAux]
  | i + 1, j, x => by
    have e : x / 2 / 2 ^ i = x / 2 ^ (i + 1) := by rw [Nat.div_div_eq_div_mul, Nat.pow_succ, Nat.mul_comm]
    have e2 : x % 2 ^ (i + 1) = x % 2 + 2 * (x / 2 % 2 ^ i) := by rw [Nat.pow_succ, Nat.mul_comm, Nat.mod_mul]
    rw [show i + 1 + j = (i + j) + 1 by omega, Lib.popAux, popAux_add i j (x / 2), Lib.popAux, e, e2]
    have e3 : (x % 2 + 2 * (x / 2 % 2 ^ i)) % 2 = x % 2 := by omega
    have e4 : (x % 2 + 2 * (x / 2 % 2 ^ i)) / 2 = x / 2 % 2 ^ i := by omega
    rw [e3, e4]
    omega
theorem popAux_le : ∀ (i x : Nat), Lib.popAux i x ≤ i
  | 0, _ => Nat.le_refl _
  | i + 1, x => by have := popAux_le i (x / 2); rw [Lib.popAux]; omega
theorem popAux_zero : ∀ i : Nat, Lib.popAux i 0 = 0
  | 0 => rfl
  | i + 1 => by rw [Lib.popAux]; simp [popAux_zero i]
/-- The ones of a byte. -/
theorem popAux_8 (x : Nat) (h : x < 256) : Lib.popAux 64 x = Lib.popAux 8 x := by
  rw [show (64 : Nat) = 8 + 56 from rfl, popAux_add, Nat.mod_eq_of_lt h, Nat.div_eq_of_lt (by omega), popAux_zero]
  rfl
theorem popAux_32 (x : Nat) (h : x < 4294967296) : Lib.popAux 32 x = Lib.popAux 64 (x / 16777216) + Lib.popAux 64 (x / 65536 % 256) + Lib.popAux 64 (x / 256 % 256) + Lib.popAux 64 (x % 256) := by
  rw [popAux_8 (x / 16777216) (by omega), popAux_8 _ (Nat.mod_lt _ (by decide)), popAux_8 _ (Nat.mod_lt _ (by decide)), popAux_8 _ (Nat.mod_lt _ (by decide))]
  rw [show (32 : Nat) = 8 + (8 + (8 + 8)) from rfl, popAux_add, popAux_add 8 (8 + 8), popAux_add 8 8]
  have e1 : x / 2 ^ 8 / 2 ^ 8 = x / 65536 := by omega
  have e2 : x / 2 ^ 8 / 2 ^ 8 / 2 ^ 8 = x / 16777216 := by omega
  rw [e1] at *
  have e3 : x / 65536 / 2 ^ 8 = x / 16777216 := by omega
  rw [e3]
  show Lib.popAux 8 (x % 256) + (Lib.popAux 8 (x / 256 % 256) + (Lib.popAux 8 (x / 65536 % 256) + Lib.popAux 8 (x / 16777216))) = _
  omega
theorem ctz_at (i x : Nat) (hi : i < 32) (h1 : x % 2 ^ i = 0) (h2 : x / 2 ^ i % 2 = 1) : Lib.ctz 32 x = i := by
  have h3 : x ≠ 0 := by rintro rfl; simp at h2
  rw [Lib.ctz, if_neg h3, ctzFrom_at i 32 x hi h1 h2]
theorem ctz_no (x : Nat) (hx : x < 4294967296) (h1 : x % 2 ^ 32 = 0) : Lib.ctz 32 x = 32 := by
  have e : x = 0 := by omega
  subst e
  rfl
theorem ctz_le (x : Nat) : Lib.ctz 32 x ≤ 32 := by
  have h : ∀ f y, Lib.ctzFrom f y ≤ f := by
    intro f
    induction f with
    | zero => intro y; exact Nat.le_refl _
    | succ f ih => intro y; rw [Lib.ctzFrom]; split; exact Nat.zero_le _; have := ih (y / 2); omega
  unfold Lib.ctz
  split
  · exact Nat.le_refl _
  · exact h _ _
theorem bitLen_at (i x : Nat) (hi : i < 32) (h1 : x < 2 ^ (i + 1)) (h2 : x / 2 ^ i % 2 = 1) : Lib.bitLen x = i + 1 := bitLenAux_at i 64 x (by omega) h1 h2
theorem bitLen_le32 (x : Nat) (hx : x < 4294967296) : Lib.bitLen x ≤ 32 := by
  have h : ∀ f k y, y < 2 ^ k → Lib.bitLenAux f y ≤ k := by
    intro f
    induction f with
    | zero => intro k y _; exact Nat.zero_le _
    | succ f ih =>
      intro k y hy
      rw [Lib.bitLenAux]
      split
      · exact Nat.zero_le _
      · cases k with
        | zero => simp at hy; omega
        | succ k => have := ih k (y / 2) (by rw [Nat.pow_succ] at hy; omega); omega
  exact h 64 32 x (by omega)
theorem div_lt_pow (x i : Nat) (h1 : x < 2 ^ (i + 1)) (h2 : x / 2 ^ i % 2 = 0) : x < 2 ^ i := by
  have h3 : x / 2 ^ i < 2 := by rw [Nat.div_lt_iff_lt_mul (Nat.two_pow_pos i), Nat.mul_comm]; rw [Nat.pow_succ] at h1; exact h1
  have h4 : x / 2 ^ i = 0 := by generalize x / 2 ^ i = q at h2 h3; omega
  rcases Nat.div_eq_zero_iff.1 h4 with h5 | h5
  · exact absurd h5 (by have := Nat.two_pow_pos i; omega)
  · exact h5
theorem mod_pow_zero (x i : Nat) (h1 : x % 2 ^ i = 0) (h2 : x / 2 ^ i % 2 = 0) : x % 2 ^ (i + 1) = 0 := by
  rw [Nat.pow_succ, Nat.mod_mul, h1, h2]; rfl
end Go.Proofs.YtoffaobiikdflaaGreatDoor
