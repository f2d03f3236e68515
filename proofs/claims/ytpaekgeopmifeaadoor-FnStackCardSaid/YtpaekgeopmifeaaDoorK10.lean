/- Contracts: spec.UtfOk. -/
import Derived.Test.YtpaekgeopmifeaaDoorK02
import Derived.Test.YtpaekgeopmifeaaDoorK09
import Derived.Lib.ValidLaws
namespace Go.Proofs.YtpaekgeopmifeaaDoor
attribute [local go_sem ↓] Go.wp_at_zero Go.wp_at_succ
open Go.RowKit
open Rep (Is sz)

def contV : List UInt8 → Int → Option Int
  | [], v => some v
  | y :: r, v => if 128 ≤ (y.toNat : Int) ∧ (y.toNat : Int) ≤ 191 then contV r (v * 64 + (y.toNat : Int) % 64) else none
def charHd (x : Int) : Nat × Int × Int :=
  if 194 ≤ x ∧ x < 224 then (2, 128, x % 32) else if 224 ≤ x ∧ x < 240 then (3, 2048, x % 16) else if 240 ≤ x ∧ x < 245 then (4, 65536, x % 8) else (0, 0, 0)
def charEnd (n : Nat) (least : Int) : Option Int → Nat
  | none => 0
  | some v => if v < least ∨ v > 1114111 ∨ (v ≥ 55296 ∧ v ≤ 57343) then 0 else n
/-- How many bytes the character has that stands at the beginning; 0: it is not right. -/
def charM : List UInt8 → Nat
  | [] => 0
  | x :: r => if (x.toNat : Int) < 128 then 1 else if (charHd x.toNat).1 = 0 ∨ r.length + 1 < (charHd x.toNat).1 then 0
    else charEnd (charHd x.toNat).1 (charHd x.toNat).2.1 (contV (r.take ((charHd x.toNat).1 - 1)) (charHd x.toNat).2.2)

theorem charM_cons (x : UInt8) (r : List UInt8) : charM (x :: r) = if (x.toNat : Int) < 128 then 1 else if (charHd x.toNat).1 = 0 ∨ r.length + 1 < (charHd x.toNat).1 then 0
    else charEnd (charHd x.toNat).1 (charHd x.toNat).2.1 (contV (r.take ((charHd x.toNat).1 - 1)) (charHd x.toNat).2.2) := rfl
open Go.Lib in
set_option maxHeartbeats 4000000 in
theorem char_dec (x : UInt8) (r : List UInt8) (h : 128 ≤ x.toNat) :
    (charM (x :: r) = 0 ∧ decodeN (r.length + 1) x.toNat (r.getD 0 0).toNat (r.getD 1 0).toNat (r.getD 2 0).toNat = (65533, 1)) ∨ (2 ≤ charM (x :: r) ∧ (decodeN (r.length + 1) x.toNat (r.getD 0 0).toNat (r.getD 1 0).toNat (r.getD 2 0).toNat).2 = charM (x :: r)) := by
  have hx := x.toNat_lt
  have n0 : ¬ ((x.toNat : Int) < 128) := by omega
  unfold charM
  simp only [if_neg n0]
  by_cases c1 : x.toNat < 194
  · rw [show charHd (x.toNat : Int) = (0, 0, 0) by unfold charHd; rw [if_neg (by omega), if_neg (by omega), if_neg (by omega)]]
    exact .inl ⟨by simp, decodeN_bad _ _ _ _ _ (.inl ⟨h, c1⟩)⟩
  by_cases c2 : x.toNat < 224
  · rw [show charHd (x.toNat : Int) = (2, 128, (x.toNat : Int) % 32) by unfold charHd; rw [if_pos (by omega)]]
    rcases r with _ | ⟨a, t⟩
    · left
      refine ⟨by simp, ?_⟩
      simp only [List.length_nil]
      unfold decodeN
      repeat' split
      all_goals first | rfl | (exfalso; omega)
    · have ha := a.toNat_lt
      simp only [List.length_cons, Nat.reduceSub, List.take_succ_cons, List.take_zero, contV, List.getD_cons_zero, show ¬ ((2 : Nat) = 0 ∨ t.length + 1 + 1 < 2) by omega, if_false]
      unfold decodeN
      by_cases q1 : 128 ≤ (a.toNat : Int) ∧ (a.toNat : Int) ≤ 191
      · simp only [if_pos q1, charEnd]
        right
        repeat' split
        all_goals first | (exfalso; omega) | exact ⟨by omega, rfl⟩
      · simp only [if_neg q1, charEnd]
        left
        refine ⟨trivial, ?_⟩
        repeat' split
        all_goals first | rfl | (exfalso; omega)
  by_cases c3 : x.toNat < 240
  · rw [show charHd (x.toNat : Int) = (3, 2048, (x.toNat : Int) % 16) by unfold charHd; rw [if_neg (by omega), if_pos (by omega)]]
    rcases r with _ | ⟨a, _ | ⟨b, t⟩⟩
    · left
      refine ⟨by simp, ?_⟩
      simp only [List.length_nil]
      unfold decodeN
      repeat' split
      all_goals first | rfl | (exfalso; omega)
    · left
      refine ⟨by simp, ?_⟩
      simp only [List.length_nil, List.length_cons]
      unfold decodeN
      repeat' split
      all_goals first | rfl | (exfalso; omega)
    · have ha := a.toNat_lt
      have hb := b.toNat_lt
      simp only [List.length_cons, Nat.reduceSub, List.take_succ_cons, List.take_zero, contV, List.getD_cons_zero, List.getD_cons_succ, show ¬ ((3 : Nat) = 0 ∨ t.length + 1 + 1 + 1 < 3) by omega, if_false]
      unfold decodeN
      by_cases q1 : 128 ≤ (a.toNat : Int) ∧ (a.toNat : Int) ≤ 191
      · by_cases q2 : 128 ≤ (b.toNat : Int) ∧ (b.toNat : Int) ≤ 191
        · simp only [if_pos q1, if_pos q2, charEnd]
          by_cases q3 : (((x.toNat : Int) % 16 * 64 + (a.toNat : Int) % 64) * 64 + (b.toNat : Int) % 64 < 2048 ∨ ((x.toNat : Int) % 16 * 64 + (a.toNat : Int) % 64) * 64 + (b.toNat : Int) % 64 > 1114111 ∨ ((x.toNat : Int) % 16 * 64 + (a.toNat : Int) % 64) * 64 + (b.toNat : Int) % 64 ≥ 55296 ∧ ((x.toNat : Int) % 16 * 64 + (a.toNat : Int) % 64) * 64 + (b.toNat : Int) % 64 ≤ 57343)
          · left
            rw [if_pos q3]
            refine ⟨rfl, ?_⟩
            repeat' split
            all_goals first | rfl | (exfalso; omega)
          · right
            rw [if_neg q3]
            repeat' split
            all_goals first | (exfalso; omega) | exact ⟨by omega, rfl⟩
        · simp only [if_pos q1, if_neg q2, charEnd]
          left
          refine ⟨trivial, ?_⟩
          repeat' split
          all_goals first | rfl | (exfalso; omega)
      · simp only [if_neg q1, charEnd]
        left
        refine ⟨trivial, ?_⟩
        repeat' split
        all_goals first | rfl | (exfalso; omega)
  by_cases c4 : x.toNat < 245
  · rw [show charHd (x.toNat : Int) = (4, 65536, (x.toNat : Int) % 8) by unfold charHd; rw [if_neg (by omega), if_neg (by omega), if_pos (by omega)]]
    rcases r with _ | ⟨a, _ | ⟨b, _ | ⟨c, t⟩⟩⟩
    · left
      refine ⟨by simp, ?_⟩
      simp only [List.length_nil]
      unfold decodeN
      repeat' split
      all_goals first | rfl | (exfalso; omega)
    · left
      refine ⟨by simp, ?_⟩
      simp only [List.length_nil, List.length_cons]
      unfold decodeN
      repeat' split
      all_goals first | rfl | (exfalso; omega)
    · left
      refine ⟨by simp, ?_⟩
      simp only [List.length_nil, List.length_cons]
      unfold decodeN
      repeat' split
      all_goals first | rfl | (exfalso; omega)
    · have ha := a.toNat_lt
      have hb := b.toNat_lt
      have hc := c.toNat_lt
      simp only [List.length_cons, Nat.reduceSub, List.take_succ_cons, List.take_zero, contV, List.getD_cons_zero, List.getD_cons_succ, show ¬ ((4 : Nat) = 0 ∨ t.length + 1 + 1 + 1 + 1 < 4) by omega, if_false]
      unfold decodeN
      by_cases q1 : 128 ≤ (a.toNat : Int) ∧ (a.toNat : Int) ≤ 191
      · by_cases q2 : 128 ≤ (b.toNat : Int) ∧ (b.toNat : Int) ≤ 191
        · by_cases q4 : 128 ≤ (c.toNat : Int) ∧ (c.toNat : Int) ≤ 191
          · simp only [if_pos q1, if_pos q2, if_pos q4, charEnd]
            obtain ⟨V, hV⟩ : ∃ V : Int, V = (((x.toNat : Int) % 8 * 64 + (a.toNat : Int) % 64) * 64 + (b.toNat : Int) % 64) * 64 + (c.toNat : Int) % 64 := ⟨_, rfl⟩
            rw [← hV]
            by_cases q3 : V < 65536 ∨ V > 1114111 ∨ V ≥ 55296 ∧ V ≤ 57343
            · left
              rw [if_pos q3]
              refine ⟨rfl, ?_⟩
              repeat' split
              all_goals first | rfl | (exfalso; omega)
            · right
              rw [if_neg q3]
              repeat' split
              all_goals first | (exfalso; omega) | exact ⟨by omega, rfl⟩
          · simp only [if_pos q1, if_pos q2, if_neg q4, charEnd]
            left
            refine ⟨trivial, ?_⟩
            repeat' split
            all_goals first | rfl | (exfalso; omega)
        · simp only [if_pos q1, if_neg q2, charEnd]
          left
          refine ⟨trivial, ?_⟩
          repeat' split
          all_goals first | rfl | (exfalso; omega)
      · simp only [if_neg q1, charEnd]
        left
        refine ⟨trivial, ?_⟩
        repeat' split
        all_goals first | rfl | (exfalso; omega)
  · rw [show charHd (x.toNat : Int) = (0, 0, 0) by unfold charHd; rw [if_neg (by omega), if_neg (by omega), if_neg (by omega)]]
    exact .inl ⟨by simp, decodeN_bad _ _ _ _ _ (.inr ⟨by omega, hx⟩)⟩

open Go.Lib in
set_option maxRecDepth 100000 in
theorem valid_char (l : List UInt8) (hne : l ≠ []) : validD l = if charM l = 0 then false else validD (l.drop (charM l)) := by
  cases l with
  | nil => exact absurd rfl hne
  | cons x r =>
    by_cases h : x.toNat < 128
    · have e : charM (x :: r) = 1 := by
        have h2 : (x.toNat : Int) < 128 := by omega
        unfold charM
        dsimp only
        rw [if_pos h2]
      rw [validD_cons x r h, e]
      simp
    · rw [validD_step _ hne, decodeL_N]
      have k := char_dec x r (by omega)
      simp only [List.length_cons, List.getD_cons_zero, List.getD_cons_succ]
      rcases k with ⟨k1, k2⟩ | ⟨k1, k2⟩
      · rw [k1, k2]; simp
      · rw [k2, if_neg (by omega), if_neg (by omega)]

theorem and_7 (n : Int) : bits .and .i64 n 7 = n % 8 := by
  have h127 : (BitVec.ofInt 64 7).toNat = 2 ^ 3 - 1 := by decide
  have key : (BitVec.ofInt 64 n &&& BitVec.ofInt 64 7).toNat = (n % ((2 ^ 64 : Nat) : Int)).toNat % 2 ^ 3 := by
    rw [BitVec.toNat_and, BitVec.toNat_ofInt, h127, Nat.and_two_pow_sub_one_eq_mod]
  show IntKind.i64.wrap ((BitVec.ofInt 64 n &&& BitVec.ofInt 64 7).toNat : Nat) = n % 8
  rw [key, IntKind.wrap_i64]
  omega
theorem and_15 (n : Int) : bits .and .i64 n 15 = n % 16 := by
  have h127 : (BitVec.ofInt 64 15).toNat = 2 ^ 4 - 1 := by decide
  have key : (BitVec.ofInt 64 n &&& BitVec.ofInt 64 15).toNat = (n % ((2 ^ 64 : Nat) : Int)).toNat % 2 ^ 4 := by
    rw [BitVec.toNat_and, BitVec.toNat_ofInt, h127, Nat.and_two_pow_sub_one_eq_mod]
  show IntKind.i64.wrap ((BitVec.ofInt 64 n &&& BitVec.ofInt 64 15).toNat : Nat) = n % 16
  rw [key, IntKind.wrap_i64]
  omega
theorem and_31 (n : Int) : bits .and .i64 n 31 = n % 32 := by
  have h127 : (BitVec.ofInt 64 31).toNat = 2 ^ 5 - 1 := by decide
  have key : (BitVec.ofInt 64 n &&& BitVec.ofInt 64 31).toNat = (n % ((2 ^ 64 : Nat) : Int)).toNat % 2 ^ 5 := by
    rw [BitVec.toNat_and, BitVec.toNat_ofInt, h127, Nat.and_two_pow_sub_one_eq_mod]
  show IntKind.i64.wrap ((BitVec.ofInt 64 n &&& BitVec.ofInt 64 31).toNat : Nat) = n % 32
  rw [key, IntKind.wrap_i64]
  omega
theorem and_63 (n : Int) : bits .and .i64 n 63 = n % 64 := by
  have h127 : (BitVec.ofInt 64 63).toNat = 2 ^ 6 - 1 := by decide
  have key : (BitVec.ofInt 64 n &&& BitVec.ofInt 64 63).toNat = (n % ((2 ^ 64 : Nat) : Int)).toNat % 2 ^ 6 := by
    rw [BitVec.toNat_and, BitVec.toNat_ofInt, h127, Nat.and_two_pow_sub_one_eq_mod]
  show IntKind.i64.wrap ((BitVec.ofInt 64 n &&& BitVec.ofInt 64 63).toNat : Nat) = n % 64
  rw [key, IntKind.wrap_i64]
  omega
end Go.Proofs.YtpaekgeopmifeaaDoor
