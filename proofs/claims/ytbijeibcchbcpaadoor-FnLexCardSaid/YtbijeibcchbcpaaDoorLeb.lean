/- Contracts: numbers in pieces, read; both sides. -/
import Derived.Test.YtbijeibcchbcpaaDoorHelp
import Derived.Test.YtbijeibcchbcpaaDoorWithin
import Derived.Laws.Bits128
namespace Go.Proofs.YtbijeibcchbcpaaDoor
attribute [local go_sem ↓] Go.wp_at_zero Go.wp_at_succ
open Go.RowKit
open Rep (Is sz)

def pcsGo (b : List UInt8) (at' : Nat) : Nat → Nat → Int → Option (Int × Int × Nat)
  | 0, _, _ => none
  | f + 1, i, acc => match b[at' + i]? with
    | none => none
    | some c => if (c.toNat : Int) < 128 then some (acc + (c.toNat : Int) % 128 * 2 ^ (7 * i), (c.toNat : Int), i + 1) else pcsGo b at' f (i + 1) (acc + (c.toNat : Int) % 128 * 2 ^ (7 * i))
def pcs (b : List UInt8) (at' : Nat) : Option (Int × Int × Nat) := pcsGo b at' 5 0 0

theorem pcsGo_end {b : List UInt8} {a k : Nat} {acc : Int} (h : b.length ≤ a + k) (f : Nat) : pcsGo b a f k acc = none := by
  cases f with
  | zero => rfl
  | succ f => unfold pcsGo; rw [List.getElem?_eq_none h]
theorem pcsGo_last {b : List UInt8} {a k : Nat} {acc : Int} (f : Nat) (h : a + k < b.length) (hc : (b[a + k].toNat : Int) < 128) : pcsGo b a (f + 1) k acc = some (acc + (b[a + k].toNat : Int) % 128 * 2 ^ (7 * k), (b[a + k].toNat : Int), k + 1) := by
  unfold pcsGo; rw [List.getElem?_eq_getElem h]; simp only []; rw [if_pos hc]
theorem pcsGo_more {b : List UInt8} {a k : Nat} {acc : Int} (f : Nat) (h : a + k < b.length) (hc : ¬ (b[a + k].toNat : Int) < 128) : pcsGo b a (f + 1) k acc = pcsGo b a f (k + 1) (acc + (b[a + k].toNat : Int) % 128 * 2 ^ (7 * k)) := by
  conv => lhs; unfold pcsGo
  rw [List.getElem?_eq_getElem h]; simp only []; rw [if_neg hc]
/-- What is read, where it is read: not below 0, below 2^35; up to five bytes, all there. -/
theorem pcsGo_ok {b : List UInt8} {a : Nat} : ∀ (f k : Nat) (acc n c : Int) (s : Nat), f + k = 5 → 0 ≤ acc → acc < 2 ^ (7 * k) → pcsGo b a f k acc = some (n, c, s) → 0 ≤ n ∧ n < 2 ^ (7 * s) ∧ 0 ≤ c ∧ c < 128 ∧ k < s ∧ s ≤ 5 ∧ a + s ≤ b.length
  | 0, k, acc, n, c, s, _, _, _, h => by simp [pcsGo] at h
  | f + 1, k, acc, n, c, s, hf, h0, h1, h => by
    by_cases hl : a + k < b.length
    · have hc1 : (0 : Int) ≤ (b[a + k].toNat : Int) := by omega
      have hm : 0 ≤ (b[a + k].toNat : Int) % 128 ∧ (b[a + k].toNat : Int) % 128 < 128 := by omega
      have hp : (0 : Int) < 2 ^ (7 * k) := Int.pow_pos (by decide)
      have hsucc : (2 : Int) ^ (7 * (k + 1)) = 128 * 2 ^ (7 * k) := by rw [Nat.mul_succ, Int.pow_add]; rw [Int.mul_comm]; rfl
      have hm1 := Int.mul_le_mul_of_nonneg_right (Int.le_of_lt_add_one (show (b[a + k].toNat : Int) % 128 < 127 + 1 by omega)) (Int.le_of_lt hp)
      have hm0 := Int.mul_nonneg hm.1 (Int.le_of_lt hp)
      by_cases hc : (b[a + k].toNat : Int) < 128
      · rw [pcsGo_last f hl hc] at h
        simp only [Option.some.injEq, Prod.mk.injEq] at h
        obtain ⟨rfl, rfl, rfl⟩ := h
        refine ⟨by omega, by rw [hsucc]; omega, by omega, hc, by omega, by omega, by omega⟩
      · rw [pcsGo_more f hl hc] at h
        have := pcsGo_ok f (k + 1) _ n c s (by omega) (by omega) (by rw [hsucc]; omega) h
        exact ⟨this.1, this.2.1, this.2.2.1, this.2.2.2.1, by omega, this.2.2.2.2.2.1, this.2.2.2.2.2.2⟩
    · rw [pcsGo_end (by omega)] at h; cases h
theorem pcs_ok {b : List UInt8} {a : Nat} {n c : Int} {s : Nat} (h : pcs b a = some (n, c, s)) : 0 ≤ n ∧ n < 2 ^ (7 * s) ∧ 0 ≤ c ∧ c < 128 ∧ 0 < s ∧ s ≤ 5 ∧ a + s ≤ b.length :=
  pcsGo_ok 5 0 0 n c s rfl (by decide) (by decide) h

def pcsR (o : Option (Int × Int × Nat)) : Int × Int × Int := match o with
  | some (n, c, s) => (n, c, s)
  | none => (0, 0, 0)

def getU (b : List UInt8) (at' : Nat) : Option (Int × Nat) := match pcs b at' with
  | some (n, c, s) => if s = 5 ∧ 15 < c then none else some (n, at' + s)
  | none => none
def getS (b : List UInt8) (at' : Nat) : Option (Int × Nat) := match pcs b at' with
  | some (n, c, s) => if s = 5 ∧ 8 ≤ c ∧ c ≤ 119 then none else some (if 64 ≤ c then n - 2 ^ (7 * s) else n, at' + s)
  | none => none

/-- A byte of a row. -/
theorem byte_cell {w : World} {a : Option Addr} {l : List UInt8} (h : View w a 1 l.length (byteVs l)) (k : Nat) (hk : k < l.length) : ∃ b o, a = some ⟨b, o, none⟩ ∧ w.cell? ⟨b, o + k, none⟩ = some (.int .u8 l[k].toNat) ∧ w.frozen? ⟨b, o + k, none⟩ = false ∧ Old b w :=
  h.get k hk _ (by simp [byteVs, hk])


theorem and_127 (n : Int) : bits .and .i64 n 127 = n % 128 := by
  have h127 : (BitVec.ofInt 64 127).toNat = 2 ^ 7 - 1 := by decide
  have key : (BitVec.ofInt 64 n &&& BitVec.ofInt 64 127).toNat = (n % ((2 ^ 64 : Nat) : Int)).toNat % 2 ^ 7 := by
    rw [BitVec.toNat_and, BitVec.toNat_ofInt, h127, Nat.and_two_pow_sub_one_eq_mod]
  show IntKind.i64.wrap ((BitVec.ofInt 64 n &&& BitVec.ofInt 64 127).toNat : Nat) = n % 128
  rw [key, IntKind.wrap_i64]
  omega

def pcsS (a : Nat) (o : Option (Int × Int × Nat)) : Int × Int × Int × Int := match o with
  | some (n, c, s) => (n, a + s, c, s)
  | none => (0, 0, 0, 0)

def getR (o : Option (Int × Nat)) : Int × Int × Bool := match o with
  | some (n, a) => (n, a, true)
  | none => (0, 0, false)
end Go.Proofs.YtbijeibcchbcpaaDoor
