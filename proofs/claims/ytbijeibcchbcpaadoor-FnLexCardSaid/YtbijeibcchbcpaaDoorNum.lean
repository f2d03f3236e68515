/- Contracts: numbers of 32 bits and their texts. -/
import Derived.Test.YtbijeibcchbcpaaDoorInts
import Derived.Test.YtbijeibcchbcpaaDoorShelf
import Derived.Laws.Bits128
import Derived.Lib.ItoaNum
namespace Go.Proofs.YtbijeibcchbcpaaDoor
attribute [local go_sem ↓] Go.wp_at_zero Go.wp_at_succ
open Go.RowKit
open Rep (Is sz)

theorem and_full (n : Int) : bits .and .i64 n 4294967295 = n % 4294967296 := by
  have h127 : (BitVec.ofInt 64 4294967295).toNat = 2 ^ 32 - 1 := by decide
  have key : (BitVec.ofInt 64 n &&& BitVec.ofInt 64 4294967295).toNat = (n % ((2 ^ 64 : Nat) : Int)).toNat % 2 ^ 32 := by
    rw [BitVec.toNat_and, BitVec.toNat_ofInt, h127, Nat.and_two_pow_sub_one_eq_mod]
  show IntKind.i64.wrap ((BitVec.ofInt 64 n &&& BitVec.ofInt 64 4294967295).toNat : Nat) = n % 4294967296
  rw [key, IntKind.wrap_i64]
  omega

theorem wrap32_lo (n : Int) : -2147483648 ≤ wrap32 n ∧ wrap32 n ≤ 2147483647 := by unfold wrap32; omega

theorem iwrap_any (n : Int) (w : World) : Calls Tryd.prog 37 #[.int .i64 n] w fun e w' => e = .returned (.int .i64 (wrap32 n)) ∧ w = w' := by
  have h := wrap32_lo n
  have e : wrap64 (wrap32 n) = wrap32 n := wrap64_in (by unfold In64; omega)
  go_enter Tryd.func37, Tryd.ntmps37
  go_wp2
  go_ret
  exact ⟨rfl, rfl⟩

/-- The text of a number of 32 bits. -/
def numL (n : Int) : List UInt8 := Go.Lib.itoa (wrap32 n)

theorem digit_byte (d : Nat) (h : d < 10) : (UInt8.ofNat (48 + d)).toNat = 48 + d := by
  rw [UInt8.toNat_ofNat']; omega

theorem Tryd.bytes_tab' : Tryd.prog.underlying 22 = some (.slice 5) := by kernel_rfl

theorem dec_len : ∀ u : Nat, (Go.Lib.decDigits u).length ≤ u + 1 := by
  intro u
  induction u using Nat.strongRecOn with
  | _ u ih =>
    rw [Go.Lib.decDigits]
    split
    · simp
    · have := ih (u / 10) (by omega)
      rw [List.length_append]
      simp only [List.length_cons, List.length_nil]
      omega

/-- string([]byte{b}). -/
theorem lit1 (w : World) (x : Int) (b : UInt8) (h : x = b.toNat) :
    (convert 22 9 (.slice (some ⟨w.heap.size, 0, none⟩) 1 1)).run Tryd.prog (w.alloc (.cells #[.int .u8 x] 5)) = .ok (.string ⟨#[b]⟩) (w.alloc (.cells #[.int .u8 x] 5)) := by
  subst h
  exact run_string_view (P := Tryd.prog) _ 22 9 5 _ 1 1 [b] Tryd.bytes_tab' (by kernel_rfl) (by kernel_rfl) (view_lit' w _ _ 1 1 _ rfl rfl)

theorem run_string_cell (q : World) (g : Nat) (b : UInt8) (h : q.cell? ⟨g, 0, none⟩ = some (.int .u8 b.toNat)) :
    (convert 22 9 (.slice (some ⟨g, 0, none⟩) 1 1)).run Tryd.prog q = .ok (.string ⟨#[b]⟩) q := by
  refine run_convert_bytes_back q 22 9 5 ⟨g, 0, none⟩ 1 [b] Tryd.bytes_tab' (by kernel_rfl) (by kernel_rfl) fun j hj => ?_
  have hj0 : j = 0 := by simpa using hj
  subst hj0
  rw [Addr.add_lit]
  exact h

end Go.Proofs.YtbijeibcchbcpaaDoor
