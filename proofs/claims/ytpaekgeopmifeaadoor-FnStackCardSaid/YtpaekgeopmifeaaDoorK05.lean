/- Contracts: the operations, impl's side; kinds; InsOk, both sides. -/
import Derived.Test.YtpaekgeopmifeaaDoorK04
import Derived.Test.YtpaekgeopmifeaaDoorK03
namespace Go.Proofs.YtpaekgeopmifeaaDoor
attribute [local go_sem ↓] Go.wp_at_zero Go.wp_at_succ
open Go.RowKit
open Rep (Is sz)

theorem upto_in64 (a : Int) (n : Nat) (h0 : 0 ≤ a) (h1 : a + n ≤ 1000) : ∀ x ∈ upto a n, In64 x := by
  intro x hx
  simp only [upto, List.mem_map, List.mem_range] at hx
  obtain ⟨j, hj, rfl⟩ := hx
  unfold In64; omega

set_option maxRecDepth 4000 in
theorem iopcodes (w : World) : Calls Tryd.prog 67 #[] w fun e w' => ∃ a c F, e = .returned (.slice a 52 c) ∧ Known w' F codesL [.slice a 52 c] ∧ Step w w' := by
  go_enter Tryd.func67, Tryd.ntmps67
  go_wp2
  go_loopw [1, 2] (fun o i wr => ∃ (j : Nat) (ao : Option Addr) (cap : Nat) (out : List Int), j ≤ 10 ∧ i = .int .i64 (70 + (j : Int)) ∧ o = .slice ao out.length cap ∧ Step w wr ∧ wr.ownsRow w.heap.size 3 1 (.slice ao out.length cap) out.length (intVs out) ∧ Hid (out = codesA ++ upto 70 j)) (fun _ i _ => 80 - (intOf i).toNat)
  case atStart => exact ⟨0, _, _, codesA, by omega, rfl, rfl, mkStep, own_litAt rfl rfl (Nat.le_refl _) (by decide) rfl, hid rfl⟩
  case round =>
    obtain ⟨j, ao, cap, out, hj, rfl, rfl, st, hown, heq⟩ := hrel
    have hol : out.length = 24 + j := by rw [heq.out, List.length_append, upto_length]; rfl
    have hol1 : out.length ≤ 34 := by omega
    by_cases hlt : j < 10
    · have e1 : (out ++ [(70 : Int) + j]).length = out.length + 1 := by simp
      have hq := hid (show out ++ [(70 : Int) + j] = codesA ++ upto 70 (j + 1) by rw [heq.out, upto_succ, List.append_assoc])
      replace hol := hid hol
      go_wp2_with (at_builtin; go_must (refine app_one (fun n : Int => Value.int .i64 n) (fun _ => rfl) wr rfl (.tmp 9) (.tmp 11) 33 rfl 3 (.int .i64 0) 8 Tryd.ints_tab w ao cap out ((70 : Int) + j) rfl hown wr.heap.size 1 rfl (by go_simp) (by go_simp) (by omega) ?_); intro ao1 cap1 w1 hown1 st1)
      go_roundw
      case rel => exact ⟨j + 1, ao1, cap1, out ++ [(70 : Int) + j], by omega, by go_num, by rw [e1], mkStep, by rw [e1]; exact hown1, hq⟩
      case measure => simp [intOf]; omega
    · have hj10 := hid (show j = 10 by omega)
      replace hol := hid hol
      go_wp2
      go_loopw [1, 3] (fun o i wr => ∃ (j : Nat) (ao : Option Addr) (cap : Nat) (out : List Int), j ≤ 18 ∧ i = .int .i64 (103 + (j : Int)) ∧ o = .slice ao out.length cap ∧ Step w wr ∧ wr.ownsRow w.heap.size 3 1 (.slice ao out.length cap) out.length (intVs out) ∧ Hid (out = codesA ++ upto 70 10 ++ upto 103 j)) (fun _ i _ => 121 - (intOf i).toNat)
      case atStart => exact ⟨0, ao, cap, out, by omega, rfl, rfl, st, hown, hid (by rw [heq.out, hj10.out]; simp [upto])⟩
      case round =>
        obtain ⟨j, ao, cap, out, hj, rfl, rfl, st, hown, heq⟩ := hrel
        have hol : out.length = 34 + j := by rw [heq.out, List.length_append, List.length_append, upto_length, upto_length]; rfl
        have hol1 : out.length ≤ 52 := by omega
        by_cases hlt : j < 18
        · have e1 : (out ++ [(103 : Int) + j]).length = out.length + 1 := by simp
          have hq := hid (show out ++ [(103 : Int) + j] = codesA ++ upto 70 10 ++ upto 103 (j + 1) by rw [heq.out, upto_succ 103, List.append_assoc])
          replace hol := hid hol
          go_wp2_with (at_builtin; go_must (refine app_one (fun n : Int => Value.int .i64 n) (fun _ => rfl) wr rfl (.tmp 17) (.tmp 19) 33 rfl 3 (.int .i64 0) 8 Tryd.ints_tab w ao cap out ((103 : Int) + j) rfl hown wr.heap.size 1 rfl (by go_simp) (by go_simp) (by omega) ?_); intro ao1 cap1 w1 hown1 st1)
          go_roundw
          case rel => exact ⟨j + 1, ao1, cap1, out ++ [(103 : Int) + j], by omega, by go_num, by rw [e1], mkStep, by rw [e1]; exact hown1, hq⟩
          case measure => simp [intOf]; omega
        · obtain rfl : j = 18 := by omega
          have hq : out = codesL := heq.out
          subst hq
          have h52 : codesL.length = 52 := by decide +kernel
          rw [h52] at hown ⊢
          have ko : Known wr (if codesL = [] then [] else blk ao) codesL [.slice ao 52 cap] := by have := own_ints (l := codesL) (by rw [h52]; exact hown) (in64_all (by decide +kernel)); rw [h52] at this; exact this
          replace hol := hid hol
          replace h52 := hid h52
          go_wp2
          go_ret
          exact ⟨ao, cap, _, rfl, ko, mkStep⟩


def tailN : List ByteArray := cmpN ++ numN
theorem fields_A : (Lib.fields ([117, 110, 114, 101, 97, 99, 104, 97, 98, 108, 101, 32, 110, 111, 112, 32, 98, 108, 111, 99, 107, 32, 108, 111, 111, 112, 32, 105, 102, 32, 101, 108, 115, 101, 32, 101, 110, 100, 32, 98, 114, 32, 98, 114, 95, 105, 102, 32, 114, 101, 116, 117, 114, 110, 32, 99, 97, 108, 108, 32, 100, 114, 111, 112, 32, 115, 101, 108, 101, 99, 116, 32, 108, 111, 99, 97, 108, 46, 103, 101, 116, 32, 108, 111, 99, 97, 108, 46, 115, 101, 116, 32, 108, 111, 99, 97, 108, 46, 116, 101, 101, 32, 103, 108, 111, 98, 97, 108, 46, 103, 101, 116, 32, 103, 108, 111, 98, 97, 108, 46, 115, 101, 116, 32, 105, 51, 50, 46, 108, 111, 97, 100, 32, 105, 51, 50, 46, 115, 116, 111, 114, 101, 32, 109, 101, 109, 111, 114, 121, 46, 115, 105, 122, 101, 32, 109, 101, 109, 111, 114, 121, 46, 103, 114, 111, 119, 32, 105, 51, 50, 46, 99, 111, 110, 115, 116, 32, 105, 51, 50, 46, 101, 113, 122] : List UInt8)).map (fun x => (⟨x.toArray⟩ : ByteArray)) = namesA := by decide +kernel
theorem fields_B : (Lib.fields ([101, 113, 32, 110, 101, 32, 108, 116, 95, 115, 32, 108, 116, 95, 117, 32, 103, 116, 95, 115, 32, 103, 116, 95, 117, 32, 108, 101, 95, 115, 32, 108, 101, 95, 117, 32, 103, 101, 95, 115, 32, 103, 101, 95, 117, 32, 99, 108, 122, 32, 99, 116, 122, 32, 112, 111, 112, 99, 110, 116, 32, 97, 100, 100, 32, 115, 117, 98, 32, 109, 117, 108, 32, 100, 105, 118, 95, 115, 32, 100, 105, 118, 95, 117, 32, 114, 101, 109, 95, 115, 32, 114, 101, 109, 95, 117, 32, 97, 110, 100, 32, 111, 114, 32, 120, 111, 114, 32, 115, 104, 108, 32, 115, 104, 114, 95, 115, 32, 115, 104, 114, 95, 117, 32, 114, 111, 116, 108, 32, 114, 111, 116, 114] : List UInt8)).map (fun x => (⟨x.toArray⟩ : ByteArray)) = tailN := by decide +kernel

theorem i32_size (s : ByteArray) : (i32 s).size = 4 + s.size := by unfold i32; rw [ByteArray.size_append]; rfl



/-! ### Kinds -/
def kindOf (op : Int) : Int :=
  if op = 2 ∨ op = 3 ∨ op = 4 then 1
  else if op = 12 ∨ op = 13 ∨ op = 16 ∨ (32 ≤ op ∧ op ≤ 36) then 2
  else if op = 40 ∨ op = 54 then 3
  else if op = 65 then 4
  else 0
theorem kind_cases (op : Int) : (kindOf op = 1 ∧ (op = 2 ∨ op = 3 ∨ op = 4)) ∨ (kindOf op = 2 ∧ (op = 12 ∨ op = 13 ∨ op = 16 ∨ (32 ≤ op ∧ op ≤ 36))) ∨ (kindOf op = 3 ∧ (op = 40 ∨ op = 54)) ∨ (kindOf op = 4 ∧ op = 65) ∨
    (kindOf op = 0 ∧ op ≠ 2 ∧ op ≠ 3 ∧ op ≠ 4 ∧ op ≠ 12 ∧ op ≠ 13 ∧ op ≠ 16 ∧ (op < 32 ∨ 36 < op) ∧ op ≠ 40 ∧ op ≠ 54 ∧ op ≠ 65) := by
  unfold kindOf
  split
  · exact .inl ⟨rfl, by assumption⟩
  · split
    · exact .inr (.inl ⟨rfl, by assumption⟩)
    · split
      · exact .inr (.inr (.inl ⟨rfl, by assumption⟩))
      · split
        · exact .inr (.inr (.inr (.inl ⟨rfl, by assumption⟩)))
        · exact .inr (.inr (.inr (.inr ⟨rfl, by omega⟩)))

theorem skind (op : Int) (w : World) : Calls Tryd.prog 39 #[.int .i64 op] w fun e w' => e = .returned (.int .i64 (kindOf op)) ∧ Step w w' := by
  obtain ⟨k, hk⟩ : ∃ k, k = kindOf op := ⟨_, rfl⟩
  have hc := kind_cases op
  rw [← hk] at hc ⊢
  clear hk
  go_enter Tryd.func39, Tryd.ntmps39
  rcases hc with ⟨rfl, h⟩ | ⟨rfl, h⟩ | ⟨rfl, h⟩ | ⟨rfl, h⟩ | ⟨rfl, h⟩
  all_goals
    go_wp2
    all_goals (go_ret; exact ⟨by first | rfl | (exfalso; simp at *; omega), mkStep⟩)

theorem ibegins (op : Int) (w : World) : Calls Tryd.prog 55 #[.int .i64 op] w fun e w' => e = .returned (.bool (decide (kindOf op = 1))) ∧ Step w w' := by have hc := kind_cases op; obtain ⟨k, hk⟩ : ∃ k, k = kindOf op := ⟨_, rfl⟩; rw [← hk] at hc ⊢; clear hk; go_enter Tryd.func55, Tryd.ntmps55; (rcases hc with ⟨rfl, h⟩ | ⟨rfl, h⟩ | ⟨rfl, h⟩ | ⟨rfl, h⟩ | ⟨rfl, h⟩); all_goals (go_wp2_with (first | (go_at_call 17; (with_reducible refine Calls.mono (within_any ..) ?_); rintro e wk ⟨rfl, rfl⟩)); all_goals (go_ret; refine ⟨ret_bool ?_, mkStep⟩; (first | (simp; done) | (simp; omega) | (simp at *; omega) | (simp_all; done))))
theorem iindexed (op : Int) (w : World) : Calls Tryd.prog 68 #[.int .i64 op] w fun e w' => e = .returned (.bool (decide (kindOf op = 2))) ∧ Step w w' := by have hc := kind_cases op; obtain ⟨k, hk⟩ : ∃ k, k = kindOf op := ⟨_, rfl⟩; rw [← hk] at hc ⊢; clear hk; go_enter Tryd.func68, Tryd.ntmps68; (rcases hc with ⟨rfl, h⟩ | ⟨rfl, h⟩ | ⟨rfl, h⟩ | ⟨rfl, h⟩ | ⟨rfl, h⟩); all_goals (go_wp2_with (first | (go_at_call 17; (with_reducible refine Calls.mono (within_any ..) ?_); rintro e wk ⟨rfl, rfl⟩)); all_goals (go_ret; refine ⟨ret_bool ?_, mkStep⟩; (first | (simp; done) | (simp; omega) | (simp at *; omega) | (simp_all; done))))
theorem imem (op : Int) (w : World) : Calls Tryd.prog 69 #[.int .i64 op] w fun e w' => e = .returned (.bool (decide (kindOf op = 3))) ∧ Step w w' := by have hc := kind_cases op; obtain ⟨k, hk⟩ : ∃ k, k = kindOf op := ⟨_, rfl⟩; rw [← hk] at hc ⊢; clear hk; go_enter Tryd.func69, Tryd.ntmps69; (rcases hc with ⟨rfl, h⟩ | ⟨rfl, h⟩ | ⟨rfl, h⟩ | ⟨rfl, h⟩ | ⟨rfl, h⟩); all_goals (go_wp2_with (first | (go_at_call 17; (with_reducible refine Calls.mono (within_any ..) ?_); rintro e wk ⟨rfl, rfl⟩)); all_goals (go_ret; refine ⟨ret_bool ?_, mkStep⟩; (first | (simp; done) | (simp; omega) | (simp at *; omega) | (simp_all; done))))

def insOk (i : InsD) : Bool := knownB i.op &&
  (if kindOf i.op = 1 then decide ((i.a = 0 ∨ i.a = 1) ∧ i.b = 0)
   else if kindOf i.op = 2 then decide (0 ≤ i.a ∧ i.a ≤ 1000 ∧ i.b = 0)
   else if kindOf i.op = 3 then decide (0 ≤ i.a ∧ i.a ≤ 2147483647 ∧ 0 ≤ i.b ∧ i.b ≤ 2)
   else if kindOf i.op = 4 then decide (-2147483648 ≤ i.a ∧ i.a ≤ 2147483647 ∧ i.b = 0)
   else decide (i.a = 0 ∧ i.b = 0))
end Go.Proofs.YtpaekgeopmifeaaDoor
