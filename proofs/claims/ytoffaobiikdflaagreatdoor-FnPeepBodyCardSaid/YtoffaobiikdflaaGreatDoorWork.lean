/- Contracts: what one or two numbers come to, both sides. -/
import Derived.Test.YtoffaobiikdflaaGreatDoorPop
import Derived.Test.YtoffaobiikdflaaGreatDoorPeepP
import Derived.Test.YtoffaobiikdflaaGreatDoorWithin
namespace Go.Proofs.YtoffaobiikdflaaGreatDoor
attribute [local go_sem ↓] Go.wp_at_zero Go.wp_at_succ
open Go.RowKit
open Rep (Is sz)

def isCmp (op : Int) : Bool := decide (70 ≤ op ∧ op ≤ 79)
def isNum (op : Int) : Bool := decide (106 ≤ op ∧ op ≤ 120)
theorem isTwo_or (op : Int) : isTwo op = (isCmp op || isNum op) := by unfold isTwo isCmp isNum; rw [Bool.eq_iff_iff]; simp
theorem iscmp (op : Int) (w : World) : Calls Tryz.prog 107 #[.int .i64 op] w fun e w' => e = .returned (.bool (isCmp op)) ∧ Step w w' := by
  have hr := hid (show isCmp op = (decide (70 ≤ op) && decide (op ≤ 79)) by unfold isCmp; rw [Bool.eq_iff_iff]; simp)
  go_enter Tryz.func107, Tryz.ntmps107
  go_wp2_with (first | (go_at_call 70; (with_reducible refine Calls.mono (within_any ..) ?_); rintro e wk ⟨rfl, rfl⟩))
  go_ret
  exact ⟨by rw [hr.out]; rfl, mkStep⟩
theorem itwo (op : Int) (w : World) : Calls Tryz.prog 74 #[.int .i64 op] w fun e w' => e = .returned (.bool (isTwo op)) ∧ Step w w' := by
  have hr := hid (isTwo_or op)
  have hn := hid (show isNum op = (decide (106 ≤ op) && decide (op ≤ 120)) by unfold isNum; rw [Bool.eq_iff_iff]; simp)
  go_enter Tryz.func74, Tryz.ntmps74
  cases q : isCmp op
  · rw [q] at hr
    go_wp2_with (first | (go_at_call 70; (with_reducible refine Calls.mono (within_any ..) ?_); rintro e wk ⟨rfl, rfl⟩) | (go_at_call 107; (with_reducible refine Calls.mono (iscmp ..) ?_); rintro e wk ⟨rfl, st⟩))
    go_ret
    exact ⟨by rw [hr.out, Bool.false_or, hn.out]; rfl, mkStep⟩
  · rw [q] at hr
    go_wp2_with (first | (go_at_call 70; (with_reducible refine Calls.mono (within_any ..) ?_); rintro e wk ⟨rfl, rfl⟩) | (go_at_call 107; (with_reducible refine Calls.mono (iscmp ..) ?_); rintro e wk ⟨rfl, st⟩))
    go_ret
    exact ⟨by rw [hr.out]; rfl, mkStep⟩
theorem isOne_or (op : Int) : isOne op = (op == 69 || decide (103 ≤ op) && decide (op ≤ 105)) := by unfold isOne; rw [Bool.eq_iff_iff]; simp
theorem ione (op : Int) (w : World) : Calls Tryz.prog 76 #[.int .i64 op] w fun e w' => e = .returned (.bool (isOne op)) ∧ Step w w' := by
  have hr := hid (isOne_or op)
  by_cases q : op = 69
  · have hz := hid (show isOne op = true by rw [isOne_iff]; exact .inl q)
    go_enter Tryz.func76, Tryz.ntmps76
    go_wp2_with (first | (go_at_call 70; (with_reducible refine Calls.mono (within_any ..) ?_); rintro e wk ⟨rfl, rfl⟩))
    go_ret
    exact ⟨by rw [hz.out]; rfl, mkStep⟩
  · go_enter Tryz.func76, Tryz.ntmps76
    go_wp2_with (first | (go_at_call 70; (with_reducible refine Calls.mono (within_any ..) ?_); rintro e wk ⟨rfl, rfl⟩))
    go_ret
    exact ⟨by rw [hr.out]; rfl, mkStep⟩

theorem bin_cmp {op : Int} (h : op ≤ 79) (a b : Int) : bin32 op a b = (b01 (cmp32 (op - 70 + 1) a b), 0) := by unfold bin32; rw [if_pos h]
theorem bin_106 (a b : Int) : bin32 106 a b = (add32 a b, 0) := by unfold bin32; rw [if_neg (by decide), if_pos rfl]
theorem bin_107 (a b : Int) : bin32 107 a b = (sub32 a b, 0) := by unfold bin32; rw [if_neg (by decide), if_neg (by decide), if_pos rfl]
theorem bin_108 (a b : Int) : bin32 108 a b = (mul32 a b, 0) := by unfold bin32; rw [if_neg (by decide), if_neg (by decide), if_neg (by decide), if_pos rfl]
theorem bin_109 (a b : Int) : bin32 109 a b = divS32 a b := by unfold bin32; rw [if_neg (by decide), if_neg (by decide), if_neg (by decide), if_neg (by decide), if_pos rfl]
theorem bin_110 (a b : Int) : bin32 110 a b = divU32 a b := by unfold bin32; rw [if_neg (by decide), if_neg (by decide), if_neg (by decide), if_neg (by decide), if_neg (by decide), if_pos rfl]
theorem bin_111 (a b : Int) : bin32 111 a b = remS32 a b := by unfold bin32; rw [if_neg (by decide), if_neg (by decide), if_neg (by decide), if_neg (by decide), if_neg (by decide), if_neg (by decide), if_pos rfl]
theorem bin_112 (a b : Int) : bin32 112 a b = remU32 a b := by unfold bin32; rw [if_neg (by decide), if_neg (by decide), if_neg (by decide), if_neg (by decide), if_neg (by decide), if_neg (by decide), if_neg (by decide), if_pos rfl]
theorem bin_bits {op : Int} (h : 113 ≤ op) (a b : Int) : bin32 op a b = (bits32 (op - 106 - 6) a b, 0) := by unfold bin32; rw [if_neg (by omega), if_neg (by omega), if_neg (by omega), if_neg (by omega), if_neg (by omega), if_neg (by omega), if_neg (by omega), if_neg (by omega)]
theorem two_cases {op : Int} (ht : isTwo op = true) : (70 ≤ op ∧ op ≤ 79) ∨ op = 106 ∨ op = 107 ∨ op = 108 ∨ op = 109 ∨ op = 110 ∨ op = 111 ∨ op = 112 ∨ (113 ≤ op ∧ op ≤ 120) := by
  have h := (isTwo_iff op).1 ht
  omega
theorem ret_pair {k l : IntKind} {a b : Int} {p : Int × Int} (h : p = (a, b)) : Ending.returned (.tuple #[.int k a, .int l b]) = .returned (.tuple #[.int k p.1, .int l p.2]) := by rw [h]
theorem ret_pair' {k l : IntKind} {p q : Int × Int} (h : q = p) : Ending.returned (.tuple #[.int k p.1, .int l p.2]) = .returned (.tuple #[.int k q.1, .int l q.2]) := by rw [h]
theorem ibin (op a b : Int) (w : World) (ht : isTwo op = true) : Calls Tryz.prog 75 #[.int .i64 op, .int .i64 a, .int .i64 b] w fun e w' => e = .returned (.tuple #[.int .i64 (bin32 op a b).1, .int .i64 (bin32 op a b).2]) ∧ Step w w' := by
  rcases two_cases ht with h | rfl | rfl | rfl | rfl | rfl | rfl | rfl | h <;> clear ht
  · have q1 : isCmp op = true := by unfold isCmp; exact decide_eq_true h
    have hr := hid (bin_cmp h.2 a b)
    go_enter Tryz.func75, Tryz.ntmps75
    cases q : cmp32 (op - 70 + 1) a b
    · rw [q] at hr
      go_wp2_with (first | (go_at_call 107; (with_reducible refine Calls.mono (iscmp ..) ?_); rintro e wk ⟨rfl, st⟩) | (go_at_call 108; (with_reducible refine Calls.mono (icmp _ _ _ _ (by omega)) ?_); rintro e wk ⟨rfl, st⟩))
      go_ret2
      exact ⟨ret_pair hr.out, mkStep⟩
    · rw [q] at hr
      go_wp2_with (first | (go_at_call 107; (with_reducible refine Calls.mono (iscmp ..) ?_); rintro e wk ⟨rfl, st⟩) | (go_at_call 108; (with_reducible refine Calls.mono (icmp _ _ _ _ (by omega)) ?_); rintro e wk ⟨rfl, st⟩))
      go_ret2
      exact ⟨ret_pair hr.out, mkStep⟩
  · have q1 : isCmp 106 = false := by decide
    have hr := hid (bin_106 a b)
    go_enter Tryz.func75, Tryz.ntmps75
    go_wp2_with (first | (go_at_call 107; (with_reducible refine Calls.mono (iscmp ..) ?_); rintro e wk ⟨rfl, st⟩) | (go_at_call 109; (with_reducible refine Calls.mono (iadd ..) ?_); rintro e wk ⟨rfl, st⟩))
    go_ret2
    exact ⟨ret_pair hr.out, mkStep⟩
  · have q1 : isCmp 107 = false := by decide
    have hr := hid (bin_107 a b)
    go_enter Tryz.func75, Tryz.ntmps75
    go_wp2_with (first | (go_at_call 107; (with_reducible refine Calls.mono (iscmp ..) ?_); rintro e wk ⟨rfl, st⟩) | (go_at_call 110; (with_reducible refine Calls.mono (isub ..) ?_); rintro e wk ⟨rfl, st⟩))
    go_ret2
    exact ⟨ret_pair hr.out, mkStep⟩
  · have q1 : isCmp 108 = false := by decide
    have hr := hid (bin_108 a b)
    go_enter Tryz.func75, Tryz.ntmps75
    go_wp2_with (first | (go_at_call 107; (with_reducible refine Calls.mono (iscmp ..) ?_); rintro e wk ⟨rfl, st⟩) | (go_at_call 111; (with_reducible refine Calls.mono (imul ..) ?_); rintro e wk ⟨rfl, st⟩))
    go_ret2
    exact ⟨ret_pair hr.out, mkStep⟩
  · have q1 : isCmp 109 = false := by decide
    have hr := hid (bin_109 a b)
    go_enter Tryz.func75, Tryz.ntmps75
    go_wp2_with (first | (go_at_call 107; (with_reducible refine Calls.mono (iscmp ..) ?_); rintro e wk ⟨rfl, st⟩) | (go_at_call 112; (with_reducible refine Calls.mono (idivs ..) ?_); rintro e wk ⟨rfl, st⟩))
    go_ret2
    exact ⟨ret_pair' hr.out, mkStep⟩
  · have q1 : isCmp 110 = false := by decide
    have hr := hid (bin_110 a b)
    go_enter Tryz.func75, Tryz.ntmps75
    go_wp2_with (first | (go_at_call 107; (with_reducible refine Calls.mono (iscmp ..) ?_); rintro e wk ⟨rfl, st⟩) | (go_at_call 113; (with_reducible refine Calls.mono (idivu ..) ?_); rintro e wk ⟨rfl, st⟩))
    go_ret2
    exact ⟨ret_pair' hr.out, mkStep⟩
  · have q1 : isCmp 111 = false := by decide
    have hr := hid (bin_111 a b)
    go_enter Tryz.func75, Tryz.ntmps75
    go_wp2_with (first | (go_at_call 107; (with_reducible refine Calls.mono (iscmp ..) ?_); rintro e wk ⟨rfl, st⟩) | (go_at_call 114; (with_reducible refine Calls.mono (irems ..) ?_); rintro e wk ⟨rfl, st⟩))
    go_ret2
    exact ⟨ret_pair' hr.out, mkStep⟩
  · have q1 : isCmp 112 = false := by decide
    have hr := hid (bin_112 a b)
    go_enter Tryz.func75, Tryz.ntmps75
    go_wp2_with (first | (go_at_call 107; (with_reducible refine Calls.mono (iscmp ..) ?_); rintro e wk ⟨rfl, st⟩) | (go_at_call 115; (with_reducible refine Calls.mono (iremu ..) ?_); rintro e wk ⟨rfl, st⟩))
    go_ret2
    exact ⟨ret_pair' hr.out, mkStep⟩
  · have q1 : isCmp op = false := by unfold isCmp; exact decide_eq_false (by omega)
    have hr := hid (bin_bits h.1 a b)
    have n0 : (op - 106 == 0) = false := by rw [beq_eq_false_iff_ne]; omega
    have n1 : (op - 106 == 1) = false := by rw [beq_eq_false_iff_ne]; omega
    have n2 : (op - 106 == 2) = false := by rw [beq_eq_false_iff_ne]; omega
    have n3 : (op - 106 == 3) = false := by rw [beq_eq_false_iff_ne]; omega
    have n4 : (op - 106 == 4) = false := by rw [beq_eq_false_iff_ne]; omega
    have n5 : (op - 106 == 5) = false := by rw [beq_eq_false_iff_ne]; omega
    have n6 : (op - 106 == 6) = false := by rw [beq_eq_false_iff_ne]; omega
    go_enter Tryz.func75, Tryz.ntmps75
    go_wp2_with (first | (go_at_call 107; (with_reducible refine Calls.mono (iscmp ..) ?_); rintro e wk ⟨rfl, st⟩) | (go_at_call 116; (with_reducible refine Calls.mono (ibits _ _ _ _ (by omega)) ?_); rintro e wk ⟨rfl, st⟩))
    go_ret2
    exact ⟨ret_pair hr.out, mkStep⟩

theorem un_103 (a : Int) : un32 103 a = clz32 a := by unfold un32; rw [if_pos rfl]
theorem un_104 (a : Int) : un32 104 a = ctz32 a := by unfold un32; rw [if_neg (by decide), if_pos rfl]
theorem un_105 (a : Int) : un32 105 a = pop32 a := by unfold un32; rw [if_neg (by decide), if_neg (by decide), if_pos rfl]
theorem un_69 (a : Int) : un32 69 a = b01 (decide (wrap32 a = 0)) := by unfold un32; rw [if_neg (by decide), if_neg (by decide), if_neg (by decide)]
theorem one_cases {op : Int} (ht : isOne op = true) : op = 69 ∨ op = 103 ∨ op = 104 ∨ op = 105 := by
  have h := (isOne_iff op).1 ht
  omega
theorem iun (op a : Int) (w : World) (ht : isOne op = true) [hT : HasTz w] : Calls Tryz.prog 77 #[.int .i64 op, .int .i64 a] w fun e w' => e = .returned (.int .i64 (un32 op a)) ∧ Step w w' := by
  have kT := hT.known
  rcases one_cases ht with rfl | rfl | rfl | rfl <;> clear ht hT
  · by_cases h0 : wrap32 a = 0
    · have hr := hid (show un32 69 a = 1 by rw [un_69, decide_eq_true h0]; rfl)
      go_enter Tryz.func77, Tryz.ntmps77
      go_wp2_with (first | (go_at_call 89; (with_reducible refine Calls.mono (iwrap_any ..) ?_); rintro e wk ⟨rfl, rfl⟩))
      go_ret
      exact ⟨by rw [hr.out]; rfl, mkStep⟩
    · have hr := hid (show un32 69 a = 0 by rw [un_69, decide_eq_false h0]; rfl)
      go_enter Tryz.func77, Tryz.ntmps77
      go_wp2_with (first | (go_at_call 89; (with_reducible refine Calls.mono (iwrap_any ..) ?_); rintro e wk ⟨rfl, rfl⟩))
      go_ret
      exact ⟨by rw [hr.out]; rfl, mkStep⟩
  · have hr := hid (un_103 a)
    go_enter Tryz.func77, Tryz.ntmps77
    go_wp2_with (first | (go_at_call 117; (with_reducible refine Calls.mono (iclz ..) ?_); rintro e wk ⟨rfl, st⟩))
    go_ret
    exact ⟨by rw [hr.out]; rfl, mkStep⟩
  · have hr := hid (un_104 a)
    go_enter Tryz.func77, Tryz.ntmps77
    go_wp2_with (first | (go_at_call 118; (with_reducible refine Calls.mono (ictz ..) ?_); rintro e wk ⟨rfl, st⟩))
    go_ret
    exact ⟨by rw [hr.out]; rfl, mkStep⟩
  · have hr := hid (un_105 a)
    go_enter Tryz.func77, Tryz.ntmps77
    go_wp2_with (first | (go_at_call 119; (with_reducible refine Calls.mono (ipop ..) ?_); rintro e wk ⟨rfl, st⟩))
    go_ret
    exact ⟨by rw [hr.out]; rfl, mkStep⟩
end Go.Proofs.YtoffaobiikdflaaGreatDoor
