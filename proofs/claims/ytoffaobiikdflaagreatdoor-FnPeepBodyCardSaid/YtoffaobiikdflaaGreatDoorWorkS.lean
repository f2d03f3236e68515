/- Contracts: spec's l15Work: a machine of one step. -/
import Derived.Test.YtoffaobiikdflaaGreatDoorWork
import Derived.Test.YtoffaobiikdflaaGreatDoorMut
import Derived.Test.YtoffaobiikdflaaGreatDoorRepl
import Derived.Test.YtoffaobiikdflaaGreatDoorShape
namespace Go.Proofs.YtoffaobiikdflaaGreatDoor
attribute [local go_sem ↓] Go.wp_at_zero Go.wp_at_succ
open Go.RowKit
open Rep (Is sz)

/-- A machine's cells: how it ended and why, its stack; nothing else is there. -/
def mch (e y : Int) (st : Value) : Array Value := #[.slice none 0 0, .slice none 0 0, .slice none 0 0, .int .i64 0, .int .i64 0, .slice none 0 0, .slice none 0 0, .slice none 0 0, .slice none 0 0, .int .i64 0, .int .i64 e, .int .i64 y, .int .i64 0, .slice none 0 0, .int .i64 0, .slice none 0 0, .slice none 0 0, .slice none 0 0, st, .slice none 0 0]
@[go_sem] theorem mch_end (e y : Int) (st : Value) : (mch e y st)[10]? = some (.int .i64 e) := rfl
@[go_sem] theorem mch_why (e y : Int) (st : Value) : (mch e y st)[11]? = some (.int .i64 y) := rfl
@[go_sem] theorem mch_st (e y : Int) (st : Value) : (mch e y st)[18]? = some st := rfl
theorem mch_set (e y : Int) (st st' : Value) : (mch e y st).setIfInBounds 18 st' = mch e y st' := rfl
theorem mch_set2 (e y e' y' : Int) (st : Value) : ((mch e y st).setIfInBounds 10 (.int .i64 e')).setIfInBounds 11 (.int .i64 y') = mch e' y' st := rfl

theorem spop6 {p g k cap : Nat} {e y : Int} (x : Int) (w : World) [b : BoxAt w p (mch e y (.slice (some ⟨g, 0, none⟩) (k + 1) cap))] (hx : w.cell? ⟨g, k, none⟩ = some (.int .i64 x)) (hk : k < 100) (hc : k < cap) :
    Calls Tryz.prog 145 #[.pointer (some ⟨p, 0, none⟩)] w fun r w' => r = .returned (.int .i64 x) ∧ BoxL w' p (mch e y (.slice (some ⟨g, 0, none⟩) k cap)) ∧ StepX [p] w w' := by
  have bl := b.l
  go_enter Tryz.func145, Tryz.ntmps145
  go_wp2
  go_ret
  exact ⟨rfl, boxSet (mch_set ..), mkStepX⟩
theorem sbool6 (x : Bool) (w : World) : Calls Tryz.prog 146 #[.bool x] w fun e w' => e = .returned (.int .i64 (b01 x)) ∧ Step w w' := by
  cases x
  · go_enter Tryz.func146, Tryz.ntmps146
    go_wp2
    go_ret
    exact ⟨rfl, mkStep⟩
  · go_enter Tryz.func146, Tryz.ntmps146
    go_wp2
    go_ret
    exact ⟨rfl, mkStep⟩
theorem send6 {p : Nat} {st : Value} (c : Int) (w : World) [b : BoxAt w p (mch 0 0 st)] :
    Calls Tryz.prog 172 #[.pointer (some ⟨p, 0, none⟩), .int .i64 2, .int .i64 c] w fun r w' => r = .returned (.tuple #[]) ∧ BoxL w' p (mch 2 c st) ∧ StepX [p] w w' := by
  have bl := b.l
  go_enter Tryz.func172, Tryz.ntmps172
  go_wp2
  go_end0
  have b1 : BoxL (w.setCell ⟨p, 10, none⟩ (.int .i64 2)) p ((mch 0 0 st).setIfInBounds 10 (.int .i64 2)) := boxSet rfl
  exact ⟨rfl, boxSet (mch_set2 ..), mkStepX⟩

def endOf (c : Int) : Int := if c = 0 then 0 else 2
theorem endOf_0 : endOf 0 = 0 := rfl
theorem endOf_pos {c : Int} (h : 0 < c) : endOf c = 2 := if_neg (by omega)
theorem endOf_eq (c : Int) : (endOf c == 0) = decide (c = 0) := by
  unfold endOf
  by_cases h : c = 0
  · simp [h]
  · simp [h]
theorem divS_code (a b : Int) : 0 ≤ (divS32 a b).2 := by
  unfold divS32
  split
  · simp
  · split <;> simp
theorem divU_code (a b : Int) : 0 ≤ (divU32 a b).2 := by unfold divU32; split <;> simp
theorem remS_code (a b : Int) : 0 ≤ (remS32 a b).2 := by unfold remS32; split <;> simp
theorem remU_code (a b : Int) : 0 ≤ (remU32 a b).2 := by unfold remU32; split <;> simp
theorem mch_ret {p : Nat} {st : Value} {w : World} {x : Int × Int} {n : Int} (h : x = (n, 0)) (b : BoxL w p (mch 0 0 st)) : BoxL w p (mch (endOf x.2) x.2 st) := by rw [h]; exact b
theorem mch_trap {p : Nat} {st : Value} {w : World} {x : Int × Int} {n c : Int} (h : x = (n, c)) (hc : 0 < c) (b : BoxL w p (mch 2 c st)) : BoxL w p (mch (endOf x.2) x.2 st) := by rw [h, endOf_pos hc]; exact b
theorem ret_fst {k : IntKind} {x : Int × Int} {n c : Int} (h : x = (n, c)) : Ending.returned (.int k n) = .returned (.int k x.1) := by rw [h]
set_option maxHeartbeats 1000000 in
theorem stwo6 {p : Nat} {st : Value} (op a b : Int) (w : World) (ht : isTwo op = true) [bx : BoxAt w p (mch 0 0 st)] :
    Calls Tryz.prog 150 #[.pointer (some ⟨p, 0, none⟩), .int .i64 op, .int .i64 a, .int .i64 b] w fun r w' => r = .returned (.int .i64 (bin32 op a b).1) ∧ BoxL w' p (mch (endOf (bin32 op a b).2) (bin32 op a b).2 st) ∧ StepX [p] w w' := by
  have bl := bx.l
  have ag := bl.arg
  rcases two_cases ht with h | rfl | rfl | rfl | rfl | rfl | rfl | rfl | h <;> clear ht
  · have hr := hid (bin_cmp h.2 a b)
    go_enter Tryz.func150, Tryz.ntmps150
    go_wp2_with (first | (go_at_call 163; (with_reducible refine Calls.mono (scmp _ _ _ _ (by omega)) ?_); rintro e wk ⟨rfl, st⟩) | (go_at_call 146; (with_reducible refine Calls.mono (sbool6 ..) ?_); rintro e wk ⟨rfl, st⟩))
    go_ret
    exact ⟨ret_fst hr.out, mch_ret hr.out boxOf, mkStepX⟩
  · have hr := hid (bin_106 a b)
    go_enter Tryz.func150, Tryz.ntmps150
    go_wp2_with (first | (go_at_call 164; (with_reducible refine Calls.mono (sadd ..) ?_); rintro e wk ⟨rfl, st⟩))
    go_ret
    exact ⟨ret_fst hr.out, mch_ret hr.out boxOf, mkStepX⟩
  · have hr := hid (bin_107 a b)
    go_enter Tryz.func150, Tryz.ntmps150
    go_wp2_with (first | (go_at_call 165; (with_reducible refine Calls.mono (ssub ..) ?_); rintro e wk ⟨rfl, st⟩))
    go_ret
    exact ⟨ret_fst hr.out, mch_ret hr.out boxOf, mkStepX⟩
  · have hr := hid (bin_108 a b)
    go_enter Tryz.func150, Tryz.ntmps150
    go_wp2_with (first | (go_at_call 166; (with_reducible refine Calls.mono (smul ..) ?_); rintro e wk ⟨rfl, st⟩))
    go_ret
    exact ⟨ret_fst hr.out, mch_ret hr.out boxOf, mkStepX⟩
  · have hr := hid (bin_109 a b)
    have hc := divS_code a b
    rcases hd : divS32 a b with ⟨q, c⟩
    rw [hd] at hc
    have hr2 := hid (hr.out.trans hd)
    clear hr
    simp only at hc
    by_cases h0 : c = 0
    · subst h0
      clear hc
      go_enter Tryz.func150, Tryz.ntmps150
      go_wp2_with (first | (go_at_call 167; (with_reducible refine Calls.mono (sdivs ..) ?_); rintro e wk ⟨rfl, st⟩))
      go_ret
      exact ⟨ret_fst hr2.out, mch_ret hr2.out boxOf, mkStepX⟩
    · have hp : 0 < c := by omega
      clear hc h0
      go_enter Tryz.func150, Tryz.ntmps150
      go_wp2_with (first | (go_at_call 167; (with_reducible refine Calls.mono (sdivs ..) ?_); rintro e wk ⟨rfl, st⟩; have b1 : BoxL wk p (mch 0 0 _) := boxOf) | (go_at_call 172; (with_reducible refine Calls.mono (send6 _ _) ?_); rintro e wk2 ⟨rfl, b2, st2⟩))
      go_ret
      exact ⟨ret_fst hr2.out, mch_trap hr2.out hp b2, mkStepX⟩
  · have hr := hid (bin_110 a b)
    have hc := divU_code a b
    rcases hd : divU32 a b with ⟨q, c⟩
    rw [hd] at hc
    have hr2 := hid (hr.out.trans hd)
    clear hr
    simp only at hc
    by_cases h0 : c = 0
    · subst h0
      clear hc
      go_enter Tryz.func150, Tryz.ntmps150
      go_wp2_with (first | (go_at_call 168; (with_reducible refine Calls.mono (sdivu ..) ?_); rintro e wk ⟨rfl, st⟩))
      go_ret
      exact ⟨ret_fst hr2.out, mch_ret hr2.out boxOf, mkStepX⟩
    · have hp : 0 < c := by omega
      clear hc h0
      go_enter Tryz.func150, Tryz.ntmps150
      go_wp2_with (first | (go_at_call 168; (with_reducible refine Calls.mono (sdivu ..) ?_); rintro e wk ⟨rfl, st⟩; have b1 : BoxL wk p (mch 0 0 _) := boxOf) | (go_at_call 172; (with_reducible refine Calls.mono (send6 _ _) ?_); rintro e wk2 ⟨rfl, b2, st2⟩))
      go_ret
      exact ⟨ret_fst hr2.out, mch_trap hr2.out hp b2, mkStepX⟩
  · have hr := hid (bin_111 a b)
    have hc := remS_code a b
    rcases hd : remS32 a b with ⟨q, c⟩
    rw [hd] at hc
    have hr2 := hid (hr.out.trans hd)
    clear hr
    simp only at hc
    by_cases h0 : c = 0
    · subst h0
      clear hc
      go_enter Tryz.func150, Tryz.ntmps150
      go_wp2_with (first | (go_at_call 169; (with_reducible refine Calls.mono (srems ..) ?_); rintro e wk ⟨rfl, st⟩))
      go_ret
      exact ⟨ret_fst hr2.out, mch_ret hr2.out boxOf, mkStepX⟩
    · have hp : 0 < c := by omega
      clear hc h0
      go_enter Tryz.func150, Tryz.ntmps150
      go_wp2_with (first | (go_at_call 169; (with_reducible refine Calls.mono (srems ..) ?_); rintro e wk ⟨rfl, st⟩; have b1 : BoxL wk p (mch 0 0 _) := boxOf) | (go_at_call 172; (with_reducible refine Calls.mono (send6 _ _) ?_); rintro e wk2 ⟨rfl, b2, st2⟩))
      go_ret
      exact ⟨ret_fst hr2.out, mch_trap hr2.out hp b2, mkStepX⟩
  · have hr := hid (bin_112 a b)
    have hc := remU_code a b
    rcases hd : remU32 a b with ⟨q, c⟩
    rw [hd] at hc
    have hr2 := hid (hr.out.trans hd)
    clear hr
    simp only at hc
    by_cases h0 : c = 0
    · subst h0
      clear hc
      go_enter Tryz.func150, Tryz.ntmps150
      go_wp2_with (first | (go_at_call 170; (with_reducible refine Calls.mono (sremu ..) ?_); rintro e wk ⟨rfl, st⟩))
      go_ret
      exact ⟨ret_fst hr2.out, mch_ret hr2.out boxOf, mkStepX⟩
    · have hp : 0 < c := by omega
      clear hc h0
      go_enter Tryz.func150, Tryz.ntmps150
      go_wp2_with (first | (go_at_call 170; (with_reducible refine Calls.mono (sremu ..) ?_); rintro e wk ⟨rfl, st⟩; have b1 : BoxL wk p (mch 0 0 _) := boxOf) | (go_at_call 172; (with_reducible refine Calls.mono (send6 _ _) ?_); rintro e wk2 ⟨rfl, b2, st2⟩))
      go_ret
      exact ⟨ret_fst hr2.out, mch_trap hr2.out hp b2, mkStepX⟩
  · have hr := hid (bin_bits h.1 a b)
    have n0 : (op - 106 == 0) = false := by rw [beq_eq_false_iff_ne]; omega
    have n1 : (op - 106 == 1) = false := by rw [beq_eq_false_iff_ne]; omega
    have n2 : (op - 106 == 2) = false := by rw [beq_eq_false_iff_ne]; omega
    have n3 : (op - 106 == 3) = false := by rw [beq_eq_false_iff_ne]; omega
    have n4 : (op - 106 == 4) = false := by rw [beq_eq_false_iff_ne]; omega
    have n5 : (op - 106 == 5) = false := by rw [beq_eq_false_iff_ne]; omega
    have n6 : (op - 106 == 6) = false := by rw [beq_eq_false_iff_ne]; omega
    have n9 : (op ≤ 79) = False := by rw [eq_iff_iff, iff_false]; omega
    go_enter Tryz.func150, Tryz.ntmps150
    go_wp2_with (first | (go_at_call 171; (with_reducible refine Calls.mono (sbits _ _ _ _ (by omega)) ?_); rintro e wk ⟨rfl, st⟩))
    go_ret
    exact ⟨ret_fst hr.out, mch_ret hr.out boxOf, mkStepX⟩

theorem spush6 {B p g n k cap : Nat} {e y : Int} {xs : List Value} (x : Int) (w : World) (hown : w.ownsRow B 3 1 (.slice (some ⟨g, 0, none⟩) n cap) n xs) (hk : k < n) (hn : n < 100) [bx : BoxAt w p (mch e y (.slice (some ⟨g, 0, none⟩) k cap))] [nb : NeB g p] [nb' : NeB p g] :
    Calls Tryz.prog 144 #[.pointer (some ⟨p, 0, none⟩), .int .i64 x] w fun r w' => r = .returned (.tuple #[]) ∧ w'.cell? ⟨g, k, none⟩ = some (.int .i64 x) ∧ BoxL w' p (mch e y (.slice (some ⟨g, 0, none⟩) (k + 1) cap)) ∧ StepX [g, p] w w' := by
  have bl := bx.l
  have ag := bl.arg
  have og : Old g w := ⟨(own_addr hown (by omega)).elim fun _ h => by cases h.1; exact h.2.2⟩
  have hcap := (ownsRow_cap hown).1
  go_enter Tryz.func144, Tryz.ntmps144
  go_wp2_with (at_builtin; go_must (refine app_fit _ rfl (.tmp 8) (.tmp 10) 76 rfl 3 1 (by kernel_rfl) (by kernel_rfl) B g n cap xs (own_keep hown) k 1 rfl (some ⟨w.heap.size, 0, none⟩) 1 [.int .i64 x] rfl (view_lit' w _ _ 1 1 _ rfl rfl) (by simp [Value.oneCell']) (by decide) (by omega) ?_); intro w1 hown1 f1; have s1 : StepX [g] (w.alloc _) w1 := ⟨f1⟩; have b1 : BoxL w1 p (mch e y (.slice (some ⟨g, 0, none⟩) k cap)) := boxOf)
  go_end0
  have c1 : w1.cell? ⟨g, k, none⟩ = some (.int .i64 x) := by
    have hl : (over xs (k * 1) [.int .i64 x]).length = n := by rw [hown1.1, Nat.mul_one]
    have h1 := (own_slot hown1 k (by omega)).1
    rw [h1]
    have h2 := over_at (xs := xs) (o := k) (v := .int .i64 x) (by have := hown.1; omega)
    simp only [Nat.mul_one] at h1 ⊢
    rw [← h2, List.getElem?_eq_getElem]
  refine ⟨rfl, ((Fr.refl [p] w1).setCell (p := ⟨p, 18, none⟩) (.inl (by simp)) _).cell_some c1 (by simp [nb.ne]), boxSet (mch_set ..), mkStepX⟩

theorem mch_box (w : World) (e : TypeId) (y z : Int) (st : Value) : BoxL (w.alloc (.cells (mch y z st) e)) w.heap.size (mch y z st) := ⟨Box.new w _ _⟩
set_option maxHeartbeats 1000000 in
theorem snum2 {B p g cap : Nat} (op a b : Int) (w : World) (ht : isTwo op = true) (hown : w.ownsRow B 3 1 (.slice (some ⟨g, 0, none⟩) 2 cap) 2 [.int .i64 a, .int .i64 b]) [bx : BoxAt w p (mch 0 0 (.slice (some ⟨g, 0, none⟩) 2 cap))] [nb : NeB g p] [nb' : NeB p g] [ag : Arg g w] :
    Calls Tryz.prog 121 #[.pointer (some ⟨p, 0, none⟩), .agg #[.int .i64 op, .int .i64 0, .int .i64 0]] w fun r w' => r = .returned (.tuple #[]) ∧ w'.cell? ⟨g, 0, none⟩ = some (.int .i64 (bin32 op a b).1) ∧ BoxL w' p (mch (endOf (bin32 op a b).2) (bin32 op a b).2 (.slice (some ⟨g, 0, none⟩) 1 cap)) ∧ StepX [g, p] w w' := by
  have bl := bx.l
  have ap := bl.arg
  have og : Old g w := ⟨ag.lt⟩
  have op1 := bl.old
  have hcap := (ownsRow_cap hown).1
  have ha : w.cell? ⟨g, 0, none⟩ = some (.int .i64 a) := (own_slot hown 0 (by simp)).1
  have hb : w.cell? ⟨g, 1, none⟩ = some (.int .i64 b) := (own_slot hown 1 (by simp)).1
  have h0 := (isTwo_iff op).1 ht
  have n65 : (op == 65) = false := by rw [beq_eq_false_iff_ne]; omega
  have n26 : (op == 26) = false := by rw [beq_eq_false_iff_ne]; omega
  have n27 : (op == 27) = false := by rw [beq_eq_false_iff_ne]; omega
  have n69 : (op == 69) = false := by rw [beq_eq_false_iff_ne]; omega
  have n103 : (op == 103) = false := by rw [beq_eq_false_iff_ne]; omega
  have n104 : (op == 104) = false := by rw [beq_eq_false_iff_ne]; omega
  have n105 : (op == 105) = false := by rw [beq_eq_false_iff_ne]; omega
  clear h0
  go_enter Tryz.func121, Tryz.ntmps121
  go_wp2_with fail
  with_reducible refine Calls.mono (spop6 b _ (by go_simp) (by omega) (by omega)) ?_
  rintro e w1 ⟨rfl, b1, st1⟩
  go_wp2_with fail
  with_reducible refine Calls.mono (spop6 a _ (by go_simp) (by omega) (by omega)) ?_
  rintro e w2 ⟨rfl, b2, st2⟩
  go_wp2_with fail
  with_reducible refine Calls.mono (stwo6 op a b _ ht) ?_
  rintro e w3 ⟨rfl, b3, st3⟩
  have o3 : w3.ownsRow B 3 1 (.slice (some ⟨g, 0, none⟩) 2 cap) 2 [.int .i64 a, .int .i64 b] := ownsRow_fr hown (FrX.fr (S := [p])) (by simp only [blk, List.mem_singleton]; rintro x rfl; exact nb.ne)
  go_wp2_with fail
  with_reducible refine Calls.mono (spush6 _ _ o3 (by omega) (by omega)) ?_
  rintro e w4 ⟨rfl, c4, b4, st4⟩
  go_wp2
  go_end0
  exact ⟨rfl, c4, b4, mkStepX⟩

set_option maxHeartbeats 1000000 in
theorem snum1 {B p g cap : Nat} (op a : Int) (w : World) (ht : isOne op = true) (ha32 : wrap32 a = a) (hown : w.ownsRow B 3 1 (.slice (some ⟨g, 0, none⟩) 1 cap) 1 [.int .i64 a]) [bx : BoxAt w p (mch 0 0 (.slice (some ⟨g, 0, none⟩) 1 cap))] [nb : NeB g p] [nb' : NeB p g] [ag : Arg g w] :
    Calls Tryz.prog 121 #[.pointer (some ⟨p, 0, none⟩), .agg #[.int .i64 op, .int .i64 0, .int .i64 0]] w fun r w' => r = .returned (.tuple #[]) ∧ w'.cell? ⟨g, 0, none⟩ = some (.int .i64 (un32 op a)) ∧ BoxL w' p (mch 0 0 (.slice (some ⟨g, 0, none⟩) 1 cap)) ∧ StepX [g, p] w w' := by
  have bl := bx.l
  have ap := bl.arg
  have og : Old g w := ⟨ag.lt⟩
  have op1 := bl.old
  have hcap := (ownsRow_cap hown).1
  have ha : w.cell? ⟨g, 0, none⟩ = some (.int .i64 a) := (own_slot hown 0 (by simp)).1
  have h69 := hid (show un32 69 a = b01 (a == 0) by rw [un_69, ha32]; rfl)
  have h103 := hid (un_103 a)
  have h104 := hid (un_104 a)
  have h105 := hid (un_105 a)
  clear ha32
  rcases one_cases ht with rfl | rfl | rfl | rfl <;> clear ht
  · go_enter Tryz.func121, Tryz.ntmps121
    go_wp2_with fail
    with_reducible refine Calls.mono (spop6 a _ (by go_simp) (by omega) (by omega)) ?_
    rintro e w1 ⟨rfl, b1, st1⟩
    go_wp2_with fail
    with_reducible refine Calls.mono (sbool6 _ _) ?_
    rintro e w3 ⟨rfl, st3⟩
    have o3 : w3.ownsRow B 3 1 (.slice (some ⟨g, 0, none⟩) 1 cap) 1 [.int .i64 a] := ownsRow_fr hown (FrX.fr (S := [p])) (by simp only [blk, List.mem_singleton]; rintro x rfl; exact nb.ne)
    go_wp2_with fail
    with_reducible refine Calls.mono (spush6 _ _ o3 (by omega) (by omega)) ?_
    rintro e w4 ⟨rfl, c4, b4, st4⟩
    go_wp2
    go_end0
    exact ⟨rfl, by rw [h69.out]; exact c4, b4, mkStepX⟩
  · go_enter Tryz.func121, Tryz.ntmps121
    go_wp2_with fail
    with_reducible refine Calls.mono (spop6 a _ (by go_simp) (by omega) (by omega)) ?_
    rintro e w1 ⟨rfl, b1, st1⟩
    go_wp2_with fail
    with_reducible refine Calls.mono (sclz _ _) ?_
    rintro e w3 ⟨rfl, st3⟩
    have o3 : w3.ownsRow B 3 1 (.slice (some ⟨g, 0, none⟩) 1 cap) 1 [.int .i64 a] := ownsRow_fr hown (FrX.fr (S := [p])) (by simp only [blk, List.mem_singleton]; rintro x rfl; exact nb.ne)
    go_wp2_with fail
    with_reducible refine Calls.mono (spush6 _ _ o3 (by omega) (by omega)) ?_
    rintro e w4 ⟨rfl, c4, b4, st4⟩
    go_wp2
    go_end0
    exact ⟨rfl, by rw [h103.out]; exact c4, b4, mkStepX⟩
  · go_enter Tryz.func121, Tryz.ntmps121
    go_wp2_with fail
    with_reducible refine Calls.mono (spop6 a _ (by go_simp) (by omega) (by omega)) ?_
    rintro e w1 ⟨rfl, b1, st1⟩
    go_wp2_with fail
    with_reducible refine Calls.mono (sctz _ _) ?_
    rintro e w3 ⟨rfl, st3⟩
    have o3 : w3.ownsRow B 3 1 (.slice (some ⟨g, 0, none⟩) 1 cap) 1 [.int .i64 a] := ownsRow_fr hown (FrX.fr (S := [p])) (by simp only [blk, List.mem_singleton]; rintro x rfl; exact nb.ne)
    go_wp2_with fail
    with_reducible refine Calls.mono (spush6 _ _ o3 (by omega) (by omega)) ?_
    rintro e w4 ⟨rfl, c4, b4, st4⟩
    go_wp2
    go_end0
    exact ⟨rfl, by rw [h104.out]; exact c4, b4, mkStepX⟩
  · go_enter Tryz.func121, Tryz.ntmps121
    go_wp2_with fail
    with_reducible refine Calls.mono (spop6 a _ (by go_simp) (by omega) (by omega)) ?_
    rintro e w1 ⟨rfl, b1, st1⟩
    go_wp2_with fail
    with_reducible refine Calls.mono (spop _ _) ?_
    rintro e w3 ⟨rfl, st3⟩
    have o3 : w3.ownsRow B 3 1 (.slice (some ⟨g, 0, none⟩) 1 cap) 1 [.int .i64 a] := ownsRow_fr hown (FrX.fr (S := [p])) (by simp only [blk, List.mem_singleton]; rintro x rfl; exact nb.ne)
    go_wp2_with fail
    with_reducible refine Calls.mono (spush6 _ _ o3 (by omega) (by omega)) ?_
    rintro e w4 ⟨rfl, c4, b4, st4⟩
    go_wp2
    go_end0
    exact ⟨rfl, by rw [h105.out]; exact c4, b4, mkStepX⟩

theorem two_lit (w : World) (x y : Int) (e : TypeId) : View (w.alloc (.cells #[.int .i64 x, .int .i64 y] e)) (some ⟨w.heap.size, 0, none⟩) 1 2 [.int .i64 x, .int .i64 y] := view_lit' w _ _ 1 2 _ rfl rfl
set_option maxHeartbeats 1000000 in
theorem swork2 {ad : Option Addr} {cp : Nat} (op a b : Int) (w : World) (ht : isTwo op = true) (hv : View w ad 1 2 [.int .i64 a, .int .i64 b]) :
    Calls Tryz.prog 84 #[.int .i64 op, .slice ad 2 cp] w fun e w' => e = .returned (.tuple #[.int .i64 (bin32 op a b).1, .bool (decide ((bin32 op a b).2 = 0))]) ∧ Step w w' := by
  go_enter Tryz.func84, Tryz.ntmps84
  go_wp2_with (at_builtin; go_must (refine app_own _ rfl (.tmp 7) (.tmp 8) 76 rfl 3 (.int .i64 0) 1 8 Tryz.ints_tab w.heap.size _ 0 0 [] rfl (own_litAt rfl rfl (Nat.le_refl _) (by unfold maxLen; omega) rfl) ad 2 cp [.int .i64 a, .int .i64 b] rfl (hv.fr0 ((Fr.refl [] w).alloc _)) (by simp [Value.oneCell']) (by omega) (by simp) ?_); intro ao1 cap1 w1 hown1 f1)
  have hown2 : w1.ownsRow w.heap.size 3 1 (.slice ao1 2 cap1) 2 [.int .i64 a, .int .i64 b] := hown1
  obtain ⟨g, rfl, hg1, hg2⟩ := own_addr hown2 (by omega)
  have st1 : Step w w1 := ⟨((Fr.refl [] w).alloc _).trans f1 (fun x hx => .inr (by simp only [blk, List.mem_singleton] at hx; omega))⟩
  clear hown1 f1
  have nb : NeB g w1.heap.size := ⟨by omega⟩
  have nb' : NeB w1.heap.size g := ⟨by omega⟩
  have bx : BoxAt (w1.alloc (.cells #[.slice none 0 0, .slice none 0 0, .slice none 0 0, .int .i64 0, .int .i64 0, .slice none 0 0, .slice none 0 0, .slice none 0 0, .slice none 0 0, .int .i64 0, .int .i64 0, .int .i64 0, .int .i64 0, .slice none 0 0, .int .i64 0, .slice none 0 0, .slice none 0 0, .slice none 0 0, .slice (some ⟨g, 0, none⟩) 2 cap1, .slice none 0 0] 120)) w1.heap.size (mch 0 0 (.slice (some ⟨g, 0, none⟩) 2 cap1)) := ⟨(mch_box w1 _ 0 0 _).is⟩
  with_reducible refine Calls.mono (snum2 (B := w.heap.size) (p := w1.heap.size) (g := g) (cap := cap1) op a b _ ht (own_keep hown2) (bx := bx) (nb := nb) (nb' := nb') (ag := ⟨by simp; omega⟩)) ?_
  rintro e w2 ⟨rfl, c2, b2, st2⟩
  have nbg : NewB w g := ⟨hg1⟩
  have og2 : Old g w2 := ⟨block_lt_of_cell c2⟩
  have c3 : w2.drew.cell? ⟨g, 0, none⟩ = some (.int .i64 (bin32 op a b).1) := c2
  have b3 : BoxL w2.drew w1.heap.size (mch (endOf (bin32 op a b).2) (bin32 op a b).2 (.slice (some ⟨g, 0, none⟩) 1 cap1)) := boxOf
  go_wp2_with fail
  refine rg_begin0 (n := 20) (by kernel_rfl) rfl fun rg0 => ?_
  refine rg_read (i := 0) (a1 := _) rfl (by kernel_rfl) rfl (by simp) (by intro wq hwq; go_wp2; exact ⟨rfl, rfl⟩) mkStep ?_
  refine rg_read (i := 1) (a1 := _) rfl (by kernel_rfl) rfl (by simp) (by intro wq hwq; go_wp2; exact ⟨rfl, rfl⟩) mkStep ?_
  refine rg_read (i := 2) (a1 := _) rfl (by kernel_rfl) rfl (by simp) (by intro wq hwq; go_wp2; exact ⟨rfl, rfl⟩) mkStep ?_
  refine rg_read (i := 3) (a1 := _) rfl (by kernel_rfl) rfl (by simp) (by intro wq hwq; go_wp2; exact ⟨rfl, rfl⟩) mkStep ?_
  refine rg_read (i := 4) (a1 := _) rfl (by kernel_rfl) rfl (by simp) (by intro wq hwq; go_wp2; exact ⟨rfl, rfl⟩) mkStep ?_
  refine rg_read (i := 5) (a1 := _) rfl (by kernel_rfl) rfl (by simp) (by intro wq hwq; go_wp2; exact ⟨rfl, rfl⟩) mkStep ?_
  refine rg_read (i := 6) (a1 := _) rfl (by kernel_rfl) rfl (by simp) (by intro wq hwq; go_wp2; exact ⟨rfl, rfl⟩) mkStep ?_
  refine rg_read (i := 7) (a1 := _) rfl (by kernel_rfl) rfl (by simp) (by intro wq hwq; go_wp2; exact ⟨rfl, rfl⟩) mkStep ?_
  refine rg_read (i := 8) (a1 := _) rfl (by kernel_rfl) rfl (by simp) (by intro wq hwq; go_wp2; exact ⟨rfl, rfl⟩) mkStep ?_
  refine rg_read (i := 9) (a1 := _) rfl (by kernel_rfl) rfl (by simp) (by intro wq hwq; go_wp2; exact ⟨rfl, rfl⟩) mkStep ?_
  refine rg_read (i := 10) (a1 := _) rfl (by kernel_rfl) rfl (by simp) (by intro wq hwq; go_wp2; exact ⟨rfl, rfl⟩) mkStep ?_
  refine rg_read (i := 11) (a1 := _) rfl (by kernel_rfl) rfl (by simp) (by intro wq hwq; go_wp2; exact ⟨rfl, rfl⟩) mkStep ?_
  refine rg_read (i := 12) (a1 := _) rfl (by kernel_rfl) rfl (by simp) (by intro wq hwq; go_wp2; exact ⟨rfl, rfl⟩) mkStep ?_
  refine rg_read (i := 13) (a1 := _) rfl (by kernel_rfl) rfl (by simp) (by intro wq hwq; go_wp2; exact ⟨rfl, rfl⟩) mkStep ?_
  refine rg_read (i := 14) (a1 := _) rfl (by kernel_rfl) rfl (by simp) (by intro wq hwq; go_wp2; exact ⟨rfl, rfl⟩) mkStep ?_
  refine rg_read (i := 15) (a1 := _) rfl (by kernel_rfl) rfl (by simp) (by intro wq hwq; go_wp2; exact ⟨rfl, rfl⟩) mkStep ?_
  refine rg_read (i := 16) (a1 := _) rfl (by kernel_rfl) rfl (by simp) (by intro wq hwq; go_wp2; exact ⟨rfl, rfl⟩) mkStep ?_
  refine rg_read (i := 17) (a1 := _) rfl (by kernel_rfl) rfl (by simp) (by intro wq hwq; go_wp2; exact ⟨rfl, rfl⟩) mkStep ?_
  refine rg_read (i := 18) (a1 := _) rfl (by kernel_rfl) rfl (by simp) (by intro wq hwq; go_wp2; exact ⟨rfl, rfl⟩) mkStep ?_
  refine rg_read (i := 19) (a1 := _) rfl (by kernel_rfl) rfl (by simp) (by intro wq hwq; go_wp2; exact ⟨rfl, rfl⟩) mkStep ?_
  refine rg_done (by kernel_rfl) ?_
  go_wp2
  go_ret2
  exact ⟨by rw [← endOf_eq]; rfl, mkStep⟩
set_option maxHeartbeats 1000000 in
theorem swork1 {ad : Option Addr} {cp : Nat} (op a : Int) (w : World) (ht : isOne op = true) (ha : wrap32 a = a) (hv : View w ad 1 1 [.int .i64 a]) :
    Calls Tryz.prog 84 #[.int .i64 op, .slice ad 1 cp] w fun e w' => e = .returned (.tuple #[.int .i64 (un32 op a), .bool true]) ∧ Step w w' := by
  go_enter Tryz.func84, Tryz.ntmps84
  go_wp2_with (at_builtin; go_must (refine app_own _ rfl (.tmp 7) (.tmp 8) 76 rfl 3 (.int .i64 0) 1 8 Tryz.ints_tab w.heap.size _ 0 0 [] rfl (own_litAt rfl rfl (Nat.le_refl _) (by unfold maxLen; omega) rfl) ad 1 cp [.int .i64 a] rfl (hv.fr0 ((Fr.refl [] w).alloc _)) (by simp [Value.oneCell']) (by omega) (by simp) ?_); intro ao1 cap1 w1 hown1 f1)
  have hown2 : w1.ownsRow w.heap.size 3 1 (.slice ao1 1 cap1) 1 [.int .i64 a] := hown1
  obtain ⟨g, rfl, hg1, hg2⟩ := own_addr hown2 (by omega)
  have st1 : Step w w1 := ⟨((Fr.refl [] w).alloc _).trans f1 (fun x hx => .inr (by simp only [blk, List.mem_singleton] at hx; omega))⟩
  clear hown1 f1
  have nb : NeB g w1.heap.size := ⟨by omega⟩
  have nb' : NeB w1.heap.size g := ⟨by omega⟩
  have bx : BoxAt (w1.alloc (.cells #[.slice none 0 0, .slice none 0 0, .slice none 0 0, .int .i64 0, .int .i64 0, .slice none 0 0, .slice none 0 0, .slice none 0 0, .slice none 0 0, .int .i64 0, .int .i64 0, .int .i64 0, .int .i64 0, .slice none 0 0, .int .i64 0, .slice none 0 0, .slice none 0 0, .slice none 0 0, .slice (some ⟨g, 0, none⟩) 1 cap1, .slice none 0 0] 120)) w1.heap.size (mch 0 0 (.slice (some ⟨g, 0, none⟩) 1 cap1)) := ⟨(mch_box w1 _ 0 0 _).is⟩
  with_reducible refine Calls.mono (snum1 (B := w.heap.size) (p := w1.heap.size) (g := g) (cap := cap1) op a _ ht ha (own_keep hown2) (bx := bx) (nb := nb) (nb' := nb') (ag := ⟨by simp; omega⟩)) ?_
  rintro e w2 ⟨rfl, c2, b2, st2⟩
  have nbg : NewB w g := ⟨hg1⟩
  have og2 : Old g w2 := ⟨block_lt_of_cell c2⟩
  have c3 : w2.drew.cell? ⟨g, 0, none⟩ = some (.int .i64 (un32 op a)) := c2
  have b3 : BoxL w2.drew w1.heap.size (mch 0 0 (.slice (some ⟨g, 0, none⟩) 1 cap1)) := boxOf
  go_wp2_with fail
  refine rg_begin0 (n := 20) (by kernel_rfl) rfl fun rg0 => ?_
  refine rg_read (i := 0) (a1 := _) rfl (by kernel_rfl) rfl (by simp) (by intro wq hwq; go_wp2; exact ⟨rfl, rfl⟩) mkStep ?_
  refine rg_read (i := 1) (a1 := _) rfl (by kernel_rfl) rfl (by simp) (by intro wq hwq; go_wp2; exact ⟨rfl, rfl⟩) mkStep ?_
  refine rg_read (i := 2) (a1 := _) rfl (by kernel_rfl) rfl (by simp) (by intro wq hwq; go_wp2; exact ⟨rfl, rfl⟩) mkStep ?_
  refine rg_read (i := 3) (a1 := _) rfl (by kernel_rfl) rfl (by simp) (by intro wq hwq; go_wp2; exact ⟨rfl, rfl⟩) mkStep ?_
  refine rg_read (i := 4) (a1 := _) rfl (by kernel_rfl) rfl (by simp) (by intro wq hwq; go_wp2; exact ⟨rfl, rfl⟩) mkStep ?_
  refine rg_read (i := 5) (a1 := _) rfl (by kernel_rfl) rfl (by simp) (by intro wq hwq; go_wp2; exact ⟨rfl, rfl⟩) mkStep ?_
  refine rg_read (i := 6) (a1 := _) rfl (by kernel_rfl) rfl (by simp) (by intro wq hwq; go_wp2; exact ⟨rfl, rfl⟩) mkStep ?_
  refine rg_read (i := 7) (a1 := _) rfl (by kernel_rfl) rfl (by simp) (by intro wq hwq; go_wp2; exact ⟨rfl, rfl⟩) mkStep ?_
  refine rg_read (i := 8) (a1 := _) rfl (by kernel_rfl) rfl (by simp) (by intro wq hwq; go_wp2; exact ⟨rfl, rfl⟩) mkStep ?_
  refine rg_read (i := 9) (a1 := _) rfl (by kernel_rfl) rfl (by simp) (by intro wq hwq; go_wp2; exact ⟨rfl, rfl⟩) mkStep ?_
  refine rg_read (i := 10) (a1 := _) rfl (by kernel_rfl) rfl (by simp) (by intro wq hwq; go_wp2; exact ⟨rfl, rfl⟩) mkStep ?_
  refine rg_read (i := 11) (a1 := _) rfl (by kernel_rfl) rfl (by simp) (by intro wq hwq; go_wp2; exact ⟨rfl, rfl⟩) mkStep ?_
  refine rg_read (i := 12) (a1 := _) rfl (by kernel_rfl) rfl (by simp) (by intro wq hwq; go_wp2; exact ⟨rfl, rfl⟩) mkStep ?_
  refine rg_read (i := 13) (a1 := _) rfl (by kernel_rfl) rfl (by simp) (by intro wq hwq; go_wp2; exact ⟨rfl, rfl⟩) mkStep ?_
  refine rg_read (i := 14) (a1 := _) rfl (by kernel_rfl) rfl (by simp) (by intro wq hwq; go_wp2; exact ⟨rfl, rfl⟩) mkStep ?_
  refine rg_read (i := 15) (a1 := _) rfl (by kernel_rfl) rfl (by simp) (by intro wq hwq; go_wp2; exact ⟨rfl, rfl⟩) mkStep ?_
  refine rg_read (i := 16) (a1 := _) rfl (by kernel_rfl) rfl (by simp) (by intro wq hwq; go_wp2; exact ⟨rfl, rfl⟩) mkStep ?_
  refine rg_read (i := 17) (a1 := _) rfl (by kernel_rfl) rfl (by simp) (by intro wq hwq; go_wp2; exact ⟨rfl, rfl⟩) mkStep ?_
  refine rg_read (i := 18) (a1 := _) rfl (by kernel_rfl) rfl (by simp) (by intro wq hwq; go_wp2; exact ⟨rfl, rfl⟩) mkStep ?_
  refine rg_read (i := 19) (a1 := _) rfl (by kernel_rfl) rfl (by simp) (by intro wq hwq; go_wp2; exact ⟨rfl, rfl⟩) mkStep ?_
  refine rg_done (by kernel_rfl) ?_
  go_wp2
  go_ret2
  exact ⟨rfl, mkStep⟩
end Go.Proofs.YtoffaobiikdflaaGreatDoor
