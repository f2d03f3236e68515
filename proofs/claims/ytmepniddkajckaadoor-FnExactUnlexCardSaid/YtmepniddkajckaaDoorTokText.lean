/- Contracts: TokText, both sides. -/
import Derived.Test.YtmepniddkajckaaDoorGTok
import Derived.Test.YtmepniddkajckaaDoorLex
namespace Go.Proofs.YtmepniddkajckaaDoor
attribute [local go_sem ↓] Go.wp_at_zero Go.wp_at_succ
open Go.RowKit
open Rep (Is sz)

def tokText (t : TokD) : ByteArray :=
  if t.kind = 1 then ⟨(numL t.n).toArray⟩
  else if t.kind = 2 then (if wordS t.s = true ∧ memS wordsL t.s = false then t.s else ⟨#[]⟩)
  else if t.kind = 3 then (if memS wordsL t.s = true ∨ memS signsL t.s = true then t.s else ⟨#[]⟩)
  else ⟨#[]⟩

theorem stoktext {F : List Nat} {cs : List Value} (t : TokD) (w : World) (hs : t.s.size ≤ 1048576) [h : Shows w F t cs] :
    Calls Tryd.prog 28 #[.agg cs.toArray] w fun e w' => e = .returned (.string (tokText t)) ∧ Step w w' := by
  obtain ⟨rfl, rfl, i0, i1, i2, i3⟩ := tok_open h.is
  clear h
  go_enter Tryd.func28, Tryd.ntmps28
  by_cases c1 : t.kind = 1
  · have hr := hid (show tokText t = ⟨(numL t.n).toArray⟩ by simp [tokText, c1])
    go_wp2_with (first | (go_at_call 69; (with_reducible refine Calls.mono (snum ..) ?_); rintro e wk ⟨rfl, st⟩))
    go_ret
    exact ⟨by rw [hr.out]; rfl, mkStep⟩
  by_cases c2 : t.kind = 2
  · have b1 : (t.kind == 1) = false := by simp [c2]
    have b2 : (t.kind == 2) = true := by simp [c2]
    cases q1 : wordS t.s <;> cases q2 : memS wordsL t.s
    all_goals
      have hr := hid (show tokText t = _ by simp only [tokText, c2, q1, q2]; rfl)
      go_wp2_with fail
      refine rg_begin0 (n := 10) (by kernel_rfl) rfl fun rg0 => ?_
      refine rg_read (i := 0) (a1 := _) rfl (by kernel_rfl) rfl (by simp) (by intro wq hwq; go_wp2; exact ⟨rfl, rfl⟩) mkStep ?_
      refine rg_read (i := 1) (a1 := _) rfl (by kernel_rfl) rfl (by simp) (by intro wq hwq; go_wp2; exact ⟨rfl, rfl⟩) mkStep ?_
      refine rg_eff (i := 2) rfl (by kernel_rfl) ?_
      simp only [List.getElem_toArray, List.getElem_cons_succ, List.getElem_cons_zero]
      go_wp2_with (first | (go_at_call 70; (with_reducible refine Calls.mono (sword_any _ _ (by omega)) ?_); rintro e wk ⟨rfl, st⟩) | (go_at_call 72; (with_reducible refine Calls.mono (swords_any ..) ?_); rintro e wk ⟨v, F, rfl, kn, st⟩) | (go_at_call 71; (with_reducible refine Calls.mono (shas_any ..) ?_); rintro e wk ⟨rfl, st⟩))
      refine ⟨mkStep, ?_⟩
      refine rg_read (i := 3) (a1 := _) rfl (by kernel_rfl) rfl (by simp) (by intro wq hwq; go_wp2; exact ⟨rfl, rfl⟩) mkStep ?_
      refine rg_read (i := 5) (a1 := _) rfl (by kernel_rfl) rfl (by simp) (by intro wq hwq; go_wp2; exact ⟨rfl, rfl⟩) mkStep ?_
      refine rg_read (i := 6) (a1 := _) rfl (by kernel_rfl) rfl (by simp) (by intro wq hwq; go_wp2; exact ⟨rfl, rfl⟩) mkStep ?_
      refine rg_eff (i := 4) rfl (by kernel_rfl) ?_
      simp only [List.getElem_toArray, List.getElem_cons_succ, List.getElem_cons_zero]
      go_wp2_with (first | (go_at_call 70; (with_reducible refine Calls.mono (sword_any _ _ (by omega)) ?_); rintro e wk ⟨rfl, st⟩) | (go_at_call 72; (with_reducible refine Calls.mono (swords_any ..) ?_); rintro e wk ⟨v, F, rfl, kn, st⟩) | (go_at_call 71; (with_reducible refine Calls.mono (shas_any ..) ?_); rintro e wk ⟨rfl, st⟩))
      refine ⟨mkStep, ?_⟩
      refine rg_eff (i := 7) rfl (by kernel_rfl) ?_
      simp only [List.getElem_toArray, List.getElem_cons_succ, List.getElem_cons_zero]
      go_wp2_with (first | (go_at_call 70; (with_reducible refine Calls.mono (sword_any _ _ (by omega)) ?_); rintro e wk ⟨rfl, st⟩) | (go_at_call 72; (with_reducible refine Calls.mono (swords_any ..) ?_); rintro e wk ⟨v, F, rfl, kn, st⟩) | (go_at_call 71; (with_reducible refine Calls.mono (shas_any ..) ?_); rintro e wk ⟨rfl, st⟩))
      refine ⟨mkStep, ?_⟩
      refine rg_read (i := 8) (a1 := _) rfl (by kernel_rfl) rfl (by simp) (by intro wq hwq; go_wp2; exact ⟨rfl, rfl⟩) mkStep ?_
      refine rg_read (i := 9) (a1 := _) rfl (by kernel_rfl) rfl (by simp) (by intro wq hwq; go_wp2; exact ⟨rfl, rfl⟩) mkStep ?_
      refine rg_done (by kernel_rfl) ?_
      go_wp2
      go_ret
      exact ⟨by rw [hr.out]; rfl, mkStep⟩
  by_cases c3 : t.kind = 3
  · have b1 : (t.kind == 1) = false := by simp [c3]
    have b2 : (t.kind == 2) = false := by simp [c3]
    have b3 : (t.kind == 3) = true := by simp [c3]
    cases q1 : memS wordsL t.s <;> cases q2 : memS signsL t.s
    all_goals
      have hr := hid (show tokText t = _ by simp only [tokText, c3, q1, q2]; rfl)
      go_wp2_with fail
      refine rg_begin0 (n := 10) (by kernel_rfl) rfl fun rg0 => ?_
      refine rg_read (i := 1) (a1 := _) rfl (by kernel_rfl) rfl (by simp) (by intro wq hwq; go_wp2; exact ⟨rfl, rfl⟩) mkStep ?_
      refine rg_read (i := 2) (a1 := _) rfl (by kernel_rfl) rfl (by simp) (by intro wq hwq; go_wp2; exact ⟨rfl, rfl⟩) mkStep ?_
      refine rg_eff (i := 0) rfl (by kernel_rfl) ?_
      simp only [List.getElem_toArray, List.getElem_cons_zero]
      go_wp2_with (first | (go_at_call 73; (with_reducible refine Calls.mono (ssigns_any ..) ?_); rintro e wk ⟨v, F, rfl, kn, st⟩) | (go_at_call 72; (with_reducible refine Calls.mono (swords_any ..) ?_); rintro e wk ⟨v, F, rfl, kn, st⟩) | (go_at_call 71; (with_reducible refine Calls.mono (shas_any ..) ?_); rintro e wk ⟨rfl, st⟩))
      refine ⟨mkStep, ?_⟩
      refine rg_eff (i := 3) rfl (by kernel_rfl) ?_
      simp only [List.getElem_toArray, List.getElem_cons_succ, List.getElem_cons_zero]
      go_wp2_with (first | (go_at_call 73; (with_reducible refine Calls.mono (ssigns_any ..) ?_); rintro e wk ⟨v, F, rfl, kn, st⟩) | (go_at_call 72; (with_reducible refine Calls.mono (swords_any ..) ?_); rintro e wk ⟨v, F, rfl, kn, st⟩) | (go_at_call 71; (with_reducible refine Calls.mono (shas_any ..) ?_); rintro e wk ⟨rfl, st⟩))
      refine ⟨mkStep, ?_⟩
      refine rg_read (i := 4) (a1 := _) rfl (by kernel_rfl) rfl (by simp) (by intro wq hwq; go_wp2; exact ⟨rfl, rfl⟩) mkStep ?_
      refine rg_read (i := 6) (a1 := _) rfl (by kernel_rfl) rfl (by simp) (by intro wq hwq; go_wp2; exact ⟨rfl, rfl⟩) mkStep ?_
      refine rg_read (i := 7) (a1 := _) rfl (by kernel_rfl) rfl (by simp) (by intro wq hwq; go_wp2; exact ⟨rfl, rfl⟩) mkStep ?_
      refine rg_eff (i := 5) rfl (by kernel_rfl) ?_
      simp only [List.getElem_toArray, List.getElem_cons_succ, List.getElem_cons_zero]
      go_wp2_with (first | (go_at_call 73; (with_reducible refine Calls.mono (ssigns_any ..) ?_); rintro e wk ⟨v, F, rfl, kn, st⟩) | (go_at_call 72; (with_reducible refine Calls.mono (swords_any ..) ?_); rintro e wk ⟨v, F, rfl, kn, st⟩) | (go_at_call 71; (with_reducible refine Calls.mono (shas_any ..) ?_); rintro e wk ⟨rfl, st⟩))
      refine ⟨mkStep, ?_⟩
      refine rg_eff (i := 8) rfl (by kernel_rfl) ?_
      simp only [List.getElem_toArray, List.getElem_cons_succ, List.getElem_cons_zero]
      go_wp2_with (first | (go_at_call 73; (with_reducible refine Calls.mono (ssigns_any ..) ?_); rintro e wk ⟨v, F, rfl, kn, st⟩) | (go_at_call 72; (with_reducible refine Calls.mono (swords_any ..) ?_); rintro e wk ⟨v, F, rfl, kn, st⟩) | (go_at_call 71; (with_reducible refine Calls.mono (shas_any ..) ?_); rintro e wk ⟨rfl, st⟩))
      refine ⟨mkStep, ?_⟩
      refine rg_read (i := 9) (a1 := _) rfl (by kernel_rfl) rfl (by simp) (by intro wq hwq; go_wp2; exact ⟨rfl, rfl⟩) mkStep ?_
      refine rg_done (by kernel_rfl) ?_
      go_wp2
      go_ret
      exact ⟨by rw [hr.out]; rfl, mkStep⟩
  have hr := hid (show tokText t = ⟨#[]⟩ by simp [tokText, c1, c2, c3])
  go_wp2
  go_ret
  exact ⟨by rw [hr.out]; rfl, mkStep⟩

theorem itoktext {F : List Nat} {cs : List Value} (t : TokD) (w : World) (hs : t.s.size ≤ 1048576) [h : Shows w F t cs] [ha : HasAsc w] [hp : HasPow w] :
    Calls Tryd.prog 30 #[.agg cs.toArray] w fun e w' => e = .returned (.string (tokText t)) ∧ Step w w' := by
  obtain ⟨rfl, rfl, i0, i1, i2, i3⟩ := tok_open h.is
  clear h
  have ka := ha.known
  have kp := hp.known
  go_enter Tryd.func30, Tryd.ntmps30
  by_cases c1 : t.kind = 1
  · have hr := hid (show tokText t = ⟨(numL t.n).toArray⟩ by simp [tokText, c1])
    go_wp2_with (first | (go_at_call 57; (with_reducible refine Calls.mono (inum ..) ?_); rintro e wk ⟨rfl, st⟩))
    go_ret
    exact ⟨by rw [hr.out]; rfl, mkStep⟩
  by_cases c2 : t.kind = 2
  · have b1 : (t.kind == 1) = false := by simp [c2]
    have b2 : (t.kind == 2) = true := by simp [c2]
    have b3 : (t.kind == 3) = false := by simp [c2]
    have hq : (wordS t.s && !signB t.s) = true ↔ wordS t.s = true ∧ memS wordsL t.s = false := by
      have := words_word t.s
      rw [← memS_iff] at this
      unfold signB
      rw [memS_append]
      cases e1 : wordS t.s <;> cases e2 : memS wordsL t.s <;> cases e3 : memS signsL t.s <;> simp_all
    cases q : (wordS t.s && !signB t.s)
    · have hr := hid (show tokText t = ⟨#[]⟩ by rw [q] at hq; simp only [tokText, c2, ← hq]; rfl)
      replace hq := hid hq
      go_wp2_with (first | (go_at_call 74; (with_reducible refine Calls.mono (iname_any _ _ (by omega)) ?_); rintro e wk ⟨rfl, st⟩))
      go_ret
      exact ⟨by rw [hr.out]; rfl, mkStep⟩
    · have hr := hid (show tokText t = t.s by rw [q] at hq; simp only [tokText, c2, ← hq]; rfl)
      replace hq := hid hq
      go_wp2_with (first | (go_at_call 74; (with_reducible refine Calls.mono (iname_any _ _ (by omega)) ?_); rintro e wk ⟨rfl, st⟩))
      go_ret
      exact ⟨by rw [hr.out]; rfl, mkStep⟩
  by_cases c3 : t.kind = 3
  · have b1 : (t.kind == 1) = false := by simp [c3]
    have b2 : (t.kind == 2) = false := by simp [c3]
    have b3 : (t.kind == 3) = true := by simp [c3]
    have hq : signB t.s = (memS wordsL t.s || memS signsL t.s) := memS_append _ _ _
    cases q : signB t.s
    · have hr := hid (show tokText t = ⟨#[]⟩ by rw [q] at hq; have h2 := hq.symm; rw [Bool.or_eq_false_iff] at h2; simp only [tokText, c3, h2.1, h2.2]; rfl)
      replace hq := hid hq
      go_wp2_with (first | (go_at_call 75; (with_reducible refine Calls.mono (isign_any ..) ?_); rintro e wk ⟨rfl, st⟩))
      go_ret
      exact ⟨by rw [hr.out]; rfl, mkStep⟩
    · have hr := hid (show tokText t = t.s by rw [q] at hq; have h2 := hq.symm; rw [Bool.or_eq_true] at h2; simp only [tokText, c3, h2]; rfl)
      replace hq := hid hq
      go_wp2_with (first | (go_at_call 75; (with_reducible refine Calls.mono (isign_any ..) ?_); rintro e wk ⟨rfl, st⟩))
      go_ret
      exact ⟨by rw [hr.out]; rfl, mkStep⟩
  have hr := hid (show tokText t = ⟨#[]⟩ by simp [tokText, c1, c2, c3])
  go_wp2
  go_ret
  exact ⟨by rw [hr.out]; rfl, mkStep⟩
end Go.Proofs.YtmepniddkajckaaDoor
