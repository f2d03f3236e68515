/- Contracts: TokText, both sides. -/
import Derived.Test.YtbijeibcchbcpaaDoorGTok
import Derived.Test.YtbijeibcchbcpaaDoorLex
namespace Go.Proofs.YtbijeibcchbcpaaDoor
attribute [local go_sem ↓] Go.wp_at_zero Go.wp_at_succ
open Go.RowKit
open Rep (Is sz)

def tokText (t : TokD) : ByteArray :=
  if t.kind = 1 then ⟨(numL t.n).toArray⟩
  else if t.kind = 2 then (if wordS t.s = true ∧ memS wordsL t.s = false then t.s else ⟨#[]⟩)
  else if t.kind = 3 then (if memS wordsL t.s = true ∨ memS signsL t.s = true then t.s else ⟨#[]⟩)
  else ⟨#[]⟩


theorem itoktext {F : List Nat} {cs : List Value} (t : TokD) (w : World) (hs : t.s.size ≤ 1048576) [h : Shows w F t cs] [ha : HasAsc w] [hp : HasPow w] :
    Calls Tryd.prog 8 #[.agg cs.toArray] w fun e w' => e = .returned (.string (tokText t)) ∧ Step w w' := by
  obtain ⟨rfl, rfl, i0, i1, i2, i3⟩ := tok_open h.is
  clear h
  have ka := ha.known
  have kp := hp.known
  go_enter Tryd.func8, Tryd.ntmps8
  by_cases c1 : t.kind = 1
  · have hr := hid (show tokText t = ⟨(numL t.n).toArray⟩ by simp [tokText, c1])
    go_wp2_with (first | (go_at_call 16; (with_reducible refine Calls.mono (inum ..) ?_); rintro e wk ⟨rfl, st⟩))
    go_ret
    exact ⟨by rw [hr.out]; rfl, mkStep⟩
  by_cases c2 : t.kind = 2
  · have b1 : (t.kind == 1) = false := by simp [c2]
    have b2 : (t.kind == 2) = true := by simp [c2]
    have b3 : (t.kind == 3) = false := by simp [c2]
    have hq : (wordS t.s && !signB t.s) = true ↔ wordS t.s = true ∧ memS wordsL t.s = false := by
      have := words_word t.s
      rw [← memS_iff] at this
      unfold signB
      rw [memS_append]
      cases e1 : wordS t.s <;> cases e2 : memS wordsL t.s <;> cases e3 : memS signsL t.s <;> simp_all
    cases q : (wordS t.s && !signB t.s)
    · have hr := hid (show tokText t = ⟨#[]⟩ by rw [q] at hq; simp only [tokText, c2, ← hq]; rfl)
      replace hq := hid hq
      go_wp2_with (first | (go_at_call 17; (with_reducible refine Calls.mono (iname_any _ _ (by omega)) ?_); rintro e wk ⟨rfl, st⟩))
      go_ret
      exact ⟨by rw [hr.out]; rfl, mkStep⟩
    · have hr := hid (show tokText t = t.s by rw [q] at hq; simp only [tokText, c2, ← hq]; rfl)
      replace hq := hid hq
      go_wp2_with (first | (go_at_call 17; (with_reducible refine Calls.mono (iname_any _ _ (by omega)) ?_); rintro e wk ⟨rfl, st⟩))
      go_ret
      exact ⟨by rw [hr.out]; rfl, mkStep⟩
  by_cases c3 : t.kind = 3
  · have b1 : (t.kind == 1) = false := by simp [c3]
    have b2 : (t.kind == 2) = false := by simp [c3]
    have b3 : (t.kind == 3) = true := by simp [c3]
    have hq : signB t.s = (memS wordsL t.s || memS signsL t.s) := memS_append _ _ _
    cases q : signB t.s
    · have hr := hid (show tokText t = ⟨#[]⟩ by rw [q] at hq; have h2 := hq.symm; rw [Bool.or_eq_false_iff] at h2; simp only [tokText, c3, h2.1, h2.2]; rfl)
      replace hq := hid hq
      go_wp2_with (first | (go_at_call 18; (with_reducible refine Calls.mono (isign_any ..) ?_); rintro e wk ⟨rfl, st⟩))
      go_ret
      exact ⟨by rw [hr.out]; rfl, mkStep⟩
    · have hr := hid (show tokText t = t.s by rw [q] at hq; have h2 := hq.symm; rw [Bool.or_eq_true] at h2; simp only [tokText, c3, h2]; rfl)
      replace hq := hid hq
      go_wp2_with (first | (go_at_call 18; (with_reducible refine Calls.mono (isign_any ..) ?_); rintro e wk ⟨rfl, st⟩))
      go_ret
      exact ⟨by rw [hr.out]; rfl, mkStep⟩
  have hr := hid (show tokText t = ⟨#[]⟩ by simp [tokText, c1, c2, c3])
  go_wp2
  go_ret
  exact ⟨by rw [hr.out]; rfl, mkStep⟩
end Go.Proofs.YtbijeibcchbcpaaDoor
