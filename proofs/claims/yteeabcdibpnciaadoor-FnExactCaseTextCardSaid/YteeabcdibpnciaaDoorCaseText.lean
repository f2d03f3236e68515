/- Contracts: CaseText, both sides. -/
import Derived.Test.YteeabcdibpnciaaDoorCaseOk
import Derived.Test.YteeabcdibpnciaaDoorNums
namespace Go.Proofs.YteeabcdibpnciaaDoor
attribute [local go_sem ↓] Go.wp_at_zero Go.wp_at_succ
open Go.RowKit
open Rep (Is sz)

theorem bytes_ext {a b : ByteArray} (h : a.data.toList = b.data.toList) : a = b := ByteArray.ext (Array.toList_inj.1 h)
theorem data_app (a b : ByteArray) : (a ++ b).data.toList = a.data.toList ++ b.data.toList := by rw [ByteArray.data_append]; simp

def lineT (m : UInt8) (s : ByteArray) : List UInt8 := m :: (s.data.toList ++ [10])
def linesT (m : UInt8) (l : List ByteArray) (k : Nat) : List UInt8 := (l.take k).flatMap (lineT m)
theorem linesT_succ (m : UInt8) (l : List ByteArray) (k : Nat) (h : k < l.length) : linesT m l (k + 1) = linesT m l k ++ lineT m l[k] := by
  unfold linesT
  rw [List.take_succ_eq_append_getElem h, List.flatMap_append, List.flatMap_singleton]
theorem linesT_len (m : UInt8) (l : List ByteArray) (hl : ∀ s ∈ l, s.size ≤ 200) : ∀ k : Nat, k ≤ l.length → (linesT m l k).length ≤ 202 * k
  | 0, _ => by simp [linesT]
  | k + 1, h => by
    have h1 := linesT_len m l hl k (by omega)
    have h2 := hl _ (List.getElem_mem (show k < l.length by omega))
    have h3 := bsz l[k]
    rw [linesT_succ m l k (by omega), List.length_append]
    unfold lineT
    simp only [List.length_cons, List.length_append, List.length_nil]
    omega
def headT (c : CaseD) : List UInt8 := ([99, 97, 115, 101, 32] : List UInt8) ++ c.name.data.toList ++ [10]
def midT (c : CaseD) : List UInt8 := if c.input = [] then [] else 60 :: (numsL c.input ++ [10])
def caseText (c : CaseD) : ByteArray := if caseOk c = true then ⟨(headT c ++ linesT 62 c.lines c.lines.length ++ midT c ++ linesT 61 c.want c.want.length ++ ([101, 110, 100, 10] : List UInt8)).toArray⟩ else ⟨#[]⟩

theorem caseOk_facts {c : CaseD} (h : caseOk c = true) : c.name.size ≤ 12 ∧ c.input.length ≤ 40 ∧ c.lines.length ≤ 60 ∧ c.want.length ≤ 60 ∧ (∀ s ∈ c.lines, s.size ≤ 200) ∧ (∀ s ∈ c.want, s.size ≤ 200) := by
  unfold caseOk linesB nameB at h
  simp only [Bool.and_eq_true, decide_eq_true_eq, List.all_eq_true] at h
  obtain ⟨⟨⟨⟨⟨⟨⟨_, h1⟩, _⟩, _⟩, h2⟩, _⟩, h3, h4⟩, h5, h6⟩ := h
  exact ⟨h1, h2, h4, h6, fun s hs => ((lineB_iff s).1 (h3 s hs)).1, fun s hs => ((lineB_iff s).1 (h5 s hs)).1⟩

theorem lines_at {c : CaseD} (h : caseOk c = true) : (∀ k (hk : k < c.lines.length), c.lines[k].size ≤ 200) ∧ (∀ k (hk : k < c.want.length), c.want[k].size ≤ 200) := by
  obtain ⟨_, _, _, _, z5, z6⟩ := caseOk_facts h
  exact ⟨fun k hk => z5 _ (List.getElem_mem hk), fun k hk => z6 _ (List.getElem_mem hk)⟩

set_option maxHeartbeats 2000000 in
theorem scasetext {F : List Nat} {cs : List Value} (c : CaseD) (w : World) (hb : c.name.size ≤ 1048576) [h : Shows w F c cs] :
    Calls Tryd.prog 8 #[.agg cs.toArray] w fun e w' => e = .returned (.string (caseText c)) ∧ Step w w' := by
  have kc : Known w F c cs := ⟨h.is⟩
  obtain ⟨a1, k1, a2, k2, a3, k3, F1, F2, F3, rfl, rfl, h1, h2, h3, i0⟩ := case_open h.is
  have n2 : Known w F2 c.input [.slice a2 c.input.length k2] := ⟨h2⟩
  obtain ⟨_, _, hv1, _, hvw1, hml1, hok1⟩ := strs_open h1
  cases hv1
  obtain ⟨_, _, hv3, _, hvw3, hml3, hok3⟩ := strs_open h3
  cases hv3
  unfold maxLen at hml1 hml3
  clear h h1 h3
  go_enter Tryd.func8, Tryd.ntmps8
  cases hq : caseOk c
  · have hr := hid (show caseText c = ⟨#[]⟩ by unfold caseText; rw [hq]; rfl)
    go_wp2_with (first | (go_at_call 28; (with_reducible refine Calls.mono (scaseok _ _ (by omega)) ?_); rintro e wk ⟨rfl, st⟩))
    go_ret
    exact ⟨by rw [hr.out]; rfl, mkStep⟩
  obtain ⟨z1, z2, z3, z4, z5, z6⟩ := caseOk_facts hq
  have hr := hid (show caseText c = ⟨(headT c ++ linesT 62 c.lines c.lines.length ++ midT c ++ linesT 61 c.want c.want.length ++ ([101, 110, 100, 10] : List UInt8)).toArray⟩ by unfold caseText; rw [if_pos hq])
  have y1 : (headT c).length ≤ 18 := by
    unfold headT
    have := bsz c.name
    simp only [List.length_append, List.length_cons, List.length_nil]
    omega
  have y2 := hid (linesT_len 62 c.lines z5)
  have y3 := hid (linesT_len 61 c.want z6)
  have y4 : (numsL c.input).length ≤ 480 := by
    have := numsK_len c.input c.input.length (Nat.le_refl _)
    unfold numsL
    omega
  have y5 : (midT c).length ≤ 482 := by
    unfold midT
    split
    · simp
    · simp only [List.length_cons, List.length_append, List.length_nil]; omega
  clear z5 z6
  go_wp2_with (first | (go_at_call 28; (with_reducible refine Calls.mono (scaseok _ _ (by omega)) ?_); rintro e wk ⟨rfl, st⟩))
  go_loop [3, 18] (fun o i => ∃ k : Nat, k ≤ c.lines.length ∧ i = .int .i64 k ∧ ∃ L : List UInt8, o = .string ⟨L.toArray⟩ ∧ Hid (L = headT c ++ linesT 62 c.lines k)) (fun _ i => c.lines.length - (intOf i).toNat)
  case atStart => exact ⟨0, by omega, rfl, headT c, congrArg Value.string (bytes_ext (by simp [headT])), hid (by simp [linesT])⟩
  case round =>
    obtain ⟨k, hk, rfl, L, rfl, hL⟩ := hrel
    have hLl : L.length ≤ 13000 := by have := y2.out k hk; rw [hL.out, List.length_append]; omega
    by_cases hlt : k < c.lines.length
    · obtain ⟨b, o, rfl, hc, _, ho⟩ := hvw1.get k hlt (.string c.lines[k]) (by simp [strVs, hlt])
      have hs := hid (linesT_succ 62 c.lines k hlt)
      have zz : c.lines[k].size ≤ 200 := by
        have := y2.out (k + 1) hlt
        exact (lines_at hq).1 k hlt
      go_wp2
      go_round
      case rel => exact ⟨k + 1, by omega, by go_num, L ++ lineT 62 c.lines[k], congrArg Value.string (bytes_ext (by simp [lineT])), hid (by rw [hs.out, hL.out, List.append_assoc])⟩
      case measure => simp [intOf]; omega
    · obtain rfl : k = c.lines.length := by omega
      obtain ⟨M, hM⟩ : ∃ M, M = L ++ midT c := ⟨_, rfl⟩
      have hMl : M.length ≤ 14000 := by rw [hM, List.length_append]; omega
      have hfin := hid (show caseText c = ⟨(M ++ linesT 61 c.want c.want.length ++ ([101, 110, 100, 10] : List UInt8)).toArray⟩ by rw [hr.out, hM, hL.out])
      by_cases hin : c.input = []
      · have hM2 := hid (show M = L by rw [hM]; unfold midT; rw [if_pos hin, List.append_nil])
        have hi0 : c.input.length = 0 := by rw [hin]; rfl
        have hi1 : ¬ 0 < c.input.length := by omega
        replace hin := hid hin
        replace hi0 := hid hi0
        replace hM := hid hM
        go_wp2
        go_loop [3, 42] (fun o i => ∃ k : Nat, k ≤ c.want.length ∧ i = .int .i64 k ∧ ∃ L2 : List UInt8, o = .string ⟨L2.toArray⟩ ∧ Hid (L2 = M ++ linesT 61 c.want k)) (fun _ i => c.want.length - (intOf i).toNat)
        case atStart => exact ⟨0, by omega, rfl, L, rfl, hid (by rw [hM2.out]; simp [linesT])⟩
        case round =>
          obtain ⟨k, hk, rfl, L2, rfl, hL2⟩ := hrel
          have hLl2 : L2.length ≤ 28000 := by have := y3.out k hk; rw [hL2.out, List.length_append]; omega
          by_cases hlt : k < c.want.length
          · obtain ⟨b, o, rfl, hc, _, ho⟩ := hvw3.get k hlt (.string c.want[k]) (by simp [strVs, hlt])
            have hs := hid (linesT_succ 61 c.want k hlt)
            have zz : c.want[k].size ≤ 200 := (lines_at hq).2 k hlt
            go_wp2
            go_round
            case rel => exact ⟨k + 1, by omega, by go_num, L2 ++ lineT 61 c.want[k], congrArg Value.string (bytes_ext (by simp [lineT])), hid (by rw [hs.out, hL2.out, List.append_assoc])⟩
            case measure => simp [intOf]; omega
          · obtain rfl : k = c.want.length := by omega
            go_wp2
            go_ret
            exact ⟨ret_str (by rw [hfin.out, hL2.out]; exact bytes_ext (by simp)), mkStep⟩
      · have hM2 := hid (show M = L ++ 60 :: (numsL c.input ++ [10]) by rw [hM]; unfold midT; rw [if_neg hin])
        have hi1 : 0 < c.input.length := List.length_pos_iff.2 hin
        have hi2 : c.input.length ≤ 1048576 := by omega
        replace hM := hid hM
        go_wp2_with (first | (go_at_call 29; (with_reducible refine Calls.mono (snumsl _ _ (by assumption)) ?_); rintro e wk ⟨rfl, st⟩))
        go_loop [3, 42] (fun o i => ∃ k : Nat, k ≤ c.want.length ∧ i = .int .i64 k ∧ ∃ L2 : List UInt8, o = .string ⟨L2.toArray⟩ ∧ Hid (L2 = M ++ linesT 61 c.want k)) (fun _ i => c.want.length - (intOf i).toNat)
        case atStart => exact ⟨0, by omega, rfl, M, congrArg Value.string (bytes_ext (by rw [hM2.out]; simp)), hid (by simp [linesT])⟩
        case round =>
          obtain ⟨k, hk, rfl, L2, rfl, hL2⟩ := hrel
          have hLl2 : L2.length ≤ 28000 := by have := y3.out k hk; rw [hL2.out, List.length_append]; omega
          by_cases hlt : k < c.want.length
          · obtain ⟨b, o, rfl, hc, _, ho⟩ := hvw3.get k hlt (.string c.want[k]) (by simp [strVs, hlt])
            have hs := hid (linesT_succ 61 c.want k hlt)
            have zz : c.want[k].size ≤ 200 := (lines_at hq).2 k hlt
            go_wp2
            go_round
            case rel => exact ⟨k + 1, by omega, by go_num, L2 ++ lineT 61 c.want[k], congrArg Value.string (bytes_ext (by simp [lineT])), hid (by rw [hs.out, hL2.out, List.append_assoc])⟩
            case measure => simp [intOf]; omega
          · obtain rfl : k = c.want.length := by omega
            go_wp2
            go_ret
            exact ⟨ret_str (by rw [hfin.out, hL2.out]; exact bytes_ext (by simp)), mkStep⟩

set_option maxHeartbeats 2000000 in
theorem icasetext {F : List Nat} {cs : List Value} (c : CaseD) (w : World) (hb : c.name.size ≤ 1048576) [h : Shows w F c cs] [hA : HasAsc w] [hP : HasPow w] :
    Calls Tryd.prog 10 #[.agg cs.toArray] w fun e w' => e = .returned (.string (caseText c)) ∧ Step w w' := by
  have kc : Known w F c cs := ⟨h.is⟩
  obtain ⟨a1, k1, a2, k2, a3, k3, F1, F2, F3, rfl, rfl, h1, h2, h3, i0⟩ := case_open h.is
  have n2 : Known w F2 c.input [.slice a2 c.input.length k2] := ⟨h2⟩
  obtain ⟨_, _, hv1, _, hvw1, hml1, hok1⟩ := strs_open h1
  cases hv1
  obtain ⟨_, _, hv3, _, hvw3, hml3, hok3⟩ := strs_open h3
  cases hv3
  unfold maxLen at hml1 hml3
  clear h h1 h3
  have ka := hA.known
  have kp := hP.known
  go_enter Tryd.func10, Tryd.ntmps10
  cases hq : caseOk c
  · have hr := hid (show caseText c = ⟨#[]⟩ by unfold caseText; rw [hq]; rfl)
    go_wp2_with (first | (go_at_call 32; (with_reducible refine Calls.mono (icaseok _ _ (by omega)) ?_); rintro e wk ⟨rfl, st⟩))
    go_ret
    exact ⟨by rw [hr.out]; rfl, mkStep⟩
  obtain ⟨z1, z2, z3, z4, z5, z6⟩ := caseOk_facts hq
  have hr := hid (show caseText c = ⟨(headT c ++ linesT 62 c.lines c.lines.length ++ midT c ++ linesT 61 c.want c.want.length ++ ([101, 110, 100, 10] : List UInt8)).toArray⟩ by unfold caseText; rw [if_pos hq])
  have y1 : (headT c).length ≤ 18 := by
    unfold headT
    have := bsz c.name
    simp only [List.length_append, List.length_cons, List.length_nil]
    omega
  have y2 := hid (linesT_len 62 c.lines z5)
  have y3 := hid (linesT_len 61 c.want z6)
  have y4 : (numsL c.input).length ≤ 480 := by
    have := numsK_len c.input c.input.length (Nat.le_refl _)
    unfold numsL
    omega
  have y5 : (midT c).length ≤ 482 := by
    unfold midT
    split
    · simp
    · simp only [List.length_cons, List.length_append, List.length_nil]; omega
  clear z5 z6
  go_wp2_with (first | (go_at_call 32; (with_reducible refine Calls.mono (icaseok _ _ (by omega)) ?_); rintro e wk ⟨rfl, st⟩))
  go_loop [3, 18] (fun o i => ∃ k : Nat, k ≤ c.lines.length ∧ i = .int .i64 k ∧ ∃ L : List UInt8, o = .string ⟨L.toArray⟩ ∧ Hid (L = headT c ++ linesT 62 c.lines k)) (fun _ i => c.lines.length - (intOf i).toNat)
  case atStart => exact ⟨0, by omega, rfl, headT c, congrArg Value.string (bytes_ext (by simp [headT])), hid (by simp [linesT])⟩
  case round =>
    obtain ⟨k, hk, rfl, L, rfl, hL⟩ := hrel
    have hLl : L.length ≤ 13000 := by have := y2.out k hk; rw [hL.out, List.length_append]; omega
    by_cases hlt : k < c.lines.length
    · obtain ⟨b, o, rfl, hc, _, ho⟩ := hvw1.get k hlt (.string c.lines[k]) (by simp [strVs, hlt])
      have hs := hid (linesT_succ 62 c.lines k hlt)
      have zz : c.lines[k].size ≤ 200 := by
        have := y2.out (k + 1) hlt
        exact (lines_at hq).1 k hlt
      go_wp2
      go_round
      case rel => exact ⟨k + 1, by omega, by go_num, L ++ lineT 62 c.lines[k], congrArg Value.string (bytes_ext (by simp [lineT])), hid (by rw [hs.out, hL.out, List.append_assoc])⟩
      case measure => simp [intOf]; omega
    · obtain rfl : k = c.lines.length := by omega
      obtain ⟨M, hM⟩ : ∃ M, M = L ++ midT c := ⟨_, rfl⟩
      have hMl : M.length ≤ 14000 := by rw [hM, List.length_append]; omega
      have hfin := hid (show caseText c = ⟨(M ++ linesT 61 c.want c.want.length ++ ([101, 110, 100, 10] : List UInt8)).toArray⟩ by rw [hr.out, hM, hL.out])
      by_cases hin : c.input = []
      · have hM2 := hid (show M = L by rw [hM]; unfold midT; rw [if_pos hin, List.append_nil])
        have hi0 : c.input.length = 0 := by rw [hin]; rfl
        have hi1 : ¬ 0 < c.input.length := by omega
        replace hin := hid hin
        replace hi0 := hid hi0
        replace hM := hid hM
        go_wp2
        go_loop [3, 42] (fun o i => ∃ k : Nat, k ≤ c.want.length ∧ i = .int .i64 k ∧ ∃ L2 : List UInt8, o = .string ⟨L2.toArray⟩ ∧ Hid (L2 = M ++ linesT 61 c.want k)) (fun _ i => c.want.length - (intOf i).toNat)
        case atStart => exact ⟨0, by omega, rfl, L, rfl, hid (by rw [hM2.out]; simp [linesT])⟩
        case round =>
          obtain ⟨k, hk, rfl, L2, rfl, hL2⟩ := hrel
          have hLl2 : L2.length ≤ 28000 := by have := y3.out k hk; rw [hL2.out, List.length_append]; omega
          by_cases hlt : k < c.want.length
          · obtain ⟨b, o, rfl, hc, _, ho⟩ := hvw3.get k hlt (.string c.want[k]) (by simp [strVs, hlt])
            have hs := hid (linesT_succ 61 c.want k hlt)
            have zz : c.want[k].size ≤ 200 := (lines_at hq).2 k hlt
            go_wp2
            go_round
            case rel => exact ⟨k + 1, by omega, by go_num, L2 ++ lineT 61 c.want[k], congrArg Value.string (bytes_ext (by simp [lineT])), hid (by rw [hs.out, hL2.out, List.append_assoc])⟩
            case measure => simp [intOf]; omega
          · obtain rfl : k = c.want.length := by omega
            go_wp2
            go_ret
            exact ⟨ret_str (by rw [hfin.out, hL2.out]; exact bytes_ext (by simp)), mkStep⟩
      · have hM2 := hid (show M = L ++ 60 :: (numsL c.input ++ [10]) by rw [hM]; unfold midT; rw [if_neg hin])
        have hi1 : 0 < c.input.length := List.length_pos_iff.2 hin
        have hi2 : c.input.length ≤ 1048576 := by omega
        replace hM := hid hM
        go_wp2_with (first | (go_at_call 33; (with_reducible refine Calls.mono (inumsl _ _ (by assumption)) ?_); rintro e wk ⟨rfl, st⟩))
        go_loop [3, 42] (fun o i => ∃ k : Nat, k ≤ c.want.length ∧ i = .int .i64 k ∧ ∃ L2 : List UInt8, o = .string ⟨L2.toArray⟩ ∧ Hid (L2 = M ++ linesT 61 c.want k)) (fun _ i => c.want.length - (intOf i).toNat)
        case atStart => exact ⟨0, by omega, rfl, M, congrArg Value.string (bytes_ext (by rw [hM2.out]; simp)), hid (by simp [linesT])⟩
        case round =>
          obtain ⟨k, hk, rfl, L2, rfl, hL2⟩ := hrel
          have hLl2 : L2.length ≤ 28000 := by have := y3.out k hk; rw [hL2.out, List.length_append]; omega
          by_cases hlt : k < c.want.length
          · obtain ⟨b, o, rfl, hc, _, ho⟩ := hvw3.get k hlt (.string c.want[k]) (by simp [strVs, hlt])
            have hs := hid (linesT_succ 61 c.want k hlt)
            have zz : c.want[k].size ≤ 200 := (lines_at hq).2 k hlt
            go_wp2
            go_round
            case rel => exact ⟨k + 1, by omega, by go_num, L2 ++ lineT 61 c.want[k], congrArg Value.string (bytes_ext (by simp [lineT])), hid (by rw [hs.out, hL2.out, List.append_assoc])⟩
            case measure => simp [intOf]; omega
          · obtain rfl : k = c.want.length := by omega
            go_wp2
            go_ret
            exact ⟨ret_str (by rw [hfin.out, hL2.out]; exact bytes_ext (by simp)), mkStep⟩
end Go.Proofs.YteeabcdibpnciaaDoor
