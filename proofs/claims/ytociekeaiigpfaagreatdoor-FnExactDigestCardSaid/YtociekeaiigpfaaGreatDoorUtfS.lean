/- Contracts: spec.UtfOk, impl.UtfOk. -/
import Derived.Test.YtociekeaiigpfaaGreatDoorUtfW
namespace Go.Proofs.YtociekeaiigpfaaGreatDoor
attribute [local go_sem ↓] Go.wp_at_zero Go.wp_at_succ
open Go.RowKit
open Rep (Is sz)

theorem charM_le (l : List UInt8) : charM l ≤ l.length := by
  cases l with
  | nil => exact Nat.le_refl 0
  | cons x r =>
    rw [charM_cons]
    split
    · simp
    · split
      · omega
      · rename_i h
        rw [List.length_cons]
        unfold charEnd
        split
        · omega
        · split <;> omega
def utfB (s : ByteArray) : Bool := Lib.validD s.data.toList
set_option maxRecDepth 100000 in
theorem sutf (s : ByteArray) (w : World) (hs : s.size ≤ 1099511627776) : Calls Tryz.prog 152 #[.string s] w fun e w' => e = .returned (.bool (utfB s)) ∧ Step w w' := by
  go_enter Tryz.func152, Tryz.ntmps152
  go_wp2
  go_loopw [3] (fun i wr => ∃ k : Nat, k ≤ s.size ∧ i = .int .i64 k ∧ Step w wr ∧ Hid (utfB s = Lib.validD (s.data.toList.drop k))) (fun i _ => s.size - (intOf i).toNat)
  case atStart => exact ⟨0, by omega, rfl, mkStep, hid rfl⟩
  case round =>
    obtain ⟨k, hk, rfl, st, heq⟩ := hrel
    by_cases hlt : k < s.size
    · have hne : s.data.toList.drop k ≠ [] := List.length_pos_iff.1 (by rw [List.length_drop, bsz]; omega)
      have hv := valid_char _ hne
      have hc1 := charM_le (s.data.toList.drop k)
      rw [List.length_drop, bsz] at hc1
      obtain ⟨c, hc⟩ : ∃ c, c = charM (s.data.toList.drop k) := ⟨_, rfl⟩
      rw [← hc] at hv hc1
      replace hc := hid hc
      clear hne
      by_cases h0 : c = 0
      · have hr := hid (show utfB s = false by rw [heq.out, hv, if_pos h0])
        have f0 : ((c : Int) == 0) = true := by rw [h0]; rfl
        clear hv h0
        go_wp2_with fail
        with_reducible refine Calls.mono (schar _ _ _ hlt hs) ?_
        rintro e wk ⟨rfl, st2⟩
        rw [← hc.out]
        go_wp2
        go_ret
        exact ⟨by rw [hr.out]; rfl, mkStep⟩
      · have hr := hid (show utfB s = Lib.validD (s.data.toList.drop (k + c)) by rw [heq.out, hv, if_neg h0, List.drop_drop])
        have f0 : ((c : Int) == 0) = false := beq_eq_false_iff_ne.2 (by omega)
        clear hv
        have h0' : 0 < c := by omega
        clear h0
        go_wp2_with fail
        with_reducible refine Calls.mono (schar _ _ _ hlt hs) ?_
        rintro e wk ⟨rfl, st2⟩
        rw [← hc.out]
        go_wp2
        go_roundw
        case rel => exact ⟨k + c, by omega, by go_num, mkStep, hr⟩
        case measure => simp [intOf]; omega
    · have hr := hid (show utfB s = true by rw [heq.out, List.drop_of_length_le (by rw [bsz]; omega)]; rfl)
      go_wp2
      go_ret
      exact ⟨by rw [hr.out]; rfl, mkStep⟩
end Go.Proofs.YtociekeaiigpfaaGreatDoor
