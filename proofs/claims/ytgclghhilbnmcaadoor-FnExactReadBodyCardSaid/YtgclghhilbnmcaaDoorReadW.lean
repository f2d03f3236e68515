/- Contracts: impl's reader: a wanted byte. -/
import Derived.Test.YtgclghhilbnmcaaDoorReadJ
namespace Go.Proofs.YtgclghhilbnmcaaDoor
attribute [local go_sem ↓] Go.wp_at_zero Go.wp_at_succ
open Go.RowKit
open Rep (Is sz)

theorem iwant {F : List Nat} {b : List UInt8} {v : Value} (g a bb cap : Nat) (bad : Bool) (x : Int) (w : World) (hl : b.length ≤ 1048576) (ha : a ≤ b.length) [hB : BoxAt w g #[v, .int .i64 (a : Int), .bool bad]] [h : Shows w F b [v]] [hA : Apart F [g]]
    (hx : w.cell? ⟨bb, 0, none⟩ = some (.int .i64 x)) (hne : bb ≠ g) (hlt : bb < w.heap.size) :
    Calls Tryd.prog 103 #[.pointer (some ⟨g, 0, none⟩), .slice (some ⟨bb, 0, none⟩) 1 cap] w fun e w' => ∃ (a' : Nat) (bad' : Bool), e = .returned (.tuple #[]) ∧ a' ≤ b.length ∧ OutM bad (byteAt b a) x a' bad' ∧ BoxL w' g #[v, .int .i64 (a' : Int), .bool bad'] ∧ StepX [g] w w' := by
  have kk := h.known
  have bl := hB.l
  have og := bl.old
  have ag := bl.arg
  have ob : Old bb w := ⟨hlt⟩
  have nb : NeB bb g := ⟨hne⟩
  clear hB
  go_enter Tryd.func103, Tryd.ntmps103
  go_wp2
  go_loopw [8] (fun i wr => ∃ (k a' : Nat) (bad' : Bool), k ≤ 1 ∧ i = .int .i64 k ∧ a' ≤ b.length ∧ BoxL wr g #[v, .int .i64 (a' : Int), .bool bad'] ∧ StepX [g] w wr ∧ Hid ((k = 0 → a' = a ∧ bad' = bad) ∧ (k = 1 → OutM bad (byteAt b a) x a' bad'))) (fun i _ => 1 - (intOf i).toNat)
  case atStart => exact ⟨0, a, bad, by omega, rfl, ha, bl, mkStepX, hid ⟨fun _ => ⟨rfl, rfl⟩, by omega⟩⟩
  case round =>
    obtain ⟨k, a', bad', hk, rfl, ha', bx, st, hm⟩ := hrel
    have : k = 0 ∨ k = 1 := by omega
    rcases this with rfl | rfl
    · obtain ⟨rfl, rfl⟩ := hm.out.1 rfl
      go_wp2_with fail
      with_reducible refine Calls.mono (ibyte _ _ _ _ (by omega) (by omega)) ?_
      rintro e w2 ⟨n, a2, bad2, rfl, hn0, hn1, ha2, out2, bx2, st2⟩
      by_cases hnx : n = x
      · subst hnx
        go_wp2
        go_roundw
        case rel => exact ⟨1, a2, bad2, by omega, by go_num, ha2, bx2, mkStepX, hid ⟨by omega, fun _ => OutM.eq out2⟩⟩
        case measure => simp [intOf]
      · go_wp2
        go_roundw
        case rel => exact ⟨1, a2, true, by omega, by go_num, ha2, boxSet (by simp), mkStepX, hid ⟨by omega, fun _ => OutM.ne out2 hnx⟩⟩
        case measure => simp [intOf]
    · have ho := hm.out.2 rfl
      go_wp2
      refine bodyPost_end (results_none rfl _ _ _) rfl ?_
      cases bad'
      · exact ⟨rfl, a', ha', .inl ⟨ho, bx, st⟩⟩
      · exact ⟨rfl, a', ha', .inr ⟨ho, bx, st⟩⟩
end Go.Proofs.YtgclghhilbnmcaaDoor
