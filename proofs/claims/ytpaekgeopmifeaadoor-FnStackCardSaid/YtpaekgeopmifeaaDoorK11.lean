/- Contracts: spec.UtfOk. -/
import Derived.Test.YtpaekgeopmifeaaDoorK10
namespace Go.Proofs.YtpaekgeopmifeaaDoor
attribute [local go_sem ↓] Go.wp_at_zero Go.wp_at_succ
open Go.RowKit
open Rep (Is sz)

set_option maxRecDepth 100000 in
set_option maxHeartbeats 8000000 in
theorem schar (s : ByteArray) (i : Nat) (w : World) (hi : i < s.size) (hs : s.size ≤ 1099511627776) :
    Calls Tryd.prog 72 #[.string s, .int .i64 (i : Int)] w fun e w' => e = .returned (.int .i64 ((charM (s.data.toList.drop i) : Nat) : Int)) ∧ Step w w' := by
  have hd : s.data.toList.drop i = s[i] :: s.data.toList.drop (i + 1) := by
    have h1 := List.drop_eq_getElem_cons (l := s.data.toList) (i := i) (by rw [bsz]; exact hi)
    rw [h1]; rfl
  have hlen : (s.data.toList.drop (i + 1)).length = s.size - (i + 1) := by rw [List.length_drop, bsz]
  have hx := s[i].toNat_lt
  rw [hd, charM_cons]
  clear hd
  obtain ⟨R, hR⟩ : ∃ R, R = s.data.toList.drop (i + 1) := ⟨_, rfl⟩
  rw [← hR] at hlen ⊢
  replace hR := hid hR
  replace hlen := hid hlen
  go_enter Tryd.func72, Tryd.ntmps72
  by_cases c0 : (s[i].toNat : Int) < 128
  · simp only [if_pos c0]
    go_wp2
    go_ret
    exact ⟨rfl, mkStep⟩
  simp only [if_neg c0]
  by_cases c2 : 194 ≤ (s[i].toNat : Int) ∧ (s[i].toNat : Int) < 224
  · obtain ⟨p1, p2⟩ := c2
    have e0 : charHd (s[i].toNat : Int) = (2, 128, (s[i].toNat : Int) % 32) := by unfold charHd; rw [if_pos (by omega)]
    have hA := and_31 (s[i].toNat : Int)
    obtain ⟨v0, hv0⟩ : ∃ v0, v0 = (s[i].toNat : Int) % 32 := ⟨_, rfl⟩
    have v0a : 0 ≤ v0 := by omega
    have v0b : v0 < 32 := by omega
    rw [e0]
    rw [← hv0] at hA ⊢
    replace hv0 := hid hv0
    clear e0
    by_cases hn : i + 2 ≤ s.size
    · have q1 : ¬ ((i : Int) + 2 > (s.size : Int)) := by omega
      have q2 : ¬ ((2 : Nat) = 0 ∨ R.length + 1 < 2) := by rw [hlen.out]; omega
      simp only [if_neg q2, Nat.reduceSub]
      clear q2
      obtain ⟨A, hAns⟩ : ∃ A, A = contV (R.take 1) v0 := ⟨_, rfl⟩
      rw [← hAns]
      go_wp2
      go_loopw [8, 9] (fun v j wr => ∃ (k : Nat) (x : Int), 1 ≤ k ∧ k ≤ 2 ∧ j = .int .i64 k ∧ v = .int .i64 x ∧ 0 ≤ x ∧ x < 32 * 64 ^ (k - 1) ∧ Step w wr ∧ Hid (A = contV ((R.take 1).drop (k - 1)) x)) (fun _ j _ => 5 - (intOf j).toNat)
      case atStart => exact ⟨1, v0, by omega, by omega, rfl, rfl, v0a, by omega, mkStep, hid (by rw [hAns]; rfl)⟩
      case round =>
        obtain ⟨k, x, hk1, hk2, rfl, rfl, x0, x1, st, hq⟩ := hrel
        replace hAns := hid hAns
        have xb : x < 8388608 := by
          have : k = 1 ∨ k = 2 ∨ k = 3 ∨ k = 4 := by omega
          rcases this with rfl | rfl | rfl | rfl <;> omega
        by_cases hk : k < 2
        · have hik : i + k < s.size := by omega
          have hB := and_63 (s[i + k].toNat : Int)
          have hy := s[i + k].toNat_lt
          have hg : (R.take 1).drop (k - 1) = s[i + k] :: (R.take 1).drop k := by
            have hl : k - 1 < (R.take 1).length := by rw [List.length_take, hlen.out]; omega
            rw [List.drop_eq_getElem_cons hl, show k - 1 + 1 = k by omega]
            congr 1
            rw [List.getElem_take]
            simp only [hR.out, List.getElem_drop, show i + 1 + (k - 1) = i + k by omega]
            rfl
          rw [hg] at hq
          replace hg := hid hg
          have hx2 : x * 64 + (s[i + k].toNat : Int) % 64 < 32 * 64 ^ (k + 1 - 1) := by
            have : k = 1 ∨ k = 2 ∨ k = 3 := by omega
            rcases this with rfl | rfl | rfl <;> simp at x1 ⊢ <;> omega
          by_cases hc : 128 ≤ (s[i + k].toNat : Int) ∧ (s[i + k].toNat : Int) ≤ 191
          · have hq2 := hid (show A = contV ((R.take 1).drop k) (x * 64 + (s[i + k].toNat : Int) % 64) by rw [hq.out, contV, if_pos hc])
            obtain ⟨r1, r2⟩ := hc
            go_wp2
            go_roundw
            case rel => exact ⟨k + 1, x * 64 + (s[i + k].toNat : Int) % 64, by omega, by omega, by go_num, by go_num, by omega, hx2, mkStep, hq2⟩
            case measure => simp [intOf]; omega
          · have hq2 := hid (show A = none by rw [hq.out, contV, if_neg hc])
            by_cases r1 : (s[i + k].toNat : Int) < 128
            · go_wp2
              go_ret
              exact ⟨by rw [hq2.out]; rfl, mkStep⟩
            · have r2 : (s[i + k].toNat : Int) > 191 := by omega
              go_wp2
              go_ret
              exact ⟨by rw [hq2.out]; rfl, mkStep⟩
        · obtain rfl : k = 2 := by omega
          have hq2 := hid (show A = some x by rw [hq.out, List.drop_of_length_le (by rw [List.length_take]; omega)]; rfl)
          by_cases z1 : x < 128
          · have zz := hid (show charEnd 2 128 A = 0 by rw [hq2.out]; exact if_pos (.inl z1))
            go_wp2
            go_ret
            exact ⟨by rw [zz.out]; rfl, mkStep⟩
          by_cases z2 : x > 1114111
          · have zz := hid (show charEnd 2 128 A = 0 by rw [hq2.out]; exact if_pos (.inr (.inl z2)))
            go_wp2
            go_ret
            exact ⟨by rw [zz.out]; rfl, mkStep⟩
          by_cases z3 : x ≥ 55296
          · by_cases z4 : x ≤ 57343
            · have zz := hid (show charEnd 2 128 A = 0 by rw [hq2.out]; exact if_pos (.inr (.inr ⟨z3, z4⟩)))
              go_wp2
              go_ret
              exact ⟨by rw [zz.out]; rfl, mkStep⟩
            · have zz := hid (show charEnd 2 128 A = 2 by rw [hq2.out]; exact if_neg (by omega))
              go_wp2
              go_ret
              exact ⟨by rw [zz.out]; rfl, mkStep⟩
          · have zz := hid (show charEnd 2 128 A = 2 by rw [hq2.out]; exact if_neg (by omega))
            go_wp2
            go_ret
            exact ⟨by rw [zz.out]; rfl, mkStep⟩
    · have q1 : (i : Int) + 2 > (s.size : Int) := by omega
      have q2 : (2 : Nat) = 0 ∨ R.length + 1 < 2 := by rw [hlen.out]; omega
      simp only [if_pos q2]
      clear q2
      go_wp2
      go_ret
      exact ⟨rfl, mkStep⟩
  by_cases c3 : 224 ≤ (s[i].toNat : Int) ∧ (s[i].toNat : Int) < 240
  · obtain ⟨p1, p2⟩ := c3
    have e0 : charHd (s[i].toNat : Int) = (3, 2048, (s[i].toNat : Int) % 16) := by unfold charHd; rw [if_neg (by omega), if_pos (by omega)]
    have hA := and_15 (s[i].toNat : Int)
    obtain ⟨v0, hv0⟩ : ∃ v0, v0 = (s[i].toNat : Int) % 16 := ⟨_, rfl⟩
    have v0a : 0 ≤ v0 := by omega
    have v0b : v0 < 16 := by omega
    rw [e0]
    rw [← hv0] at hA ⊢
    replace hv0 := hid hv0
    clear e0
    by_cases hn : i + 3 ≤ s.size
    · have q1 : ¬ ((i : Int) + 3 > (s.size : Int)) := by omega
      have q2 : ¬ ((3 : Nat) = 0 ∨ R.length + 1 < 3) := by rw [hlen.out]; omega
      simp only [if_neg q2, Nat.reduceSub]
      clear q2
      obtain ⟨A, hAns⟩ : ∃ A, A = contV (R.take 2) v0 := ⟨_, rfl⟩
      rw [← hAns]
      go_wp2
      go_loopw [8, 9] (fun v j wr => ∃ (k : Nat) (x : Int), 1 ≤ k ∧ k ≤ 3 ∧ j = .int .i64 k ∧ v = .int .i64 x ∧ 0 ≤ x ∧ x < 32 * 64 ^ (k - 1) ∧ Step w wr ∧ Hid (A = contV ((R.take 2).drop (k - 1)) x)) (fun _ j _ => 5 - (intOf j).toNat)
      case atStart => exact ⟨1, v0, by omega, by omega, rfl, rfl, v0a, by omega, mkStep, hid (by rw [hAns]; rfl)⟩
      case round =>
        obtain ⟨k, x, hk1, hk2, rfl, rfl, x0, x1, st, hq⟩ := hrel
        replace hAns := hid hAns
        have xb : x < 8388608 := by
          have : k = 1 ∨ k = 2 ∨ k = 3 ∨ k = 4 := by omega
          rcases this with rfl | rfl | rfl | rfl <;> omega
        by_cases hk : k < 3
        · have hik : i + k < s.size := by omega
          have hB := and_63 (s[i + k].toNat : Int)
          have hy := s[i + k].toNat_lt
          have hg : (R.take 2).drop (k - 1) = s[i + k] :: (R.take 2).drop k := by
            have hl : k - 1 < (R.take 2).length := by rw [List.length_take, hlen.out]; omega
            rw [List.drop_eq_getElem_cons hl, show k - 1 + 1 = k by omega]
            congr 1
            rw [List.getElem_take]
            simp only [hR.out, List.getElem_drop, show i + 1 + (k - 1) = i + k by omega]
            rfl
          rw [hg] at hq
          replace hg := hid hg
          have hx2 : x * 64 + (s[i + k].toNat : Int) % 64 < 32 * 64 ^ (k + 1 - 1) := by
            have : k = 1 ∨ k = 2 ∨ k = 3 := by omega
            rcases this with rfl | rfl | rfl <;> simp at x1 ⊢ <;> omega
          by_cases hc : 128 ≤ (s[i + k].toNat : Int) ∧ (s[i + k].toNat : Int) ≤ 191
          · have hq2 := hid (show A = contV ((R.take 2).drop k) (x * 64 + (s[i + k].toNat : Int) % 64) by rw [hq.out, contV, if_pos hc])
            obtain ⟨r1, r2⟩ := hc
            go_wp2
            go_roundw
            case rel => exact ⟨k + 1, x * 64 + (s[i + k].toNat : Int) % 64, by omega, by omega, by go_num, by go_num, by omega, hx2, mkStep, hq2⟩
            case measure => simp [intOf]; omega
          · have hq2 := hid (show A = none by rw [hq.out, contV, if_neg hc])
            by_cases r1 : (s[i + k].toNat : Int) < 128
            · go_wp2
              go_ret
              exact ⟨by rw [hq2.out]; rfl, mkStep⟩
            · have r2 : (s[i + k].toNat : Int) > 191 := by omega
              go_wp2
              go_ret
              exact ⟨by rw [hq2.out]; rfl, mkStep⟩
        · obtain rfl : k = 3 := by omega
          have hq2 := hid (show A = some x by rw [hq.out, List.drop_of_length_le (by rw [List.length_take]; omega)]; rfl)
          by_cases z1 : x < 2048
          · have zz := hid (show charEnd 3 2048 A = 0 by rw [hq2.out]; exact if_pos (.inl z1))
            go_wp2
            go_ret
            exact ⟨by rw [zz.out]; rfl, mkStep⟩
          by_cases z2 : x > 1114111
          · have zz := hid (show charEnd 3 2048 A = 0 by rw [hq2.out]; exact if_pos (.inr (.inl z2)))
            go_wp2
            go_ret
            exact ⟨by rw [zz.out]; rfl, mkStep⟩
          by_cases z3 : x ≥ 55296
          · by_cases z4 : x ≤ 57343
            · have zz := hid (show charEnd 3 2048 A = 0 by rw [hq2.out]; exact if_pos (.inr (.inr ⟨z3, z4⟩)))
              go_wp2
              go_ret
              exact ⟨by rw [zz.out]; rfl, mkStep⟩
            · have zz := hid (show charEnd 3 2048 A = 3 by rw [hq2.out]; exact if_neg (by omega))
              go_wp2
              go_ret
              exact ⟨by rw [zz.out]; rfl, mkStep⟩
          · have zz := hid (show charEnd 3 2048 A = 3 by rw [hq2.out]; exact if_neg (by omega))
            go_wp2
            go_ret
            exact ⟨by rw [zz.out]; rfl, mkStep⟩
    · have q1 : (i : Int) + 3 > (s.size : Int) := by omega
      have q2 : (3 : Nat) = 0 ∨ R.length + 1 < 3 := by rw [hlen.out]; omega
      simp only [if_pos q2]
      clear q2
      go_wp2
      go_ret
      exact ⟨rfl, mkStep⟩
  by_cases c4 : 240 ≤ (s[i].toNat : Int) ∧ (s[i].toNat : Int) < 245
  · obtain ⟨p1, p2⟩ := c4
    have e0 : charHd (s[i].toNat : Int) = (4, 65536, (s[i].toNat : Int) % 8) := by unfold charHd; rw [if_neg (by omega), if_neg (by omega), if_pos (by omega)]
    have hA := and_7 (s[i].toNat : Int)
    obtain ⟨v0, hv0⟩ : ∃ v0, v0 = (s[i].toNat : Int) % 8 := ⟨_, rfl⟩
    have v0a : 0 ≤ v0 := by omega
    have v0b : v0 < 8 := by omega
    rw [e0]
    rw [← hv0] at hA ⊢
    replace hv0 := hid hv0
    clear e0
    by_cases hn : i + 4 ≤ s.size
    · have q1 : ¬ ((i : Int) + 4 > (s.size : Int)) := by omega
      have q2 : ¬ ((4 : Nat) = 0 ∨ R.length + 1 < 4) := by rw [hlen.out]; omega
      simp only [if_neg q2, Nat.reduceSub]
      clear q2
      obtain ⟨A, hAns⟩ : ∃ A, A = contV (R.take 3) v0 := ⟨_, rfl⟩
      rw [← hAns]
      go_wp2
      go_loopw [8, 9] (fun v j wr => ∃ (k : Nat) (x : Int), 1 ≤ k ∧ k ≤ 4 ∧ j = .int .i64 k ∧ v = .int .i64 x ∧ 0 ≤ x ∧ x < 32 * 64 ^ (k - 1) ∧ Step w wr ∧ Hid (A = contV ((R.take 3).drop (k - 1)) x)) (fun _ j _ => 5 - (intOf j).toNat)
      case atStart => exact ⟨1, v0, by omega, by omega, rfl, rfl, v0a, by omega, mkStep, hid (by rw [hAns]; rfl)⟩
      case round =>
        obtain ⟨k, x, hk1, hk2, rfl, rfl, x0, x1, st, hq⟩ := hrel
        replace hAns := hid hAns
        have xb : x < 8388608 := by
          have : k = 1 ∨ k = 2 ∨ k = 3 ∨ k = 4 := by omega
          rcases this with rfl | rfl | rfl | rfl <;> omega
        by_cases hk : k < 4
        · have hik : i + k < s.size := by omega
          have hB := and_63 (s[i + k].toNat : Int)
          have hy := s[i + k].toNat_lt
          have hg : (R.take 3).drop (k - 1) = s[i + k] :: (R.take 3).drop k := by
            have hl : k - 1 < (R.take 3).length := by rw [List.length_take, hlen.out]; omega
            rw [List.drop_eq_getElem_cons hl, show k - 1 + 1 = k by omega]
            congr 1
            rw [List.getElem_take]
            simp only [hR.out, List.getElem_drop, show i + 1 + (k - 1) = i + k by omega]
            rfl
          rw [hg] at hq
          replace hg := hid hg
          have hx2 : x * 64 + (s[i + k].toNat : Int) % 64 < 32 * 64 ^ (k + 1 - 1) := by
            have : k = 1 ∨ k = 2 ∨ k = 3 := by omega
            rcases this with rfl | rfl | rfl <;> simp at x1 ⊢ <;> omega
          by_cases hc : 128 ≤ (s[i + k].toNat : Int) ∧ (s[i + k].toNat : Int) ≤ 191
          · have hq2 := hid (show A = contV ((R.take 3).drop k) (x * 64 + (s[i + k].toNat : Int) % 64) by rw [hq.out, contV, if_pos hc])
            obtain ⟨r1, r2⟩ := hc
            go_wp2
            go_roundw
            case rel => exact ⟨k + 1, x * 64 + (s[i + k].toNat : Int) % 64, by omega, by omega, by go_num, by go_num, by omega, hx2, mkStep, hq2⟩
            case measure => simp [intOf]; omega
          · have hq2 := hid (show A = none by rw [hq.out, contV, if_neg hc])
            by_cases r1 : (s[i + k].toNat : Int) < 128
            · go_wp2
              go_ret
              exact ⟨by rw [hq2.out]; rfl, mkStep⟩
            · have r2 : (s[i + k].toNat : Int) > 191 := by omega
              go_wp2
              go_ret
              exact ⟨by rw [hq2.out]; rfl, mkStep⟩
        · obtain rfl : k = 4 := by omega
          have hq2 := hid (show A = some x by rw [hq.out, List.drop_of_length_le (by rw [List.length_take]; omega)]; rfl)
          by_cases z1 : x < 65536
          · have zz := hid (show charEnd 4 65536 A = 0 by rw [hq2.out]; exact if_pos (.inl z1))
            go_wp2
            go_ret
            exact ⟨by rw [zz.out]; rfl, mkStep⟩
          by_cases z2 : x > 1114111
          · have zz := hid (show charEnd 4 65536 A = 0 by rw [hq2.out]; exact if_pos (.inr (.inl z2)))
            go_wp2
            go_ret
            exact ⟨by rw [zz.out]; rfl, mkStep⟩
          by_cases z3 : x ≥ 55296
          · by_cases z4 : x ≤ 57343
            · have zz := hid (show charEnd 4 65536 A = 0 by rw [hq2.out]; exact if_pos (.inr (.inr ⟨z3, z4⟩)))
              go_wp2
              go_ret
              exact ⟨by rw [zz.out]; rfl, mkStep⟩
            · have zz := hid (show charEnd 4 65536 A = 4 by rw [hq2.out]; exact if_neg (by omega))
              go_wp2
              go_ret
              exact ⟨by rw [zz.out]; rfl, mkStep⟩
          · have zz := hid (show charEnd 4 65536 A = 4 by rw [hq2.out]; exact if_neg (by omega))
            go_wp2
            go_ret
            exact ⟨by rw [zz.out]; rfl, mkStep⟩
    · have q1 : (i : Int) + 4 > (s.size : Int) := by omega
      have q2 : (4 : Nat) = 0 ∨ R.length + 1 < 4 := by rw [hlen.out]; omega
      simp only [if_pos q2]
      clear q2
      go_wp2
      go_ret
      exact ⟨rfl, mkStep⟩
  have e0 : charHd (s[i].toNat : Int) = (0, 0, 0) := by unfold charHd; rw [if_neg (by omega), if_neg (by omega), if_neg (by omega)]
  rw [e0]
  simp only [true_or, if_true]
  by_cases d1 : (s[i].toNat : Int) < 194
  · go_wp2
    go_ret
    exact ⟨rfl, mkStep⟩
  · go_wp2
    go_ret
    exact ⟨rfl, mkStep⟩
end Go.Proofs.YtpaekgeopmifeaaDoor
