/- Contracts: readers of bytes: the spec's. -/
import Derived.Test.YtgclghhilbnmcaaDoorLebG
import Derived.Test.YtgclghhilbnmcaaDoorMut
import Derived.Test.YtgclghhilbnmcaaDoorInsOk
namespace Go.Proofs.YtgclghhilbnmcaaDoor
attribute [local go_sem ↓] Go.wp_at_zero Go.wp_at_succ
open Go.RowKit
open Rep (Is sz)

/-- What a reader's step comes to: by bad, what was told, where it stands, whether it is bad. -/
def Out (bad : Bool) (o : Option (Int × Nat)) (n : Int) (a : Nat) (bad' : Bool) : Prop :=
  (bad = true → bad' = true) ∧ (bad = false → match o with | some (m, a') => n = m ∧ a = a' ∧ bad' = false | none => bad' = true)
theorem Out.none {o : Option (Int × Nat)} {bad : Bool} {n : Int} {a : Nat} (h : bad = true ∨ o = Option.none) : Out bad o n a true := ⟨fun _ => rfl, fun hb => by rcases h with h | h; exact absurd h (by simp [hb]); subst h; rfl⟩
theorem Out.some {bad : Bool} {n : Int} {a : Nat} : Out bad (Option.some (n, a)) n a bad := ⟨id, fun hb => ⟨rfl, rfl, hb⟩⟩

def byteAt (b : List UInt8) (a : Nat) : Option (Int × Nat) := match b[a]? with
  | Option.some c => Option.some ((c.toNat : Int), a + 1)
  | Option.none => Option.none
theorem byteAt_some {b : List UInt8} {a : Nat} (h : a < b.length) : byteAt b a = Option.some ((b[a].toNat : Int), a + 1) := by unfold byteAt; rw [List.getElem?_eq_getElem h]
theorem byteAt_none {b : List UInt8} {a : Nat} (h : ¬ a < b.length) : byteAt b a = Option.none := by unfold byteAt; rw [List.getElem?_eq_none (by omega)]

/-- A row's block is none of S. -/
theorem apart_ne {b o g : Nat} {l : List UInt8} {F : List Nat} (hF : F = if l = [] then [] else blk (some ⟨b, o, none⟩)) (h : Apart F [g]) (hl : 0 < l.length) : b ≠ g := by
  have hne : l ≠ [] := List.length_pos_iff.1 hl
  rw [if_neg hne] at hF
  have := h.ne b (by rw [hF]; simp [blk])
  simpa using this

theorem sbyte {F : List Nat} {b : List UInt8} {v : Value} (g a : Nat) (bad : Bool) (w : World) (hl : b.length ≤ 1048576) (ha : a ≤ b.length) [hB : BoxAt w g #[v, .int .i64 (a : Int), .bool bad]] [h : Shows w F b [v]] [hA : Apart F [g]] :
    Calls Tryd.prog 55 #[.pointer (some ⟨g, 0, none⟩)] w fun e w' => ∃ (n : Int) (a' : Nat) (bad' : Bool), e = .returned (.int .i64 n) ∧ 0 ≤ n ∧ n < 256 ∧ a' ≤ b.length ∧ Out bad (byteAt b a) n a' bad' ∧ BoxL w' g #[v, .int .i64 (a' : Int), .bool bad'] ∧ StepX [g] w w' := by
  obtain ⟨ad, cap, hv, hF, hvw, hml⟩ := bytes_open h.is
  cases hv
  unfold maxLen at hml
  have bl := hB.l
  have og := bl.old
  have ag := bl.arg
  clear h hB
  go_enter Tryd.func55, Tryd.ntmps55
  go_wp2_with fail
  refine rg_begin0 (n := 10) (by kernel_rfl) rfl fun rg0 => ?_
  refine rg_read (i := 0) (a1 := _) rfl (by kernel_rfl) rfl (by simp) (by intro wq hwq; go_wp2; exact ⟨rfl, rfl⟩) mkStep ?_
  refine rg_read (i := 1) (a1 := _) rfl (by kernel_rfl) rfl (by simp) (by intro wq hwq; go_wp2; exact ⟨rfl, rfl⟩) mkStep ?_
  refine rg_read (i := 2) (a1 := _) rfl (by kernel_rfl) rfl (by simp) (by intro wq hwq; go_wp2; exact ⟨rfl, rfl⟩) mkStep ?_
  refine rg_read (i := 3) (a1 := _) rfl (by kernel_rfl) rfl (by simp) (by intro wq hwq; go_wp2; exact ⟨rfl, rfl⟩) mkStep ?_
  refine rg_read (i := 4) (a1 := _) rfl (by kernel_rfl) rfl (by simp) (by intro wq hwq; go_wp2; exact ⟨rfl, rfl⟩) mkStep ?_
  refine rg_read (i := 5) (a1 := _) rfl (by kernel_rfl) rfl (by simp) (by intro wq hwq; go_wp2; exact ⟨rfl, rfl⟩) mkStep ?_
  refine rg_read (i := 6) (a1 := _) rfl (by kernel_rfl) rfl (by simp) (by intro wq hwq; go_wp2; exact ⟨rfl, rfl⟩) mkStep ?_
  refine rg_read (i := 7) (a1 := _) rfl (by kernel_rfl) rfl (by simp) (by intro wq hwq; go_wp2; exact ⟨rfl, rfl⟩) mkStep ?_
  refine rg_read (i := 8) (a1 := _) rfl (by kernel_rfl) rfl (by simp) (by intro wq hwq; go_wp2; exact ⟨rfl, rfl⟩) mkStep ?_
  refine rg_read (i := 9) (a1 := _) rfl (by kernel_rfl) rfl (by simp) (by intro wq hwq; go_wp2; exact ⟨rfl, rfl⟩) mkStep ?_
  refine rg_done (by kernel_rfl) ?_
  by_cases hlt : a < b.length
  · obtain ⟨bb, oo, rfl, hc, _, ho⟩ := byte_cell hvw a hlt
    have hne := apart_ne hF hA (by omega)
    have hq := hid (byteAt_some hlt)
    have b1 : (0 : Int) ≤ (a : Int) := by omega
    have b2 : (a : Int) < (b.length : Int) := by omega
    clear hF
    go_wp2_with fail
    refine rg_begin0 (n := 13) (by kernel_rfl) rfl fun rg0 => ?_
    refine rg_read (i := 0) (a1 := _) rfl (by kernel_rfl) rfl (by simp) (by intro wq hwq; go_wp2; exact ⟨rfl, rfl⟩) mkStep ?_
    refine rg_read (i := 1) (a1 := _) rfl (by kernel_rfl) rfl (by simp) (by intro wq hwq; go_wp2; exact ⟨rfl, rfl⟩) mkStep ?_
    refine rg_read (i := 2) (a1 := _) rfl (by kernel_rfl) rfl (by simp) (by intro wq hwq; go_wp2; exact ⟨rfl, rfl⟩) mkStep ?_
    refine rg_read (i := 3) (a1 := _) rfl (by kernel_rfl) rfl (by simp) (by intro wq hwq; go_wp2; exact ⟨rfl, rfl⟩) mkStep ?_
    refine rg_read (i := 4) (a1 := _) rfl (by kernel_rfl) rfl (by simp) (by intro wq hwq; go_wp2; exact ⟨rfl, rfl⟩) mkStep ?_
    refine rg_read (i := 5) (a1 := _) rfl (by kernel_rfl) rfl (by simp) (by intro wq hwq; go_wp2; exact ⟨rfl, rfl⟩) mkStep ?_
    refine rg_read (i := 6) (a1 := _) rfl (by kernel_rfl) rfl (by simp) (by intro wq hwq; go_wp2; exact ⟨rfl, rfl⟩) mkStep ?_
    refine rg_read (i := 7) (a1 := _) rfl (by kernel_rfl) rfl (by simp) (by intro wq hwq; go_wp2; exact ⟨rfl, rfl⟩) mkStep ?_
    refine rg_read (i := 8) (a1 := _) rfl (by kernel_rfl) rfl (by simp) (by intro wq hwq; go_wp2; exact ⟨rfl, rfl⟩) mkStep ?_
    refine rg_read (i := 9) (a1 := _) rfl (by kernel_rfl) rfl (by simp) (by intro wq hwq; go_wp2; exact ⟨rfl, rfl⟩) mkStep ?_
    refine rg_read (i := 10) (a1 := _) rfl (by kernel_rfl) rfl (by simp) (by intro wq hwq; go_wp2; exact ⟨rfl, rfl⟩) mkStep ?_
    refine rg_read (i := 11) (a1 := _) rfl (by kernel_rfl) rfl (by simp) (by intro wq hwq; go_wp2; exact ⟨rfl, rfl⟩) mkStep ?_
    refine rg_read (i := 12) (a1 := _) rfl (by kernel_rfl) rfl (by simp) (by intro wq hwq; go_wp2; exact ⟨rfl, rfl⟩) mkStep ?_
    refine rg_done (by kernel_rfl) ?_
    go_wp2
    go_ret
    have hz := UInt8.toNat_lt b[a]
    exact ⟨(b[a].toNat : Int), a + 1, bad, ret_int (wrap64_in (by unfold In64; omega)), by omega, by omega, by omega, by rw [hq.out]; exact Out.some, ⟨(boxSet (w := w) (g := g) (j := 1) (by simp)).is⟩, mkStepX⟩
  · have hq := hid (byteAt_none hlt)
    clear hF
    go_wp2
    go_ret
    exact ⟨0, a, true, rfl, by omega, by omega, ha, Out.none (.inr hq.out), ⟨(boxSet (w := w) (g := g) (j := 2) (by simp)).is⟩, mkStepX⟩

theorem getU_ok {b : List UInt8} {a : Nat} {n : Int} {a' : Nat} (h : getU b a = some (n, a')) : 0 ≤ n ∧ n < 34359738368 ∧ a < a' ∧ a' ≤ b.length := by
  unfold getU at h
  cases hp : pcs b a with
  | none => rw [hp] at h; cases h
  | some t =>
    obtain ⟨n0, c, s⟩ := t
    obtain ⟨o1, o2, o3, o4, o5, o6, o7⟩ := pcs_ok hp
    have o8 : n0 < 34359738368 := Int.lt_of_lt_of_le o2 (by
      have : s = 1 ∨ s = 2 ∨ s = 3 ∨ s = 4 ∨ s = 5 := by omega
      rcases this with rfl | rfl | rfl | rfl | rfl <;> decide)
    rw [hp] at h
    simp only [] at h
    split at h
    · cases h
    · simp only [Option.some.injEq, Prod.mk.injEq] at h
      obtain ⟨rfl, rfl⟩ := h
      exact ⟨o1, o8, by omega, o7⟩
theorem getS_ok {b : List UInt8} {a : Nat} {n : Int} {a' : Nat} (h : getS b a = some (n, a')) : -34359738368 ≤ n ∧ n < 34359738368 ∧ a < a' ∧ a' ≤ b.length := by
  unfold getS at h
  cases hp : pcs b a with
  | none => rw [hp] at h; cases h
  | some t =>
    obtain ⟨n0, c, s⟩ := t
    obtain ⟨o1, o2, o3, o4, o5, o6, o7⟩ := pcs_ok hp
    have o9 : (2 : Int) ^ (7 * s) ≤ 34359738368 := by
      have : s = 1 ∨ s = 2 ∨ s = 3 ∨ s = 4 ∨ s = 5 := by omega
      rcases this with rfl | rfl | rfl | rfl | rfl <;> decide
    rw [hp] at h
    simp only [] at h
    split at h
    · cases h
    · simp only [Option.some.injEq, Prod.mk.injEq] at h
      obtain ⟨rfl, rfl⟩ := h
      refine ⟨?_, ?_, by omega, o7⟩
      · split <;> omega
      · split
        · have : (0 : Int) < 2 ^ (7 * s) := Int.pow_pos (by decide)
          omega
        · omega

theorem sU {F : List Nat} {b : List UInt8} {v : Value} (g a : Nat) (bad : Bool) (w : World) (hl : b.length ≤ 1048576) (ha : a ≤ b.length) [hB : BoxAt w g #[v, .int .i64 (a : Int), .bool bad]] [h : Shows w F b [v]] :
    Calls Tryd.prog 57 #[.pointer (some ⟨g, 0, none⟩)] w fun e w' => ∃ (n : Int) (a' : Nat) (bad' : Bool), e = .returned (.int .i64 n) ∧ -34359738368 ≤ n ∧ n < 34359738368 ∧ a' ≤ b.length ∧ Out bad (getU b a) n a' bad' ∧ BoxL w' g #[v, .int .i64 (a' : Int), .bool bad'] ∧ StepX [g] w w' := by
  have kk := h.known
  have bl := hB.l
  have og := bl.old
  have ag := bl.arg
  clear hB
  obtain ⟨r, hr⟩ : ∃ r, r = getU b a := ⟨_, rfl⟩
  have hI : ∀ w1 : World, Step w w1 → Calls Tryd.prog 90 #[v, .int .i64 (a : Int)] w1 fun e w' => e = .returned (.tuple #[.int .i64 (getR r).1, .int .i64 (getR r).2.1, .bool (getR r).2.2]) ∧ Step w1 w' := fun w1 st => by rw [hr]; exact sgetu a w1 hl ha
  rw [← hr]
  clear h
  go_enter Tryd.func57, Tryd.ntmps57
  cases hq : r with
  | none =>
    replace hI : ∀ w1 : World, Step w w1 → Calls Tryd.prog 90 #[v, .int .i64 (a : Int)] w1 fun e w' => e = .returned (.tuple #[.int .i64 0, .int .i64 0, .bool false]) ∧ Step w1 w' := by rw [hq] at hI; exact hI
    replace hr := hid hr
    replace hq := hid hq
    go_wp2_with fail
    refine rg_begin0 (n := 16) (by kernel_rfl) rfl fun rg0 => ?_
    refine rg_read (i := 0) (a1 := _) rfl (by kernel_rfl) rfl (by simp) (by intro wq hwq; go_wp2; exact ⟨rfl, rfl⟩) mkStep ?_
    refine rg_read (i := 1) (a1 := _) rfl (by kernel_rfl) rfl (by simp) (by intro wq hwq; go_wp2; exact ⟨rfl, rfl⟩) mkStep ?_
    refine rg_read (i := 2) (a1 := _) rfl (by kernel_rfl) rfl (by simp) (by intro wq hwq; go_wp2; exact ⟨rfl, rfl⟩) mkStep ?_
    refine rg_read (i := 3) (a1 := _) rfl (by kernel_rfl) rfl (by simp) (by intro wq hwq; go_wp2; exact ⟨rfl, rfl⟩) mkStep ?_
    refine rg_read (i := 4) (a1 := _) rfl (by kernel_rfl) rfl (by simp) (by intro wq hwq; go_wp2; exact ⟨rfl, rfl⟩) mkStep ?_
    refine rg_read (i := 5) (a1 := _) rfl (by kernel_rfl) rfl (by simp) (by intro wq hwq; go_wp2; exact ⟨rfl, rfl⟩) mkStep ?_
    refine rg_read (i := 6) (a1 := _) rfl (by kernel_rfl) rfl (by simp) (by intro wq hwq; go_wp2; exact ⟨rfl, rfl⟩) mkStep ?_
    refine rg_read (i := 7) (a1 := _) rfl (by kernel_rfl) rfl (by simp) (by intro wq hwq; go_wp2; exact ⟨rfl, rfl⟩) mkStep ?_
    refine rg_eff (i := 8) rfl (by kernel_rfl) ?_
    simp only [List.getElem_toArray, List.getElem_cons_succ, List.getElem_cons_zero]
    go_wp2_with (go_at_call 90; (with_reducible refine Calls.mono (hI _ mkStep) ?_); rintro e wk ⟨rfl, st⟩)
    refine ⟨mkStep, ?_⟩
    refine rg_read (i := 9) (a1 := _) rfl (by kernel_rfl) rfl (by simp) (by intro wq hwq; go_wp2; exact ⟨rfl, rfl⟩) mkStep ?_
    refine rg_read (i := 10) (a1 := _) rfl (by kernel_rfl) rfl (by simp) (by intro wq hwq; go_wp2; exact ⟨rfl, rfl⟩) mkStep ?_
    refine rg_read (i := 11) (a1 := _) rfl (by kernel_rfl) rfl (by simp) (by intro wq hwq; go_wp2; exact ⟨rfl, rfl⟩) mkStep ?_
    refine rg_read (i := 12) (a1 := _) rfl (by kernel_rfl) rfl (by simp) (by intro wq hwq; go_wp2; exact ⟨rfl, rfl⟩) mkStep ?_
    refine rg_read (i := 13) (a1 := _) rfl (by kernel_rfl) rfl (by simp) (by intro wq hwq; go_wp2; exact ⟨rfl, rfl⟩) mkStep ?_
    refine rg_read (i := 14) (a1 := _) rfl (by kernel_rfl) rfl (by simp) (by intro wq hwq; go_wp2; exact ⟨rfl, rfl⟩) mkStep ?_
    refine rg_read (i := 15) (a1 := _) rfl (by kernel_rfl) rfl (by simp) (by intro wq hwq; go_wp2; exact ⟨rfl, rfl⟩) mkStep ?_
    refine rg_done (by kernel_rfl) ?_
    go_wp2
    go_ret
    exact ⟨0, a, true, rfl, by omega, by omega, ha, Out.none (.inr rfl), ⟨(boxSet (w := wk) (g := g) (j := 2) (by simp)).is⟩, mkStepX⟩
  | some t =>
    obtain ⟨n0, a0⟩ := t
    have ho := getU_ok (hr.symm.trans hq)
    replace hI : ∀ w1 : World, Step w w1 → Calls Tryd.prog 90 #[v, .int .i64 (a : Int)] w1 fun e w' => e = .returned (.tuple #[.int .i64 n0, .int .i64 (a0 : Int), .bool true]) ∧ Step w1 w' := by rw [hq] at hI; exact hI
    replace hr := hid hr
    replace hq := hid hq
    go_wp2_with fail
    refine rg_begin0 (n := 16) (by kernel_rfl) rfl fun rg0 => ?_
    refine rg_read (i := 0) (a1 := _) rfl (by kernel_rfl) rfl (by simp) (by intro wq hwq; go_wp2; exact ⟨rfl, rfl⟩) mkStep ?_
    refine rg_read (i := 1) (a1 := _) rfl (by kernel_rfl) rfl (by simp) (by intro wq hwq; go_wp2; exact ⟨rfl, rfl⟩) mkStep ?_
    refine rg_read (i := 2) (a1 := _) rfl (by kernel_rfl) rfl (by simp) (by intro wq hwq; go_wp2; exact ⟨rfl, rfl⟩) mkStep ?_
    refine rg_read (i := 3) (a1 := _) rfl (by kernel_rfl) rfl (by simp) (by intro wq hwq; go_wp2; exact ⟨rfl, rfl⟩) mkStep ?_
    refine rg_read (i := 4) (a1 := _) rfl (by kernel_rfl) rfl (by simp) (by intro wq hwq; go_wp2; exact ⟨rfl, rfl⟩) mkStep ?_
    refine rg_read (i := 5) (a1 := _) rfl (by kernel_rfl) rfl (by simp) (by intro wq hwq; go_wp2; exact ⟨rfl, rfl⟩) mkStep ?_
    refine rg_read (i := 6) (a1 := _) rfl (by kernel_rfl) rfl (by simp) (by intro wq hwq; go_wp2; exact ⟨rfl, rfl⟩) mkStep ?_
    refine rg_read (i := 7) (a1 := _) rfl (by kernel_rfl) rfl (by simp) (by intro wq hwq; go_wp2; exact ⟨rfl, rfl⟩) mkStep ?_
    refine rg_eff (i := 8) rfl (by kernel_rfl) ?_
    simp only [List.getElem_toArray, List.getElem_cons_succ, List.getElem_cons_zero]
    go_wp2_with (go_at_call 90; (with_reducible refine Calls.mono (hI _ mkStep) ?_); rintro e wk ⟨rfl, st⟩)
    refine ⟨mkStep, ?_⟩
    refine rg_read (i := 9) (a1 := _) rfl (by kernel_rfl) rfl (by simp) (by intro wq hwq; go_wp2; exact ⟨rfl, rfl⟩) mkStep ?_
    refine rg_read (i := 10) (a1 := _) rfl (by kernel_rfl) rfl (by simp) (by intro wq hwq; go_wp2; exact ⟨rfl, rfl⟩) mkStep ?_
    refine rg_read (i := 11) (a1 := _) rfl (by kernel_rfl) rfl (by simp) (by intro wq hwq; go_wp2; exact ⟨rfl, rfl⟩) mkStep ?_
    refine rg_read (i := 12) (a1 := _) rfl (by kernel_rfl) rfl (by simp) (by intro wq hwq; go_wp2; exact ⟨rfl, rfl⟩) mkStep ?_
    refine rg_read (i := 13) (a1 := _) rfl (by kernel_rfl) rfl (by simp) (by intro wq hwq; go_wp2; exact ⟨rfl, rfl⟩) mkStep ?_
    refine rg_read (i := 14) (a1 := _) rfl (by kernel_rfl) rfl (by simp) (by intro wq hwq; go_wp2; exact ⟨rfl, rfl⟩) mkStep ?_
    refine rg_read (i := 15) (a1 := _) rfl (by kernel_rfl) rfl (by simp) (by intro wq hwq; go_wp2; exact ⟨rfl, rfl⟩) mkStep ?_
    refine rg_done (by kernel_rfl) ?_
    go_wp2
    go_ret
    exact ⟨n0, a0, bad, rfl, by omega, by omega, by omega, Out.some, ⟨(boxSet (w := wk) (g := g) (j := 1) (by simp)).is⟩, mkStepX⟩

theorem sS {F : List Nat} {b : List UInt8} {v : Value} (g a : Nat) (bad : Bool) (w : World) (hl : b.length ≤ 1048576) (ha : a ≤ b.length) [hB : BoxAt w g #[v, .int .i64 (a : Int), .bool bad]] [h : Shows w F b [v]] :
    Calls Tryd.prog 58 #[.pointer (some ⟨g, 0, none⟩)] w fun e w' => ∃ (n : Int) (a' : Nat) (bad' : Bool), e = .returned (.int .i64 n) ∧ -34359738368 ≤ n ∧ n < 34359738368 ∧ a' ≤ b.length ∧ Out bad (getS b a) n a' bad' ∧ BoxL w' g #[v, .int .i64 (a' : Int), .bool bad'] ∧ StepX [g] w w' := by
  have kk := h.known
  have bl := hB.l
  have og := bl.old
  have ag := bl.arg
  clear hB
  obtain ⟨r, hr⟩ : ∃ r, r = getS b a := ⟨_, rfl⟩
  have hI : ∀ w1 : World, Step w w1 → Calls Tryd.prog 91 #[v, .int .i64 (a : Int)] w1 fun e w' => e = .returned (.tuple #[.int .i64 (getR r).1, .int .i64 (getR r).2.1, .bool (getR r).2.2]) ∧ Step w1 w' := fun w1 st => by rw [hr]; exact sgets a w1 hl ha
  rw [← hr]
  clear h
  go_enter Tryd.func58, Tryd.ntmps58
  cases hq : r with
  | none =>
    replace hI : ∀ w1 : World, Step w w1 → Calls Tryd.prog 91 #[v, .int .i64 (a : Int)] w1 fun e w' => e = .returned (.tuple #[.int .i64 0, .int .i64 0, .bool false]) ∧ Step w1 w' := by rw [hq] at hI; exact hI
    replace hr := hid hr
    replace hq := hid hq
    go_wp2_with fail
    refine rg_begin0 (n := 16) (by kernel_rfl) rfl fun rg0 => ?_
    refine rg_read (i := 0) (a1 := _) rfl (by kernel_rfl) rfl (by simp) (by intro wq hwq; go_wp2; exact ⟨rfl, rfl⟩) mkStep ?_
    refine rg_read (i := 1) (a1 := _) rfl (by kernel_rfl) rfl (by simp) (by intro wq hwq; go_wp2; exact ⟨rfl, rfl⟩) mkStep ?_
    refine rg_read (i := 2) (a1 := _) rfl (by kernel_rfl) rfl (by simp) (by intro wq hwq; go_wp2; exact ⟨rfl, rfl⟩) mkStep ?_
    refine rg_read (i := 3) (a1 := _) rfl (by kernel_rfl) rfl (by simp) (by intro wq hwq; go_wp2; exact ⟨rfl, rfl⟩) mkStep ?_
    refine rg_read (i := 4) (a1 := _) rfl (by kernel_rfl) rfl (by simp) (by intro wq hwq; go_wp2; exact ⟨rfl, rfl⟩) mkStep ?_
    refine rg_read (i := 5) (a1 := _) rfl (by kernel_rfl) rfl (by simp) (by intro wq hwq; go_wp2; exact ⟨rfl, rfl⟩) mkStep ?_
    refine rg_read (i := 6) (a1 := _) rfl (by kernel_rfl) rfl (by simp) (by intro wq hwq; go_wp2; exact ⟨rfl, rfl⟩) mkStep ?_
    refine rg_read (i := 7) (a1 := _) rfl (by kernel_rfl) rfl (by simp) (by intro wq hwq; go_wp2; exact ⟨rfl, rfl⟩) mkStep ?_
    refine rg_eff (i := 8) rfl (by kernel_rfl) ?_
    simp only [List.getElem_toArray, List.getElem_cons_succ, List.getElem_cons_zero]
    go_wp2_with (go_at_call 91; (with_reducible refine Calls.mono (hI _ mkStep) ?_); rintro e wk ⟨rfl, st⟩)
    refine ⟨mkStep, ?_⟩
    refine rg_read (i := 9) (a1 := _) rfl (by kernel_rfl) rfl (by simp) (by intro wq hwq; go_wp2; exact ⟨rfl, rfl⟩) mkStep ?_
    refine rg_read (i := 10) (a1 := _) rfl (by kernel_rfl) rfl (by simp) (by intro wq hwq; go_wp2; exact ⟨rfl, rfl⟩) mkStep ?_
    refine rg_read (i := 11) (a1 := _) rfl (by kernel_rfl) rfl (by simp) (by intro wq hwq; go_wp2; exact ⟨rfl, rfl⟩) mkStep ?_
    refine rg_read (i := 12) (a1 := _) rfl (by kernel_rfl) rfl (by simp) (by intro wq hwq; go_wp2; exact ⟨rfl, rfl⟩) mkStep ?_
    refine rg_read (i := 13) (a1 := _) rfl (by kernel_rfl) rfl (by simp) (by intro wq hwq; go_wp2; exact ⟨rfl, rfl⟩) mkStep ?_
    refine rg_read (i := 14) (a1 := _) rfl (by kernel_rfl) rfl (by simp) (by intro wq hwq; go_wp2; exact ⟨rfl, rfl⟩) mkStep ?_
    refine rg_read (i := 15) (a1 := _) rfl (by kernel_rfl) rfl (by simp) (by intro wq hwq; go_wp2; exact ⟨rfl, rfl⟩) mkStep ?_
    refine rg_done (by kernel_rfl) ?_
    go_wp2
    go_ret
    exact ⟨0, a, true, rfl, by omega, by omega, ha, Out.none (.inr rfl), ⟨(boxSet (w := wk) (g := g) (j := 2) (by simp)).is⟩, mkStepX⟩
  | some t =>
    obtain ⟨n0, a0⟩ := t
    have ho := getS_ok (hr.symm.trans hq)
    replace hI : ∀ w1 : World, Step w w1 → Calls Tryd.prog 91 #[v, .int .i64 (a : Int)] w1 fun e w' => e = .returned (.tuple #[.int .i64 n0, .int .i64 (a0 : Int), .bool true]) ∧ Step w1 w' := by rw [hq] at hI; exact hI
    replace hr := hid hr
    replace hq := hid hq
    go_wp2_with fail
    refine rg_begin0 (n := 16) (by kernel_rfl) rfl fun rg0 => ?_
    refine rg_read (i := 0) (a1 := _) rfl (by kernel_rfl) rfl (by simp) (by intro wq hwq; go_wp2; exact ⟨rfl, rfl⟩) mkStep ?_
    refine rg_read (i := 1) (a1 := _) rfl (by kernel_rfl) rfl (by simp) (by intro wq hwq; go_wp2; exact ⟨rfl, rfl⟩) mkStep ?_
    refine rg_read (i := 2) (a1 := _) rfl (by kernel_rfl) rfl (by simp) (by intro wq hwq; go_wp2; exact ⟨rfl, rfl⟩) mkStep ?_
    refine rg_read (i := 3) (a1 := _) rfl (by kernel_rfl) rfl (by simp) (by intro wq hwq; go_wp2; exact ⟨rfl, rfl⟩) mkStep ?_
    refine rg_read (i := 4) (a1 := _) rfl (by kernel_rfl) rfl (by simp) (by intro wq hwq; go_wp2; exact ⟨rfl, rfl⟩) mkStep ?_
    refine rg_read (i := 5) (a1 := _) rfl (by kernel_rfl) rfl (by simp) (by intro wq hwq; go_wp2; exact ⟨rfl, rfl⟩) mkStep ?_
    refine rg_read (i := 6) (a1 := _) rfl (by kernel_rfl) rfl (by simp) (by intro wq hwq; go_wp2; exact ⟨rfl, rfl⟩) mkStep ?_
    refine rg_read (i := 7) (a1 := _) rfl (by kernel_rfl) rfl (by simp) (by intro wq hwq; go_wp2; exact ⟨rfl, rfl⟩) mkStep ?_
    refine rg_eff (i := 8) rfl (by kernel_rfl) ?_
    simp only [List.getElem_toArray, List.getElem_cons_succ, List.getElem_cons_zero]
    go_wp2_with (go_at_call 91; (with_reducible refine Calls.mono (hI _ mkStep) ?_); rintro e wk ⟨rfl, st⟩)
    refine ⟨mkStep, ?_⟩
    refine rg_read (i := 9) (a1 := _) rfl (by kernel_rfl) rfl (by simp) (by intro wq hwq; go_wp2; exact ⟨rfl, rfl⟩) mkStep ?_
    refine rg_read (i := 10) (a1 := _) rfl (by kernel_rfl) rfl (by simp) (by intro wq hwq; go_wp2; exact ⟨rfl, rfl⟩) mkStep ?_
    refine rg_read (i := 11) (a1 := _) rfl (by kernel_rfl) rfl (by simp) (by intro wq hwq; go_wp2; exact ⟨rfl, rfl⟩) mkStep ?_
    refine rg_read (i := 12) (a1 := _) rfl (by kernel_rfl) rfl (by simp) (by intro wq hwq; go_wp2; exact ⟨rfl, rfl⟩) mkStep ?_
    refine rg_read (i := 13) (a1 := _) rfl (by kernel_rfl) rfl (by simp) (by intro wq hwq; go_wp2; exact ⟨rfl, rfl⟩) mkStep ?_
    refine rg_read (i := 14) (a1 := _) rfl (by kernel_rfl) rfl (by simp) (by intro wq hwq; go_wp2; exact ⟨rfl, rfl⟩) mkStep ?_
    refine rg_read (i := 15) (a1 := _) rfl (by kernel_rfl) rfl (by simp) (by intro wq hwq; go_wp2; exact ⟨rfl, rfl⟩) mkStep ?_
    refine rg_done (by kernel_rfl) ?_
    go_wp2
    go_ret
    exact ⟨n0, a0, bad, rfl, by omega, by omega, by omega, Out.some, ⟨(boxSet (w := wk) (g := g) (j := 1) (by simp)).is⟩, mkStepX⟩

/-- Must: whether the byte is the one that was wanted. -/
def OutM (bad : Bool) (o : Option (Int × Nat)) (x : Int) (a : Nat) (bad' : Bool) : Prop :=
  (bad = true → bad' = true) ∧ (bad = false → match o with | some (m, a') => if m = x then a = a' ∧ bad' = false else bad' = true | none => bad' = true)
theorem OutM.eq {bad : Bool} {o : Option (Int × Nat)} {x : Int} {a : Nat} {bad' : Bool} (h : Out bad o x a bad') : OutM bad o x a bad' := ⟨h.1, fun hb => by
  have h2 := h.2 hb
  cases o with
  | none => exact h2
  | some t => obtain ⟨m, c⟩ := t; obtain ⟨p1, p2, p3⟩ := h2; exact (if_pos p1.symm).mpr ⟨p2, p3⟩⟩
theorem OutM.ne {bad : Bool} {o : Option (Int × Nat)} {n x : Int} {a : Nat} {bad' : Bool} (h : Out bad o n a bad') (hn : ¬ n = x) : OutM bad o x a true := ⟨fun _ => rfl, fun hb => by
  have h2 := h.2 hb
  cases o with
  | none => rfl
  | some t => obtain ⟨m, c⟩ := t; obtain ⟨p1, p2, p3⟩ := h2; subst p1; exact (if_neg hn).mpr rfl⟩
theorem smust {F : List Nat} {b : List UInt8} {v : Value} (g a : Nat) (bad : Bool) (x : Int) (w : World) (hl : b.length ≤ 1048576) (ha : a ≤ b.length) [hB : BoxAt w g #[v, .int .i64 (a : Int), .bool bad]] [h : Shows w F b [v]] [hA : Apart F [g]] :
    Calls Tryd.prog 59 #[.pointer (some ⟨g, 0, none⟩), .int .i64 x] w fun e w' => ∃ (a' : Nat) (bad' : Bool), e = .returned (.tuple #[]) ∧ a' ≤ b.length ∧ OutM bad (byteAt b a) x a' bad' ∧ BoxL w' g #[v, .int .i64 (a' : Int), .bool bad'] ∧ StepX [g] w w' := by
  have kk := h.known
  have bl := hB.l
  have og := bl.old
  have ag := bl.arg
  clear hB h
  go_enter Tryd.func59, Tryd.ntmps59
  go_wp2_with fail
  with_reducible refine Calls.mono (sbyte _ _ _ _ (by omega) (by omega)) ?_
  rintro e w2 ⟨n, a', bad', rfl, hn0, hn1, ha', hout, bx, st⟩
  by_cases hx : n = x
  · subst hx
    go_wp2
    refine bodyPost_end (results_none rfl _ _ _) rfl ?_
    exact ⟨a', bad', rfl, ha', OutM.eq hout, bx, st⟩
  · go_wp2
    refine bodyPost_end (results_none rfl _ _ _) rfl ?_
    exact ⟨a', true, rfl, ha', OutM.ne hout hx, ⟨(boxSet (w := w2) (g := g) (j := 2) (by simp)).is⟩, mkStepX⟩
end Go.Proofs.YtgclghhilbnmcaaDoor
