/- Contracts: the cursor of the laws' draws: that it returns, and within which bounds. (Its walks lean on the seat's slots: look at them when it is built anew.) -/
import Derived.Test.YtbijeibcchbcpaaDoorLeb
import Derived.Test.YtbijeibcchbcpaaDoorMut
import Derived.Test.YtbijeibcchbcpaaDoorAppY
namespace Go.Proofs.YtbijeibcchbcpaaDoor
attribute [local go_sem ↓] Go.wp_at_zero Go.wp_at_succ
open Go.RowKit
open Rep (Is sz)

theorem and_255 (n : Int) : bits .and .i64 n 255 = n % 256 := by
  have h127 : (BitVec.ofInt 64 255).toNat = 2 ^ 8 - 1 := by decide
  have key : (BitVec.ofInt 64 n &&& BitVec.ofInt 64 255).toNat = (n % ((2 ^ 64 : Nat) : Int)).toNat % 2 ^ 8 := by
    rw [BitVec.toNat_and, BitVec.toNat_ofInt, h127, Nat.and_two_pow_sub_one_eq_mod]
  show IntKind.i64.wrap ((BitVec.ofInt 64 n &&& BitVec.ofInt 64 255).toNat : Nat) = n % 256
  rw [key, IntKind.wrap_i64]
  omega
theorem and_30 (n : Int) : bits .and .i64 n 1073741823 = n % 1073741824 := by
  have h127 : (BitVec.ofInt 64 1073741823).toNat = 2 ^ 30 - 1 := by decide
  have key : (BitVec.ofInt 64 n &&& BitVec.ofInt 64 1073741823).toNat = (n % ((2 ^ 64 : Nat) : Int)).toNat % 2 ^ 30 := by
    rw [BitVec.toNat_and, BitVec.toNat_ofInt, h127, Nat.and_two_pow_sub_one_eq_mod]
  show IntKind.i64.wrap ((BitVec.ofInt 64 n &&& BitVec.ofInt 64 1073741823).toNat : Nat) = n % 1073741824
  rw [key, IntKind.wrap_i64]
  omega

set_option maxRecDepth 10000 in
theorem snew {F : List Nat} {v : Value} (bs : List UInt8) (w : World) (hl : bs.length ≤ 1048576) [h : Shows w F bs [v]] :
    Calls Tryd.prog 9 #[v] w fun e w' => ∃ (p : Nat) (hh : Int), e = .returned (.pointer (some ⟨p, 0, none⟩)) ∧ BoxL w' p #[v, .int .i64 0, .int .i64 hh] ∧ w.heap.size ≤ p ∧ In64 hh ∧ Step w w' := by
  have kk := h.known
  obtain ⟨ad, cap, hv, _, hvw, hml⟩ := bytes_open h.is
  cases hv
  clear h
  unfold maxLen at hml
  go_enter Tryd.func9, Tryd.ntmps9
  go_wp2
  go_loopw [3, 4] (fun q i wr => ∃ (k : Nat) (x : Int), k ≤ bs.length ∧ i = .int .i64 k ∧ q = .int .i64 x ∧ 0 ≤ x ∧ x ≤ 1073741823 ∧ Step w wr) (fun _ i _ => bs.length - (intOf i).toNat)
  case atStart => exact ⟨0, 790001 + bs.length, by omega, rfl, rfl, by omega, by omega, mkStep⟩
  case round =>
    obtain ⟨k, x, hk, rfl, rfl, hx0, hx1, st⟩ := hrel
    by_cases h1 : k < bs.length
    · by_cases h2 : k < 4000
      · obtain ⟨b, o, rfl, hc, _⟩ := byte_cell hvw k h1
        have og : Old b w := ⟨block_lt_of_cell hc⟩
        have e1 := and_30 (x * 163 + (bs[k].toNat : Int) + 7)
        have hb := bs[k].toNat_lt
        obtain ⟨y, hy⟩ : ∃ y, (x * 163 + (bs[k].toNat : Int) + 7) % 1073741824 = y := ⟨_, rfl⟩
        have y0 : 0 ≤ y ∧ y ≤ 1073741823 := by omega
        rw [hy] at e1
        replace hy := hid hy
        have h2b : decide ((k : Int) < 4000) = true := decide_eq_true (by omega)
        replace h2 := hid h2
        go_wp2
        go_roundw
        case rel => exact ⟨k + 1, y, by omega, by go_num, rfl, y0.1, y0.2, mkStep⟩
        case measure => simp [intOf]; omega
      · have h2b : decide ((k : Int) < 4000) = false := decide_eq_false (by omega)
        replace h2 := hid h2
        go_wp2
        go_ret
        exact ⟨_, x, rfl, ⟨Box.new _ _ _⟩, st.fr.size, by unfold In64; omega, mkStep⟩
    · go_wp2
      go_ret
      exact ⟨_, x, rfl, ⟨Box.new _ _ _⟩, st.fr.size, by unfold In64; omega, mkStep⟩

set_option maxRecDepth 10000 in
theorem sbyte1 {F : List Nat} {p cap : Nat} {ad : Option Addr} {hh : Int} (bs : List UInt8) (i : Nat) (w : World) (hi : i ≤ bs.length) [h : Shows w F bs [.slice ad bs.length cap]] [b : BoxAt w p #[.slice ad bs.length cap, .int .i64 i, .int .i64 hh]] [ap : Apart F [p]] :
    Calls Tryd.prog 20 #[.pointer (some ⟨p, 0, none⟩)] w fun e w' => ∃ (x : Int) (i' : Nat) (h' : Int), 0 ≤ x ∧ x ≤ 255 ∧ e = .returned (.int .i64 x) ∧ i' ≤ bs.length ∧ In64 h' ∧ BoxL w' p #[.slice ad bs.length cap, .int .i64 i', .int .i64 h'] ∧ StepX [p] w w' := by
  have bl := b.l
  have ag := bl.arg
  obtain ⟨ad', cap', hv, hF, hvw, hml⟩ := bytes_open h.is
  cases hv
  clear h
  unfold maxLen at hml
  obtain ⟨h1, eh⟩ : ∃ q, wrap64 (wrap64 (hh * 6364136223846793005) + 1442695040888963407) = q := ⟨_, rfl⟩
  have hh1 : In64 h1 := by rw [← eh]; unfold wrap64 In64; omega
  obtain ⟨x1, hx1⟩ : ∃ q, bits .xor .i64 (h1 / 8589934592) (h1 / 35184372088832) % 256 = q := ⟨_, rfl⟩
  have hxb : 0 ≤ x1 ∧ x1 ≤ 255 := by omega
  have e1 := and_255 (bits .xor .i64 (h1 / 8589934592) (h1 / 35184372088832))
  rw [hx1] at e1
  replace hx1 := hid hx1
  have b1 : BoxL (w.setCell ⟨p, 2, none⟩ (.int .i64 h1)) p #[.slice ad bs.length cap, .int .i64 i, .int .i64 h1] := boxSet rfl
  have s1 : StepX [p] w (w.setCell ⟨p, 2, none⟩ (.int .i64 h1)) := mkStepX
  go_enter Tryd.func20, Tryd.ntmps20
  go_wp2_with fail
  refine wp_name ?_
  intro A sA
  have b2 : BoxL A p #[.slice ad bs.length cap, .int .i64 i, .int .i64 h1] := boxOf
  have op : Old p A := b2.old
  by_cases hlt : i < bs.length
  · obtain ⟨b0, o, rfl, hc, _⟩ := byte_cell hvw i hlt
    have nb : b0 ∉ [p] := ap.ne b0 (by rw [hF, if_neg (by intro e; rw [e] at hlt; simp at hlt)]; simp [blk])
    have cA : A.cell? ⟨b0, o + i, none⟩ = some (.int .u8 bs[i].toNat) := (s1.fr.trans0 sA.fr).cell_some hc nb
    have oA : Old b0 A := ⟨block_lt_of_cell cA⟩
    have hbt := bs[i].toNat_lt
    obtain ⟨x2, hx2⟩ : ∃ q, (x1 + (bs[i].toNat : Int)) % 256 = q := ⟨_, rfl⟩
    have hxb2 : 0 ≤ x2 ∧ x2 ≤ 255 := by omega
    have e2 := and_255 (x1 + (bs[i].toNat : Int))
    rw [hx2] at e2
    replace hx2 := hid hx2
    refine rg_begin0 (n := 13) (by kernel_rfl) rfl fun rg0 => ?_
    refine rg_read (i := 0) (a1 := _) rfl (by kernel_rfl) rfl (by simp) (by intro wq hwq; go_wp2; exact ⟨rfl, rfl⟩) mkStep ?_
    refine rg_read (i := 1) (a1 := _) rfl (by kernel_rfl) rfl (by simp) (by intro wq hwq; go_wp2; exact ⟨rfl, rfl⟩) mkStep ?_
    refine rg_read (i := 2) (a1 := _) rfl (by kernel_rfl) rfl (by simp) (by intro wq hwq; go_wp2; exact ⟨rfl, rfl⟩) mkStep ?_
    refine rg_read (i := 3) (a1 := _) rfl (by kernel_rfl) rfl (by simp) (by intro wq hwq; go_wp2; exact ⟨rfl, rfl⟩) mkStep ?_
    refine rg_read (i := 4) (a1 := _) rfl (by kernel_rfl) rfl (by simp) (by intro wq hwq; go_wp2; exact ⟨rfl, rfl⟩) mkStep ?_
    refine rg_read (i := 5) (a1 := _) rfl (by kernel_rfl) rfl (by simp) (by intro wq hwq; go_wp2; exact ⟨rfl, rfl⟩) mkStep ?_
    refine rg_read (i := 6) (a1 := _) rfl (by kernel_rfl) rfl (by simp) (by intro wq hwq; go_wp2; exact ⟨rfl, rfl⟩) mkStep ?_
    refine rg_read (i := 7) (a1 := _) rfl (by kernel_rfl) rfl (by simp) (by intro wq hwq; go_wp2; exact ⟨rfl, rfl⟩) mkStep ?_
    refine rg_read (i := 8) (a1 := _) rfl (by kernel_rfl) rfl (by simp) (by intro wq hwq; go_wp2; exact ⟨rfl, rfl⟩) mkStep ?_
    refine rg_read (i := 9) (a1 := _) rfl (by kernel_rfl) rfl (by simp) (by intro wq hwq; go_wp2; exact ⟨rfl, rfl⟩) mkStep ?_
    refine rg_read (i := 10) (a1 := _) rfl (by kernel_rfl) rfl (by simp) (by intro wq hwq; go_wp2; exact ⟨rfl, rfl⟩) mkStep ?_
    refine rg_read (i := 11) (a1 := _) rfl (by kernel_rfl) rfl (by simp) (by intro wq hwq; go_wp2; exact ⟨rfl, rfl⟩) mkStep ?_
    refine rg_read (i := 12) (a1 := _) rfl (by kernel_rfl) rfl (by simp) (by intro wq hwq; go_wp2; exact ⟨rfl, rfl⟩) mkStep ?_
    refine rg_done (by kernel_rfl) ?_
    go_wp2_with fail
    refine rg_begin0 (n := 10) (by kernel_rfl) rfl fun rg0 => ?_
    refine rg_read (i := 0) (a1 := _) rfl (by kernel_rfl) rfl (by simp) (by intro wq hwq; go_wp2; exact ⟨rfl, rfl⟩) mkStep ?_
    refine rg_read (i := 1) (a1 := _) rfl (by kernel_rfl) rfl (by simp) (by intro wq hwq; go_wp2; exact ⟨rfl, rfl⟩) mkStep ?_
    refine rg_read (i := 2) (a1 := _) rfl (by kernel_rfl) rfl (by simp) (by intro wq hwq; go_wp2; exact ⟨rfl, rfl⟩) mkStep ?_
    refine rg_read (i := 3) (a1 := _) rfl (by kernel_rfl) rfl (by simp) (by intro wq hwq; go_wp2; exact ⟨rfl, rfl⟩) mkStep ?_
    refine rg_read (i := 4) (a1 := _) rfl (by kernel_rfl) rfl (by simp) (by intro wq hwq; go_wp2; exact ⟨rfl, rfl⟩) mkStep ?_
    refine rg_read (i := 5) (a1 := _) rfl (by kernel_rfl) rfl (by simp) (by intro wq hwq; go_wp2; exact ⟨rfl, rfl⟩) mkStep ?_
    refine rg_read (i := 6) (a1 := _) rfl (by kernel_rfl) rfl (by simp) (by intro wq hwq; go_wp2; exact ⟨rfl, rfl⟩) mkStep ?_
    refine rg_read (i := 7) (a1 := _) rfl (by kernel_rfl) rfl (by simp) (by intro wq hwq; go_wp2; exact ⟨rfl, rfl⟩) mkStep ?_
    refine rg_read (i := 8) (a1 := _) rfl (by kernel_rfl) rfl (by simp) (by intro wq hwq; go_wp2; exact ⟨rfl, rfl⟩) mkStep ?_
    refine rg_read (i := 9) (a1 := _) rfl (by kernel_rfl) rfl (by simp) (by intro wq hwq; go_wp2; exact ⟨rfl, rfl⟩) mkStep ?_
    refine rg_done (by kernel_rfl) ?_
    go_wp2_with fail
    refine rg_begin0 (n := 15) (by kernel_rfl) rfl fun rg0 => ?_
    refine rg_read (i := 0) (a1 := _) rfl (by kernel_rfl) rfl (by simp) (by intro wq hwq; go_wp2; exact ⟨rfl, rfl⟩) mkStep ?_
    refine rg_read (i := 1) (a1 := _) rfl (by kernel_rfl) rfl (by simp) (by intro wq hwq; go_wp2; exact ⟨rfl, rfl⟩) mkStep ?_
    refine rg_read (i := 2) (a1 := _) rfl (by kernel_rfl) rfl (by simp) (by intro wq hwq; go_wp2; exact ⟨rfl, rfl⟩) mkStep ?_
    refine rg_read (i := 3) (a1 := _) rfl (by kernel_rfl) rfl (by simp) (by intro wq hwq; go_wp2; exact ⟨rfl, rfl⟩) mkStep ?_
    refine rg_read (i := 4) (a1 := _) rfl (by kernel_rfl) rfl (by simp) (by intro wq hwq; go_wp2; exact ⟨rfl, rfl⟩) mkStep ?_
    refine rg_read (i := 5) (a1 := _) rfl (by kernel_rfl) rfl (by simp) (by intro wq hwq; go_wp2; exact ⟨rfl, rfl⟩) mkStep ?_
    refine rg_read (i := 6) (a1 := _) rfl (by kernel_rfl) rfl (by simp) (by intro wq hwq; go_wp2; exact ⟨rfl, rfl⟩) mkStep ?_
    refine rg_read (i := 7) (a1 := _) rfl (by kernel_rfl) rfl (by simp) (by intro wq hwq; go_wp2; exact ⟨rfl, rfl⟩) mkStep ?_
    refine rg_read (i := 8) (a1 := _) rfl (by kernel_rfl) rfl (by simp) (by intro wq hwq; go_wp2; exact ⟨rfl, rfl⟩) mkStep ?_
    refine rg_read (i := 9) (a1 := _) rfl (by kernel_rfl) rfl (by simp) (by intro wq hwq; go_wp2; exact ⟨rfl, rfl⟩) mkStep ?_
    refine rg_read (i := 10) (a1 := _) rfl (by kernel_rfl) rfl (by simp) (by intro wq hwq; go_wp2; exact ⟨rfl, rfl⟩) mkStep ?_
    refine rg_read (i := 11) (a1 := _) rfl (by kernel_rfl) rfl (by simp) (by intro wq hwq; go_wp2; exact ⟨rfl, rfl⟩) mkStep ?_
    refine rg_read (i := 12) (a1 := _) rfl (by kernel_rfl) rfl (by simp) (by intro wq hwq; go_wp2; exact ⟨rfl, rfl⟩) mkStep ?_
    refine rg_read (i := 13) (a1 := _) rfl (by kernel_rfl) rfl (by simp) (by intro wq hwq; go_wp2; exact ⟨rfl, rfl⟩) mkStep ?_
    refine rg_read (i := 14) (a1 := _) rfl (by kernel_rfl) rfl (by simp) (by intro wq hwq; go_wp2; exact ⟨rfl, rfl⟩) mkStep ?_
    refine rg_done (by kernel_rfl) ?_
    go_wp2
    go_ret
    have b5 : BoxL (A.setCell ⟨p, 1, none⟩ (.int .i64 ((i : Int) + 1))) p #[.slice (some ⟨b0, o, none⟩) bs.length cap, .int .i64 ((i + 1 : Nat) : Int), .int .i64 h1] := boxSet rfl
    exact ⟨x2, i + 1, h1, hxb2.1, hxb2.2, rfl, by omega, hh1, boxOf, mkStepX⟩
  · skip
    refine rg_begin0 (n := 13) (by kernel_rfl) rfl fun rg0 => ?_
    refine rg_read (i := 0) (a1 := _) rfl (by kernel_rfl) rfl (by simp) (by intro wq hwq; go_wp2; exact ⟨rfl, rfl⟩) mkStep ?_
    refine rg_read (i := 1) (a1 := _) rfl (by kernel_rfl) rfl (by simp) (by intro wq hwq; go_wp2; exact ⟨rfl, rfl⟩) mkStep ?_
    refine rg_read (i := 2) (a1 := _) rfl (by kernel_rfl) rfl (by simp) (by intro wq hwq; go_wp2; exact ⟨rfl, rfl⟩) mkStep ?_
    refine rg_read (i := 3) (a1 := _) rfl (by kernel_rfl) rfl (by simp) (by intro wq hwq; go_wp2; exact ⟨rfl, rfl⟩) mkStep ?_
    refine rg_read (i := 4) (a1 := _) rfl (by kernel_rfl) rfl (by simp) (by intro wq hwq; go_wp2; exact ⟨rfl, rfl⟩) mkStep ?_
    refine rg_read (i := 5) (a1 := _) rfl (by kernel_rfl) rfl (by simp) (by intro wq hwq; go_wp2; exact ⟨rfl, rfl⟩) mkStep ?_
    refine rg_read (i := 6) (a1 := _) rfl (by kernel_rfl) rfl (by simp) (by intro wq hwq; go_wp2; exact ⟨rfl, rfl⟩) mkStep ?_
    refine rg_read (i := 7) (a1 := _) rfl (by kernel_rfl) rfl (by simp) (by intro wq hwq; go_wp2; exact ⟨rfl, rfl⟩) mkStep ?_
    refine rg_read (i := 8) (a1 := _) rfl (by kernel_rfl) rfl (by simp) (by intro wq hwq; go_wp2; exact ⟨rfl, rfl⟩) mkStep ?_
    refine rg_read (i := 9) (a1 := _) rfl (by kernel_rfl) rfl (by simp) (by intro wq hwq; go_wp2; exact ⟨rfl, rfl⟩) mkStep ?_
    refine rg_read (i := 10) (a1 := _) rfl (by kernel_rfl) rfl (by simp) (by intro wq hwq; go_wp2; exact ⟨rfl, rfl⟩) mkStep ?_
    refine rg_read (i := 11) (a1 := _) rfl (by kernel_rfl) rfl (by simp) (by intro wq hwq; go_wp2; exact ⟨rfl, rfl⟩) mkStep ?_
    refine rg_read (i := 12) (a1 := _) rfl (by kernel_rfl) rfl (by simp) (by intro wq hwq; go_wp2; exact ⟨rfl, rfl⟩) mkStep ?_
    refine rg_done (by kernel_rfl) ?_
    go_wp2_with fail
    refine rg_begin0 (n := 10) (by kernel_rfl) rfl fun rg0 => ?_
    refine rg_read (i := 0) (a1 := _) rfl (by kernel_rfl) rfl (by simp) (by intro wq hwq; go_wp2; exact ⟨rfl, rfl⟩) mkStep ?_
    refine rg_read (i := 1) (a1 := _) rfl (by kernel_rfl) rfl (by simp) (by intro wq hwq; go_wp2; exact ⟨rfl, rfl⟩) mkStep ?_
    refine rg_read (i := 2) (a1 := _) rfl (by kernel_rfl) rfl (by simp) (by intro wq hwq; go_wp2; exact ⟨rfl, rfl⟩) mkStep ?_
    refine rg_read (i := 3) (a1 := _) rfl (by kernel_rfl) rfl (by simp) (by intro wq hwq; go_wp2; exact ⟨rfl, rfl⟩) mkStep ?_
    refine rg_read (i := 4) (a1 := _) rfl (by kernel_rfl) rfl (by simp) (by intro wq hwq; go_wp2; exact ⟨rfl, rfl⟩) mkStep ?_
    refine rg_read (i := 5) (a1 := _) rfl (by kernel_rfl) rfl (by simp) (by intro wq hwq; go_wp2; exact ⟨rfl, rfl⟩) mkStep ?_
    refine rg_read (i := 6) (a1 := _) rfl (by kernel_rfl) rfl (by simp) (by intro wq hwq; go_wp2; exact ⟨rfl, rfl⟩) mkStep ?_
    refine rg_read (i := 7) (a1 := _) rfl (by kernel_rfl) rfl (by simp) (by intro wq hwq; go_wp2; exact ⟨rfl, rfl⟩) mkStep ?_
    refine rg_read (i := 8) (a1 := _) rfl (by kernel_rfl) rfl (by simp) (by intro wq hwq; go_wp2; exact ⟨rfl, rfl⟩) mkStep ?_
    refine rg_read (i := 9) (a1 := _) rfl (by kernel_rfl) rfl (by simp) (by intro wq hwq; go_wp2; exact ⟨rfl, rfl⟩) mkStep ?_
    refine rg_done (by kernel_rfl) ?_
    go_wp2
    go_ret
    exact ⟨x1, i, h1, hxb.1, hxb.2, rfl, hi, hh1, boxOf, mkStepX⟩

theorem sbelow {F : List Nat} {p cap : Nat} {ad : Option Addr} {hh : Int} (bs : List UInt8) (i : Nat) (n : Int) (w : World) (hn : 1 ≤ n ∧ n ≤ 256) (hi : i ≤ bs.length) [h : Shows w F bs [.slice ad bs.length cap]] [b : BoxAt w p #[.slice ad bs.length cap, .int .i64 i, .int .i64 hh]] [ap : Apart F [p]] :
    Calls Tryd.prog 11 #[.pointer (some ⟨p, 0, none⟩), .int .i64 n] w fun e w' => ∃ (x i' : Nat) (h' : Int), (x : Int) < n ∧ e = .returned (.int .i64 (x : Int)) ∧ i' ≤ bs.length ∧ In64 h' ∧ BoxL w' p #[.slice ad bs.length cap, .int .i64 i', .int .i64 h'] ∧ StepX [p] w w' := by
  have hk := h.known
  have bl := b.l
  go_enter Tryd.func11, Tryd.ntmps11
  go_wp2_with fail
  with_reducible refine Calls.mono (sbyte1 bs i _ hi) ?_
  rintro e w1 ⟨x, i', h', hx0, hx1, rfl, hi', hh', b1, st1⟩
  have hm0 : 0 ≤ x % n := Int.emod_nonneg _ (by omega)
  have hm1 : x % n < n := Int.emod_lt_of_pos _ (by omega)
  obtain ⟨y, hy⟩ : ∃ y : Nat, x % n = (y : Int) := ⟨(x % n).toNat, by omega⟩
  rw [hy] at hm1
  go_wp2
  go_ret
  exact ⟨y, i', h', hm1, ret_int hy, hi', hh', boxOf, mkStepX⟩

theorem Tryd.bytes_tabC : Tryd.prog.underlying 22 = some (.slice 5) ∧ (Tryd.prog.info? 5).map (fun i => (i.zero, i.size, i.bytes)) = some (some (.int .u8 0), 1, 1) ∧ (Value.int .u8 0).cells.size = 1 ∧ 0 < 1 ∧ 0 < 1 :=
  ⟨by kernel_rfl, by kernel_rfl, rfl, by decide, by decide⟩
theorem byte_enc (x : Int) (h0 : 0 ≤ x) (h1 : x ≤ 255) : ∃ b : UInt8, x = (b.toNat : Int) := ⟨UInt8.ofNat x.toNat, by rw [UInt8.toNat_ofNat']; omega⟩
theorem bytes_flat (l : List UInt8) : (l.flatMap fun b => [Value.int .u8 b.toNat]) = byteVs l := by
  induction l with
  | nil => rfl
  | cons b l ih => rw [List.flatMap_cons, ih]; rfl

end Go.Proofs.YtbijeibcchbcpaaDoor
