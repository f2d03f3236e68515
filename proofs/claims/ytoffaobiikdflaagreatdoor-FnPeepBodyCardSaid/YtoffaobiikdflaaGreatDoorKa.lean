/- Contracts: the cursor of the laws' draws: that it returns, and within which bounds. (Its walks lean on the seat's slots: look at them when it is built anew.) The cursor of the laws' draws, its state left open: that it stands, and within which bounds it draws. A row of one's own that may begin within its block; append to it. Contracts: GetU, GetS, both sides. Contracts: readers of bytes: the spec's. Contracts: the spec's reader of an instruction. Draws of instructions: that they return, and within which bounds. Draws of bodies: that they return, and how long they are at most. Draws of bodies: any body, and one in which something goes. Draws of bodies in which something goes. The draws of the laws on bodies. -/
import Derived.Test.YtoffaobiikdflaaGreatDoorLeb
import Derived.Test.YtoffaobiikdflaaGreatDoorMut
import Derived.Test.YtoffaobiikdflaaGreatDoorAppY
import Derived.Test.YtoffaobiikdflaaGreatDoorRepl
import Derived.ArgAppend
import Derived.Test.YtoffaobiikdflaaGreatDoorInsOk
import Derived.Test.YtoffaobiikdflaaGreatDoorInsS
import Derived.Test.YtoffaobiikdflaaGreatDoorShape
namespace Go.Proofs.YtoffaobiikdflaaGreatDoor
attribute [local go_sem ↓] Go.wp_at_zero Go.wp_at_succ
open Go.RowKit
open Rep (Is sz)

theorem and_255 (n : Int) : bits .and .i64 n 255 = n % 256 := by
  have h127 : (BitVec.ofInt 64 255).toNat = 2 ^ 8 - 1 := by decide
  have key : (BitVec.ofInt 64 n &&& BitVec.ofInt 64 255).toNat = (n % ((2 ^ 64 : Nat) : Int)).toNat % 2 ^ 8 := by
    rw [BitVec.toNat_and, BitVec.toNat_ofInt, h127, Nat.and_two_pow_sub_one_eq_mod]
  show IntKind.i64.wrap ((BitVec.ofInt 64 n &&& BitVec.ofInt 64 255).toNat : Nat) = n % 256
  rw [key, IntKind.wrap_i64]
  omega
theorem and_30 (n : Int) : bits .and .i64 n 1073741823 = n % 1073741824 := by
  have h127 : (BitVec.ofInt 64 1073741823).toNat = 2 ^ 30 - 1 := by decide
  have key : (BitVec.ofInt 64 n &&& BitVec.ofInt 64 1073741823).toNat = (n % ((2 ^ 64 : Nat) : Int)).toNat % 2 ^ 30 := by
    rw [BitVec.toNat_and, BitVec.toNat_ofInt, h127, Nat.and_two_pow_sub_one_eq_mod]
  show IntKind.i64.wrap ((BitVec.ofInt 64 n &&& BitVec.ofInt 64 1073741823).toNat : Nat) = n % 1073741824
  rw [key, IntKind.wrap_i64]
  omega

set_option maxRecDepth 10000 in
theorem snew {F : List Nat} {v : Value} (bs : List UInt8) (w : World) (hl : bs.length ≤ 1048576) [h : Shows w F bs [v]] :
    Calls Tryz.prog 17 #[v] w fun e w' => ∃ (p : Nat) (hh : Int), e = .returned (.pointer (some ⟨p, 0, none⟩)) ∧ BoxL w' p #[v, .int .i64 0, .int .i64 hh] ∧ w.heap.size ≤ p ∧ In64 hh ∧ Step w w' := by
  have kk := h.known
  obtain ⟨ad, cap, hv, _, hvw, hml⟩ := bytes_open h.is
  cases hv
  clear h
  unfold maxLen at hml
  go_enter Tryz.func17, Tryz.ntmps17
  go_wp2
  go_loopw [3, 4] (fun q i wr => ∃ (k : Nat) (x : Int), k ≤ bs.length ∧ i = .int .i64 k ∧ q = .int .i64 x ∧ 0 ≤ x ∧ x ≤ 1073741823 ∧ Step w wr) (fun _ i _ => bs.length - (intOf i).toNat)
  case atStart => exact ⟨0, 790001 + bs.length, by omega, rfl, rfl, by omega, by omega, mkStep⟩
  case round =>
    obtain ⟨k, x, hk, rfl, rfl, hx0, hx1, st⟩ := hrel
    by_cases h1 : k < bs.length
    · by_cases h2 : k < 4000
      · obtain ⟨b, o, rfl, hc, _⟩ := byte_cell hvw k h1
        have og : Old b w := ⟨block_lt_of_cell hc⟩
        have e1 := and_30 (x * 163 + (bs[k].toNat : Int) + 7)
        have hb := bs[k].toNat_lt
        obtain ⟨y, hy⟩ : ∃ y, (x * 163 + (bs[k].toNat : Int) + 7) % 1073741824 = y := ⟨_, rfl⟩
        have y0 : 0 ≤ y ∧ y ≤ 1073741823 := by omega
        rw [hy] at e1
        replace hy := hid hy
        have h2b : decide ((k : Int) < 4000) = true := decide_eq_true (by omega)
        replace h2 := hid h2
        go_wp2
        go_roundw
        case rel => exact ⟨k + 1, y, by omega, by go_num, rfl, y0.1, y0.2, mkStep⟩
        case measure => simp [intOf]; omega
      · have h2b : decide ((k : Int) < 4000) = false := decide_eq_false (by omega)
        replace h2 := hid h2
        go_wp2
        go_ret
        exact ⟨_, x, rfl, ⟨Box.new _ _ _⟩, st.fr.size, by unfold In64; omega, mkStep⟩
    · go_wp2
      go_ret
      exact ⟨_, x, rfl, ⟨Box.new _ _ _⟩, st.fr.size, by unfold In64; omega, mkStep⟩

set_option maxRecDepth 10000 in
theorem sbyte1 {F : List Nat} {p cap : Nat} {ad : Option Addr} {hh : Int} (bs : List UInt8) (i : Nat) (w : World) (hi : i ≤ bs.length) [h : Shows w F bs [.slice ad bs.length cap]] [b : BoxAt w p #[.slice ad bs.length cap, .int .i64 i, .int .i64 hh]] [ap : Apart F [p]] :
    Calls Tryz.prog 72 #[.pointer (some ⟨p, 0, none⟩)] w fun e w' => ∃ (x : Int) (i' : Nat) (h' : Int), 0 ≤ x ∧ x ≤ 255 ∧ e = .returned (.int .i64 x) ∧ i' ≤ bs.length ∧ In64 h' ∧ BoxL w' p #[.slice ad bs.length cap, .int .i64 i', .int .i64 h'] ∧ StepX [p] w w' := by
  have bl := b.l
  have ag := bl.arg
  obtain ⟨ad', cap', hv, hF, hvw, hml⟩ := bytes_open h.is
  cases hv
  clear h
  unfold maxLen at hml
  obtain ⟨h1, eh⟩ : ∃ q, wrap64 (wrap64 (hh * 6364136223846793005) + 1442695040888963407) = q := ⟨_, rfl⟩
  have hh1 : In64 h1 := by rw [← eh]; unfold wrap64 In64; omega
  obtain ⟨x1, hx1⟩ : ∃ q, bits .xor .i64 (h1 / 8589934592) (h1 / 35184372088832) % 256 = q := ⟨_, rfl⟩
  have hxb : 0 ≤ x1 ∧ x1 ≤ 255 := by omega
  have e1 := and_255 (bits .xor .i64 (h1 / 8589934592) (h1 / 35184372088832))
  rw [hx1] at e1
  replace hx1 := hid hx1
  have b1 : BoxL (w.setCell ⟨p, 2, none⟩ (.int .i64 h1)) p #[.slice ad bs.length cap, .int .i64 i, .int .i64 h1] := boxSet rfl
  have s1 : StepX [p] w (w.setCell ⟨p, 2, none⟩ (.int .i64 h1)) := mkStepX
  go_enter Tryz.func72, Tryz.ntmps72
  go_wp2_with fail
  refine wp_name ?_
  intro A sA
  have b2 : BoxL A p #[.slice ad bs.length cap, .int .i64 i, .int .i64 h1] := boxOf
  have op : Old p A := b2.old
  by_cases hlt : i < bs.length
  · obtain ⟨b0, o, rfl, hc, _⟩ := byte_cell hvw i hlt
    have nb : b0 ∉ [p] := ap.ne b0 (by rw [hF, if_neg (by intro e; rw [e] at hlt; simp at hlt)]; simp [blk])
    have cA : A.cell? ⟨b0, o + i, none⟩ = some (.int .u8 bs[i].toNat) := (s1.fr.trans0 sA.fr).cell_some hc nb
    have oA : Old b0 A := ⟨block_lt_of_cell cA⟩
    have hbt := bs[i].toNat_lt
    obtain ⟨x2, hx2⟩ : ∃ q, (x1 + (bs[i].toNat : Int)) % 256 = q := ⟨_, rfl⟩
    have hxb2 : 0 ≤ x2 ∧ x2 ≤ 255 := by omega
    have e2 := and_255 (x1 + (bs[i].toNat : Int))
    rw [hx2] at e2
    replace hx2 := hid hx2
    refine rg_begin0 (n := 13) (by kernel_rfl) rfl fun rg0 => ?_
    refine rg_read (i := 0) (a1 := _) rfl (by kernel_rfl) rfl (by simp) (by intro wq hwq; go_wp2; exact ⟨rfl, rfl⟩) mkStep ?_
    refine rg_read (i := 1) (a1 := _) rfl (by kernel_rfl) rfl (by simp) (by intro wq hwq; go_wp2; exact ⟨rfl, rfl⟩) mkStep ?_
    refine rg_read (i := 2) (a1 := _) rfl (by kernel_rfl) rfl (by simp) (by intro wq hwq; go_wp2; exact ⟨rfl, rfl⟩) mkStep ?_
    refine rg_read (i := 3) (a1 := _) rfl (by kernel_rfl) rfl (by simp) (by intro wq hwq; go_wp2; exact ⟨rfl, rfl⟩) mkStep ?_
    refine rg_read (i := 4) (a1 := _) rfl (by kernel_rfl) rfl (by simp) (by intro wq hwq; go_wp2; exact ⟨rfl, rfl⟩) mkStep ?_
    refine rg_read (i := 5) (a1 := _) rfl (by kernel_rfl) rfl (by simp) (by intro wq hwq; go_wp2; exact ⟨rfl, rfl⟩) mkStep ?_
    refine rg_read (i := 6) (a1 := _) rfl (by kernel_rfl) rfl (by simp) (by intro wq hwq; go_wp2; exact ⟨rfl, rfl⟩) mkStep ?_
    refine rg_read (i := 7) (a1 := _) rfl (by kernel_rfl) rfl (by simp) (by intro wq hwq; go_wp2; exact ⟨rfl, rfl⟩) mkStep ?_
    refine rg_read (i := 8) (a1 := _) rfl (by kernel_rfl) rfl (by simp) (by intro wq hwq; go_wp2; exact ⟨rfl, rfl⟩) mkStep ?_
    refine rg_read (i := 9) (a1 := _) rfl (by kernel_rfl) rfl (by simp) (by intro wq hwq; go_wp2; exact ⟨rfl, rfl⟩) mkStep ?_
    refine rg_read (i := 10) (a1 := _) rfl (by kernel_rfl) rfl (by simp) (by intro wq hwq; go_wp2; exact ⟨rfl, rfl⟩) mkStep ?_
    refine rg_read (i := 11) (a1 := _) rfl (by kernel_rfl) rfl (by simp) (by intro wq hwq; go_wp2; exact ⟨rfl, rfl⟩) mkStep ?_
    refine rg_read (i := 12) (a1 := _) rfl (by kernel_rfl) rfl (by simp) (by intro wq hwq; go_wp2; exact ⟨rfl, rfl⟩) mkStep ?_
    refine rg_done (by kernel_rfl) ?_
    go_wp2_with fail
    refine rg_begin0 (n := 10) (by kernel_rfl) rfl fun rg0 => ?_
    refine rg_read (i := 0) (a1 := _) rfl (by kernel_rfl) rfl (by simp) (by intro wq hwq; go_wp2; exact ⟨rfl, rfl⟩) mkStep ?_
    refine rg_read (i := 1) (a1 := _) rfl (by kernel_rfl) rfl (by simp) (by intro wq hwq; go_wp2; exact ⟨rfl, rfl⟩) mkStep ?_
    refine rg_read (i := 2) (a1 := _) rfl (by kernel_rfl) rfl (by simp) (by intro wq hwq; go_wp2; exact ⟨rfl, rfl⟩) mkStep ?_
    refine rg_read (i := 3) (a1 := _) rfl (by kernel_rfl) rfl (by simp) (by intro wq hwq; go_wp2; exact ⟨rfl, rfl⟩) mkStep ?_
    refine rg_read (i := 4) (a1 := _) rfl (by kernel_rfl) rfl (by simp) (by intro wq hwq; go_wp2; exact ⟨rfl, rfl⟩) mkStep ?_
    refine rg_read (i := 5) (a1 := _) rfl (by kernel_rfl) rfl (by simp) (by intro wq hwq; go_wp2; exact ⟨rfl, rfl⟩) mkStep ?_
    refine rg_read (i := 6) (a1 := _) rfl (by kernel_rfl) rfl (by simp) (by intro wq hwq; go_wp2; exact ⟨rfl, rfl⟩) mkStep ?_
    refine rg_read (i := 7) (a1 := _) rfl (by kernel_rfl) rfl (by simp) (by intro wq hwq; go_wp2; exact ⟨rfl, rfl⟩) mkStep ?_
    refine rg_read (i := 8) (a1 := _) rfl (by kernel_rfl) rfl (by simp) (by intro wq hwq; go_wp2; exact ⟨rfl, rfl⟩) mkStep ?_
    refine rg_read (i := 9) (a1 := _) rfl (by kernel_rfl) rfl (by simp) (by intro wq hwq; go_wp2; exact ⟨rfl, rfl⟩) mkStep ?_
    refine rg_done (by kernel_rfl) ?_
    go_wp2_with fail
    refine rg_begin0 (n := 15) (by kernel_rfl) rfl fun rg0 => ?_
    refine rg_read (i := 0) (a1 := _) rfl (by kernel_rfl) rfl (by simp) (by intro wq hwq; go_wp2; exact ⟨rfl, rfl⟩) mkStep ?_
    refine rg_read (i := 1) (a1 := _) rfl (by kernel_rfl) rfl (by simp) (by intro wq hwq; go_wp2; exact ⟨rfl, rfl⟩) mkStep ?_
    refine rg_read (i := 2) (a1 := _) rfl (by kernel_rfl) rfl (by simp) (by intro wq hwq; go_wp2; exact ⟨rfl, rfl⟩) mkStep ?_
    refine rg_read (i := 3) (a1 := _) rfl (by kernel_rfl) rfl (by simp) (by intro wq hwq; go_wp2; exact ⟨rfl, rfl⟩) mkStep ?_
    refine rg_read (i := 4) (a1 := _) rfl (by kernel_rfl) rfl (by simp) (by intro wq hwq; go_wp2; exact ⟨rfl, rfl⟩) mkStep ?_
    refine rg_read (i := 5) (a1 := _) rfl (by kernel_rfl) rfl (by simp) (by intro wq hwq; go_wp2; exact ⟨rfl, rfl⟩) mkStep ?_
    refine rg_read (i := 6) (a1 := _) rfl (by kernel_rfl) rfl (by simp) (by intro wq hwq; go_wp2; exact ⟨rfl, rfl⟩) mkStep ?_
    refine rg_read (i := 7) (a1 := _) rfl (by kernel_rfl) rfl (by simp) (by intro wq hwq; go_wp2; exact ⟨rfl, rfl⟩) mkStep ?_
    refine rg_read (i := 8) (a1 := _) rfl (by kernel_rfl) rfl (by simp) (by intro wq hwq; go_wp2; exact ⟨rfl, rfl⟩) mkStep ?_
    refine rg_read (i := 9) (a1 := _) rfl (by kernel_rfl) rfl (by simp) (by intro wq hwq; go_wp2; exact ⟨rfl, rfl⟩) mkStep ?_
    refine rg_read (i := 10) (a1 := _) rfl (by kernel_rfl) rfl (by simp) (by intro wq hwq; go_wp2; exact ⟨rfl, rfl⟩) mkStep ?_
    refine rg_read (i := 11) (a1 := _) rfl (by kernel_rfl) rfl (by simp) (by intro wq hwq; go_wp2; exact ⟨rfl, rfl⟩) mkStep ?_
    refine rg_read (i := 12) (a1 := _) rfl (by kernel_rfl) rfl (by simp) (by intro wq hwq; go_wp2; exact ⟨rfl, rfl⟩) mkStep ?_
    refine rg_read (i := 13) (a1 := _) rfl (by kernel_rfl) rfl (by simp) (by intro wq hwq; go_wp2; exact ⟨rfl, rfl⟩) mkStep ?_
    refine rg_read (i := 14) (a1 := _) rfl (by kernel_rfl) rfl (by simp) (by intro wq hwq; go_wp2; exact ⟨rfl, rfl⟩) mkStep ?_
    refine rg_done (by kernel_rfl) ?_
    go_wp2
    go_ret
    have b5 : BoxL (A.setCell ⟨p, 1, none⟩ (.int .i64 ((i : Int) + 1))) p #[.slice (some ⟨b0, o, none⟩) bs.length cap, .int .i64 ((i + 1 : Nat) : Int), .int .i64 h1] := boxSet rfl
    exact ⟨x2, i + 1, h1, hxb2.1, hxb2.2, rfl, by omega, hh1, boxOf, mkStepX⟩
  · skip
    refine rg_begin0 (n := 13) (by kernel_rfl) rfl fun rg0 => ?_
    refine rg_read (i := 0) (a1 := _) rfl (by kernel_rfl) rfl (by simp) (by intro wq hwq; go_wp2; exact ⟨rfl, rfl⟩) mkStep ?_
    refine rg_read (i := 1) (a1 := _) rfl (by kernel_rfl) rfl (by simp) (by intro wq hwq; go_wp2; exact ⟨rfl, rfl⟩) mkStep ?_
    refine rg_read (i := 2) (a1 := _) rfl (by kernel_rfl) rfl (by simp) (by intro wq hwq; go_wp2; exact ⟨rfl, rfl⟩) mkStep ?_
    refine rg_read (i := 3) (a1 := _) rfl (by kernel_rfl) rfl (by simp) (by intro wq hwq; go_wp2; exact ⟨rfl, rfl⟩) mkStep ?_
    refine rg_read (i := 4) (a1 := _) rfl (by kernel_rfl) rfl (by simp) (by intro wq hwq; go_wp2; exact ⟨rfl, rfl⟩) mkStep ?_
    refine rg_read (i := 5) (a1 := _) rfl (by kernel_rfl) rfl (by simp) (by intro wq hwq; go_wp2; exact ⟨rfl, rfl⟩) mkStep ?_
    refine rg_read (i := 6) (a1 := _) rfl (by kernel_rfl) rfl (by simp) (by intro wq hwq; go_wp2; exact ⟨rfl, rfl⟩) mkStep ?_
    refine rg_read (i := 7) (a1 := _) rfl (by kernel_rfl) rfl (by simp) (by intro wq hwq; go_wp2; exact ⟨rfl, rfl⟩) mkStep ?_
    refine rg_read (i := 8) (a1 := _) rfl (by kernel_rfl) rfl (by simp) (by intro wq hwq; go_wp2; exact ⟨rfl, rfl⟩) mkStep ?_
    refine rg_read (i := 9) (a1 := _) rfl (by kernel_rfl) rfl (by simp) (by intro wq hwq; go_wp2; exact ⟨rfl, rfl⟩) mkStep ?_
    refine rg_read (i := 10) (a1 := _) rfl (by kernel_rfl) rfl (by simp) (by intro wq hwq; go_wp2; exact ⟨rfl, rfl⟩) mkStep ?_
    refine rg_read (i := 11) (a1 := _) rfl (by kernel_rfl) rfl (by simp) (by intro wq hwq; go_wp2; exact ⟨rfl, rfl⟩) mkStep ?_
    refine rg_read (i := 12) (a1 := _) rfl (by kernel_rfl) rfl (by simp) (by intro wq hwq; go_wp2; exact ⟨rfl, rfl⟩) mkStep ?_
    refine rg_done (by kernel_rfl) ?_
    go_wp2_with fail
    refine rg_begin0 (n := 10) (by kernel_rfl) rfl fun rg0 => ?_
    refine rg_read (i := 0) (a1 := _) rfl (by kernel_rfl) rfl (by simp) (by intro wq hwq; go_wp2; exact ⟨rfl, rfl⟩) mkStep ?_
    refine rg_read (i := 1) (a1 := _) rfl (by kernel_rfl) rfl (by simp) (by intro wq hwq; go_wp2; exact ⟨rfl, rfl⟩) mkStep ?_
    refine rg_read (i := 2) (a1 := _) rfl (by kernel_rfl) rfl (by simp) (by intro wq hwq; go_wp2; exact ⟨rfl, rfl⟩) mkStep ?_
    refine rg_read (i := 3) (a1 := _) rfl (by kernel_rfl) rfl (by simp) (by intro wq hwq; go_wp2; exact ⟨rfl, rfl⟩) mkStep ?_
    refine rg_read (i := 4) (a1 := _) rfl (by kernel_rfl) rfl (by simp) (by intro wq hwq; go_wp2; exact ⟨rfl, rfl⟩) mkStep ?_
    refine rg_read (i := 5) (a1 := _) rfl (by kernel_rfl) rfl (by simp) (by intro wq hwq; go_wp2; exact ⟨rfl, rfl⟩) mkStep ?_
    refine rg_read (i := 6) (a1 := _) rfl (by kernel_rfl) rfl (by simp) (by intro wq hwq; go_wp2; exact ⟨rfl, rfl⟩) mkStep ?_
    refine rg_read (i := 7) (a1 := _) rfl (by kernel_rfl) rfl (by simp) (by intro wq hwq; go_wp2; exact ⟨rfl, rfl⟩) mkStep ?_
    refine rg_read (i := 8) (a1 := _) rfl (by kernel_rfl) rfl (by simp) (by intro wq hwq; go_wp2; exact ⟨rfl, rfl⟩) mkStep ?_
    refine rg_read (i := 9) (a1 := _) rfl (by kernel_rfl) rfl (by simp) (by intro wq hwq; go_wp2; exact ⟨rfl, rfl⟩) mkStep ?_
    refine rg_done (by kernel_rfl) ?_
    go_wp2
    go_ret
    exact ⟨x1, i, h1, hxb.1, hxb.2, rfl, hi, hh1, boxOf, mkStepX⟩

theorem sbelow {F : List Nat} {p cap : Nat} {ad : Option Addr} {hh : Int} (bs : List UInt8) (i : Nat) (n : Int) (w : World) (hn : 1 ≤ n ∧ n ≤ 256) (hi : i ≤ bs.length) [h : Shows w F bs [.slice ad bs.length cap]] [b : BoxAt w p #[.slice ad bs.length cap, .int .i64 i, .int .i64 hh]] [ap : Apart F [p]] :
    Calls Tryz.prog 37 #[.pointer (some ⟨p, 0, none⟩), .int .i64 n] w fun e w' => ∃ (x i' : Nat) (h' : Int), (x : Int) < n ∧ e = .returned (.int .i64 (x : Int)) ∧ i' ≤ bs.length ∧ In64 h' ∧ BoxL w' p #[.slice ad bs.length cap, .int .i64 i', .int .i64 h'] ∧ StepX [p] w w' := by
  have hk := h.known
  have bl := b.l
  go_enter Tryz.func37, Tryz.ntmps37
  go_wp2_with fail
  with_reducible refine Calls.mono (sbyte1 bs i _ hi) ?_
  rintro e w1 ⟨x, i', h', hx0, hx1, rfl, hi', hh', b1, st1⟩
  have hm0 : 0 ≤ x % n := Int.emod_nonneg _ (by omega)
  have hm1 : x % n < n := Int.emod_lt_of_pos _ (by omega)
  obtain ⟨y, hy⟩ : ∃ y : Nat, x % n = (y : Int) := ⟨(x % n).toNat, by omega⟩
  rw [hy] at hm1
  go_wp2
  go_ret
  exact ⟨y, i', h', hm1, ret_int hy, hi', hh', boxOf, mkStepX⟩

theorem Tryz.bytes_tabC : Tryz.prog.underlying 22 = some (.slice 5) ∧ (Tryz.prog.info? 5).map (fun i => (i.zero, i.size, i.bytes)) = some (some (.int .u8 0), 1, 1) ∧ (Value.int .u8 0).cells.size = 1 ∧ 0 < 1 ∧ 0 < 1 :=
  ⟨by kernel_rfl, by kernel_rfl, rfl, by decide, by decide⟩
theorem byte_enc (x : Int) (h0 : 0 ≤ x) (h1 : x ≤ 255) : ∃ b : UInt8, x = (b.toNat : Int) := ⟨UInt8.ofNat x.toNat, by rw [UInt8.toNat_ofNat']; omega⟩
theorem bytes_flat (l : List UInt8) : (l.flatMap fun b => [Value.int .u8 b.toNat]) = byteVs l := by
  induction l with
  | nil => rfl
  | cons b l ih => rw [List.flatMap_cons, ih]; rfl

end Go.Proofs.YtoffaobiikdflaaGreatDoor
namespace Go.Proofs.YtoffaobiikdflaaGreatDoor
attribute [local go_sem ↓] Go.wp_at_zero Go.wp_at_succ
open Go.RowKit
open Rep (Is sz)

/-- A cursor stands at block p, over bytes that lie ahead of it. -/
class Cur (w : World) (p : Nat) : Prop where
  is : ∃ (F : List Nat) (bs : List UInt8) (ad : Option Addr) (cap i : Nat) (hh : Int), Is w F bs [.slice ad bs.length cap] ∧ Box w p #[.slice ad bs.length cap, .int .i64 i, .int .i64 hh] ∧ i ≤ bs.length ∧ (∀ b ∈ F, b < p)
theorem Cur.lt {w : World} {p : Nat} (h : Cur w p) : p < w.heap.size := by
  obtain ⟨F, bs, ad, cap, i, hh, h1, h2, h3, h4⟩ := h.is
  exact h2.lt
theorem Cur.fr {S : List Nat} {m w : World} {p : Nat} (h : Cur m p) (f : Fr S m w) (hS : ∀ b ∈ S, p < b) : Cur w p := by
  obtain ⟨F, bs, ad, cap, i, hh, h1, h2, h3, h4⟩ := h.is
  exact ⟨F, bs, ad, cap, i, hh, Rep.fr h1 f (fun b hb hs => by have := hS b hs; have := h4 b hb; omega), h2.fr f (fun hs => by have := hS p hs; omega), h3, h4⟩
/-- Block b lies above p. -/
class Gt (p b : Nat) : Prop where
  lt : p < b
/-- The blocks of S lie above p. -/
class Abv (p : Nat) (S : List Nat) : Prop where
  lt : ∀ b ∈ S, p < b
instance gt_new {p b : Nat} {w : World} [a : Arg p w] [n : NewB w b] : Gt p b := ⟨Nat.lt_of_lt_of_le a.lt n.le⟩
instance abv_nil (p : Nat) : Abv p [] := ⟨by simp⟩
instance abv_one {p b : Nat} [g : Gt p b] : Abv p [b] := ⟨by intro c hc; rw [List.mem_singleton] at hc; subst hc; exact g.lt⟩
instance (priority := 80) cur_step {m w : World} {p : Nat} [s : Step m w] [h : Cur m p] : Cur w p := h.fr s.fr (by simp)
instance (priority := 70) cur_stepx {S : List Nat} {m w : World} {p : Nat} [s : StepX S m w] [h : Cur m p] [a : Abv p S] : Cur w p := h.fr s.fr a.lt
instance (priority := 90) cur_drew {m : World} {p : Nat} [h : Cur m p] : Cur m.drew p := h.fr (Fr.refl [] m).drew (by simp)
instance (priority := 90) cur_alloc {m : World} {o : Obj} {p : Nat} [h : Cur m p] : Cur (m.alloc o) p := h.fr ((Fr.refl [] m).alloc o) (by simp)
instance (priority := 90) cur_set {m : World} {b o : Nat} {v : Value} {p : Nat} [h : Cur m p] [g : Gt p b] : Cur (m.setCell ⟨b, o, none⟩ v) p := h.fr ((Fr.refl [b] m).setCell (.inl (List.mem_singleton_self _)) v) (by intro c hc; rw [List.mem_singleton] at hc; subst hc; exact g.lt)

theorem sbyteC {p : Nat} (w : World) [c : Cur w p] : Calls Tryz.prog 72 #[.pointer (some ⟨p, 0, none⟩)] w fun e w' => ∃ x : Int, 0 ≤ x ∧ x ≤ 255 ∧ e = .returned (.int .i64 x) ∧ Cur w' p ∧ StepX [p] w w' := by
  obtain ⟨F, bs, ad, cap, i, hh, h1, h2, h3, h4⟩ := c.is
  have k1 : Known w F bs _ := ⟨h1⟩
  have b1 : BoxL w p _ := ⟨h2⟩
  have ap : Apart F [p] := ⟨fun b hb hs => by rw [List.mem_singleton] at hs; have := h4 b hb; omega⟩
  refine Calls.mono (sbyte1 bs i w h3) ?_
  rintro e w1 ⟨x, i', h', hx0, hx1, rfl, hi', hh', b2, st1⟩
  have k2 : Shows w1 F bs [.slice ad bs.length cap] := inferInstance
  exact ⟨x, hx0, hx1, rfl, ⟨F, bs, ad, cap, i', h', k2.is, b2.is, hi', h4⟩, st1⟩
set_option maxRecDepth 10000 in
theorem sbelowC {p : Nat} (n : Int) (w : World) (hn : n ≤ 100000000) [c : Cur w p] : Calls Tryz.prog 37 #[.pointer (some ⟨p, 0, none⟩), .int .i64 n] w fun e w' => ∃ x : Nat, ((x : Int) < n ∨ x = 0) ∧ e = .returned (.int .i64 x) ∧ Cur w' p ∧ StepX [p] w w' := by
  by_cases h0 : n ≤ 0
  · go_enter Tryz.func37, Tryz.ntmps37
    go_wp2
    go_ret
    exact ⟨0, .inr rfl, rfl, inferInstance, mkStepX⟩
  by_cases h256 : n ≤ 256
  · obtain ⟨F, bs, ad, cap, i, hh, h1, h2, h3, h4⟩ := c.is
    have k1 : Known w F bs _ := ⟨h1⟩
    have b1 : BoxL w p _ := ⟨h2⟩
    have ap : Apart F [p] := ⟨fun b hb hs => by rw [List.mem_singleton] at hs; have := h4 b hb; omega⟩
    refine Calls.mono (sbelow bs i n w ⟨by omega, h256⟩ h3) ?_
    rintro e w1 ⟨x, i', h', hx, rfl, hi', hh', b2, st1⟩
    have k2 : Shows w1 F bs [.slice ad bs.length cap] := inferInstance
    exact ⟨x, .inl hx, rfl, ⟨F, bs, ad, cap, i', h', k2.is, b2.is, hi', h4⟩, st1⟩
  · go_enter Tryz.func37, Tryz.ntmps37
    go_wp2_with fail
    with_reducible refine Calls.mono (sbyteC _) ?_
    rintro e w1 ⟨x1, x10, x11, rfl, cu1, st1⟩
    go_wp2_with fail
    with_reducible refine Calls.mono (sbyteC _) ?_
    rintro e w2 ⟨x2, x20, x21, rfl, cu2, st2⟩
    go_wp2_with fail
    with_reducible refine Calls.mono (sbyteC _) ?_
    rintro e w3 ⟨x3, x30, x31, rfl, cu3, st3⟩
    go_wp2_with fail
    with_reducible refine Calls.mono (sbyteC _) ?_
    rintro e w4 ⟨x4, x40, x41, rfl, cu4, st4⟩
    obtain ⟨y, hy⟩ : ∃ y, x1 * 16777216 + x2 * 65536 + x3 * 256 + x4 = y := ⟨_, rfl⟩
    have hy0 : 0 ≤ y ∧ y ≤ 4294967295 := by omega
    have hm0 : 0 ≤ y % n := Int.emod_nonneg _ (by omega)
    have hm1 : y % n < n := Int.emod_lt_of_pos _ (by omega)
    obtain ⟨z, hz⟩ : ∃ z : Nat, y % n = (z : Int) := ⟨(y % n).toNat, by omega⟩
    rw [hz] at hm1
    go_wp2
    go_ret
    exact ⟨z, .inl hm1, ret_int hz, inferInstance, mkStepX⟩
set_option maxRecDepth 10000 in
/-- Any number. -/
theorem srawC {p : Nat} (w : World) [c : Cur w p] : Calls Tryz.prog 94 #[.pointer (some ⟨p, 0, none⟩)] w fun e w' => ∃ x : Int, In64 x ∧ e = .returned (.int .i64 x) ∧ Cur w' p ∧ StepX [p] w w' := by
  go_enter Tryz.func94, Tryz.ntmps94
  go_wp2_with fail
  with_reducible refine Calls.mono (sbelowC _ _ (by omega)) ?_
  rintro e w1 ⟨k, hk, rfl, cu1, st1⟩
  replace hk : k < 11 := by omega
  by_cases h4 : k < 4
  · go_wp2_with fail
    with_reducible refine Calls.mono (sbelowC _ _ (by omega)) ?_
    rintro e w2 ⟨x, hx, rfl, cu2, st2⟩
    replace hx : x < 24 := by omega
    go_wp2
    go_ret
    exact ⟨_, by unfold In64; omega, rfl, inferInstance, mkStepX⟩
  obtain rfl | rfl | rfl | rfl | rfl | rfl | rfl : k = 4 ∨ k = 5 ∨ k = 6 ∨ k = 7 ∨ k = 8 ∨ k = 9 ∨ k = 10 := by omega
  all_goals
    go_wp2_with fail
    with_reducible refine Calls.mono (sbelowC _ _ (by omega)) ?_
    rintro e w2 ⟨x, hx, rfl, cu2, st2⟩
  all_goals try (go_wp2; go_ret; exact ⟨_, by unfold In64; omega, rfl, inferInstance, mkStepX⟩)
  · go_wp2
    go_ret
    exact ⟨_, by unfold wrap64 In64; omega, rfl, inferInstance, mkStepX⟩
  · go_wp2_with fail
    with_reducible refine Calls.mono (sbelowC _ _ (by omega)) ?_
    rintro e w3 ⟨y, hy, rfl, cu3, st3⟩
    have hxy : 0 ≤ (x : Int) * (y : Int) ∧ (x : Int) * (y : Int) ≤ 1000000000000 := ⟨Int.mul_nonneg (by omega) (by omega), Int.le_trans (Int.mul_le_mul (show (x : Int) ≤ 1000000 by omega) (show (y : Int) ≤ 1000000 by omega) (by omega) (by omega)) (by omega)⟩
    go_wp2
    go_ret
    exact ⟨_, by unfold In64; omega, rfl, inferInstance, mkStepX⟩
end Go.Proofs.YtoffaobiikdflaaGreatDoor
namespace Go.Proofs.YtoffaobiikdflaaGreatDoor
open Go.RowKit
open Rep (Is sz)

def RowO (w : World) (B : Nat) (e : TypeId) (sz : Nat) (a : Option Addr) (n cap : Nat) (xs : List Value) : Prop :=
  xs.length = n * sz ∧ ((a = none ∧ n = 0 ∧ cap = 0) ∨ ∃ (g off : Nat) (cur : Array Value), a = some ⟨g, off, none⟩ ∧ B ≤ g ∧ w.heap[g]? = some (.cells cur e (0, 0)) ∧ n ≤ cap ∧ cap ≤ maxLen ∧ off + cap * sz ≤ cur.size ∧ ∀ j u, xs[j]? = some u → cur[off + j]? = some u)
theorem RowO.of_own {w : World} {B : Nat} {e : TypeId} {sz n cap : Nat} {a : Option Addr} {xs : List Value} (h : w.ownsRow B e sz (.slice a n cap) n xs) : RowO w B e sz a n cap xs := by
  obtain ⟨hl, h⟩ := h
  refine ⟨hl, ?_⟩
  rcases h with ⟨h, _⟩ | ⟨g, cap', cur, hv, hB, hg, hn, hc, hsz, hx⟩
  · simp at h
    exact .inl ⟨h.1, h.2.1, h.2.2⟩
  · simp at hv
    obtain ⟨rfl, rfl⟩ := hv
    refine .inr ⟨g, 0, cur, rfl, hB, hg, hn, hc, by omega, fun j u hj => ?_⟩
    rw [← hx, List.getElem?_take] at hj
    split at hj
    · rw [Nat.zero_add, ← Array.getElem?_toList]; exact hj
    · cases hj
theorem RowO.view {w : World} {B : Nat} {e : TypeId} {sz n cap : Nat} {a : Option Addr} {xs : List Value} (h : RowO w B e sz a n cap xs) : View w a sz n xs := by
  refine ⟨h.1, fun hn => ?_⟩
  rcases h.2 with ⟨_, h0, _⟩ | ⟨g, off, cur, rfl, _, hg, _, _, _, hx⟩
  · omega
  · exact ⟨g, off, rfl, fun j u hj => ⟨by simp [World.cell?, hg, hx j u hj], by simp [World.frozen?, hg]⟩⟩
theorem RowO.blk {w : World} {B : Nat} {e : TypeId} {sz n cap : Nat} {a : Option Addr} {xs : List Value} (h : RowO w B e sz a n cap xs) : ∀ x ∈ blk a, B ≤ x ∧ x < w.heap.size := by
  intro x hx
  rcases h.2 with ⟨rfl, _⟩ | ⟨g, off, cur, rfl, hB, hg, _⟩
  · simp [Go.Proofs.YtoffaobiikdflaaGreatDoor.blk] at hx
  · simp [Go.Proofs.YtoffaobiikdflaaGreatDoor.blk] at hx
    subst hx
    exact ⟨hB, (Array.getElem?_eq_some_iff.1 hg).1⟩
theorem RowO.fr {S : List Nat} {w w' : World} {B : Nat} {e : TypeId} {sz n cap : Nat} {a : Option Addr} {xs : List Value} (h : RowO w B e sz a n cap xs) (hf : Fr S w w') (hs : ∀ x ∈ Go.Proofs.YtoffaobiikdflaaGreatDoor.blk a, x ∉ S) : RowO w' B e sz a n cap xs := by
  refine ⟨h.1, ?_⟩
  rcases h.2 with h0 | ⟨g, off, cur, rfl, hB, hg, r⟩
  · exact .inl h0
  · exact .inr ⟨g, off, cur, rfl, hB, by rw [hf.block g (Array.getElem?_eq_some_iff.1 hg).1 (hs g (by simp [Go.Proofs.YtoffaobiikdflaaGreatDoor.blk])), hg], r⟩
theorem RowO.weak {w : World} {B B' : Nat} {e : TypeId} {sz n cap : Nat} {a : Option Addr} {xs : List Value} (h : RowO w B' e sz a n cap xs) (hb : B ≤ B') : RowO w B e sz a n cap xs := by
  refine ⟨h.1, ?_⟩
  rcases h.2 with h0 | ⟨g, off, cur, rfl, hB, r⟩
  · exact .inl h0
  · exact .inr ⟨g, off, cur, rfl, Nat.le_trans hb hB, r⟩
theorem RowO.cut {w : World} {B : Nat} {e : TypeId} {sz n cap : Nat} {a : Option Addr} {xs : List Value} (h : RowO w B e sz a n cap xs) (hn : 0 < n) : ∃ g off, a = some ⟨g, off, none⟩ ∧ 0 < cap ∧ RowO w B e sz (some ⟨g, off + sz, none⟩) (n - 1) (cap - 1) (xs.drop sz) := by
  obtain ⟨hl, h⟩ := h
  rcases h with ⟨_, h0, _⟩ | ⟨g, off, cur, rfl, hB, hg, h1, h2, h3, hx⟩
  · omega
  · refine ⟨g, off, rfl, by omega, by rw [List.length_drop, hl, Nat.sub_mul, Nat.one_mul], .inr ⟨g, off + sz, cur, rfl, hB, hg, by omega, by omega, ?_, fun j u hj => ?_⟩⟩
    · have : (cap - 1) * sz + sz = cap * sz := by rw [← Nat.succ_mul]; congr 1; omega
      omega
    · rw [List.getElem?_drop] at hj
      rw [Nat.add_assoc]
      exact hx _ _ hj
theorem RowO.back {w : World} {B : Nat} {e : TypeId} {sz g off k : Nat} {xs : List Value} (h : RowO w B e sz (some ⟨g, off + k, none⟩) 0 0 xs) : RowO w B e sz (some ⟨g, off, none⟩) 0 0 xs := by
  obtain ⟨hl, h⟩ := h
  rcases h with ⟨h0, _⟩ | ⟨g', off', cur, hv, hB, hg, h1, h2, h3, hx⟩
  · cases h0
  · simp only [Option.some.injEq, Addr.mk.injEq] at hv
    obtain ⟨rfl, rfl, _⟩ := hv
    have e0 : xs = [] := List.eq_nil_of_length_eq_zero (by omega)
    subst e0
    exact ⟨by simp, .inr ⟨g, off, cur, rfl, hB, hg, h1, h2, by omega, by simp⟩⟩
theorem RowO.cap_ok {w : World} {B : Nat} {e : TypeId} {sz n cap : Nat} {a : Option Addr} {xs : List Value} (h : RowO w B e sz a n cap xs) : n ≤ cap ∧ cap ≤ maxLen := by
  rcases h.2 with ⟨_, h0, h1⟩ | ⟨g, off, cur, rfl, hB, hg, h1, h2, h3, hx⟩
  · exact ⟨by omega, by rw [h1]; exact Nat.zero_le _⟩
  · exact ⟨h1, h2⟩

/-- append(s, x): what is appended is not empty. -/
theorem app_o {P : Program} (w : World) {ops : Array Oper} {rest : List Oper} {o : Oper} {a : Act} {Q : Exit → Act → World → Prop} (hgd : o.guard = none) (s x : Operand) (t : TypeId)
    (ho : o.op = .call { callee := .builtin .append, args := #[s, x], argTypes := #[t, t] })
    (e : TypeId) (z : Value) (size bytes : Nat) (htab : P.underlying t = some (.slice e) ∧ (P.info? e).map (fun i => (i.zero, i.size, i.bytes)) = some (some z, size, bytes) ∧ z.cells.size = size ∧ 0 < size ∧ 0 < bytes)
    (B : Nat) (ao : Option Addr) (n cap : Nat) (xs : List Value) (hs : a.eval s = .slice ao n cap) (hrow : RowO w B e size ao n cap xs)
    (ax : Option Addr) (m c : Nat) (news : List Value) (hx : a.eval x = .slice ax m c) (hv : View w ax size m news) (h1 : ∀ u ∈ news, u.oneCell' = true) (hm : 0 < m)
    (hbytes : (n + m) * bytes ≤ 140737488355328) (hbase : B ≤ w.heap.size)
    (h : ∀ ao' cap' w', RowO w' B e size ao' (n + m) cap' (xs ++ news) → Fr (blk ao) w w' → wpList P ops Q rest (a.put o.dst (.slice ao' (n + m) cap')) w') : wpList P ops Q (o :: rest) a w := by
  obtain ⟨hl, hr⟩ := hrow
  rcases hr with ⟨rfl, rfl, rfl⟩ | ⟨g, off, cur, rfl, hB, hg, hn, hc, hsz, hcur⟩
  · have e0 : xs = [] := List.eq_nil_of_length_eq_zero (by omega)
    subst e0
    exact app_own w hgd s x t ho e z size bytes htab B none 0 0 [] hs (World.ownsRow_nil ..) ax m c news hx hv h1 hbytes hbase fun ao' cap' w' h2 h3 => h ao' cap' w' (RowO.of_own h2) h3
  · obtain ⟨ht, hi, hzs, hsz0, hby0⟩ := htab
    obtain ⟨i, hi1, hi2⟩ := Option.map_eq_some_iff.1 hi
    simp only [Prod.mk.injEq] at hi2
    obtain ⟨i1, i2, i3⟩ := hi2
    obtain ⟨ad, rfl, hsrc⟩ := own_one hv hm
    have hne : news.length = m * size := hv.len
    have hcg : ∀ j u, xs[j]? = some u → w.cell? ⟨g, off + j, none⟩ = some u := fun j u hj => by simp [World.cell?, hg, hcur j u hj]
    have hmax : n + m ≤ maxLen := by
      have : (n + m) * 1 ≤ (n + m) * bytes := Nat.mul_le_mul_left _ hby0
      unfold maxLen; omega
    refine wpList_append_arg w hgd s x t ho e i z size bytes ht hi1 i1 i2 i3 hzs hsz0 g off n cap xs hs hl hcg ad m c news hx hne hsrc h1 ?_ hmax hbytes ?_ ?_
    · intro hroom j hj
      have hle : (n + m) * size ≤ cap * size := Nat.mul_le_mul_right _ hroom
      rw [Nat.add_mul] at hle
      have hlt : off + n * size + j < cur.size := by omega
      exact ⟨by simp [World.cell?, hg, hlt], by simp [World.frozen?, hg]⟩
    · intro hroom
      have hle : (n + m) * size ≤ cap * size := Nat.mul_le_mul_right _ hroom
      rw [Nat.add_mul] at hle
      have hst := run_storeCells_at P g (off + n * size) e news 0 cur w hg (by omega) h1
      have hst2 := run_storeCells_cells (P := P) g (off + n * size) news 0 w (by
        intro j hj
        have : off + n * size + 0 + j < cur.size := by omega
        simp [World.cell?, hg]; omega) (by intro j hj; simp [World.frozen?, hg]) h1
      rw [hst] at hst2
      simp only [Nat.add_zero, Result.ok.injEq, true_and] at hst2
      rw [← hst2]
      refine h _ _ _ ⟨by rw [List.length_append, hl, hne, Nat.add_mul], .inr ⟨g, off, _, rfl, hB, setRow_heap w g _ _ _ _ hg, hroom, hc, ?_, fun j u hj => ?_⟩⟩ (by simpa [blk] using fr_row _ _ _)
      · simp; omega
      · rw [← Array.getElem?_toList]
        have hoff : (cur.toList.take (off + n * size)).length = off + n * size := by rw [List.length_take, Array.length_toList]; omega
        rcases Nat.lt_or_ge j xs.length with hjx | hjx
        · rw [List.getElem?_append_left hjx] at hj
          have := hcur j u hj
          rw [List.toList_toArray, List.append_assoc, List.getElem?_append_left (by omega), List.getElem?_take, if_pos (by omega), Array.getElem?_toList]
          exact this
        · rw [List.getElem?_append_right hjx] at hj
          have hjn := (List.getElem?_eq_some_iff.1 hj).1
          rw [List.toList_toArray, List.append_assoc, List.getElem?_append_right (by omega), hoff, List.getElem?_append_left (by omega)]
          rw [show off + j - (off + n * size) = j - xs.length by omega]
          exact hj
    · intro hgrow v' w' h2 h3
      obtain ⟨ao', cap', rfl⟩ := ownsRow_form h2
      refine h ao' cap' w' (RowO.of_own (ownsRow_mono h2 hbase)) ?_
      exact ((Fr.grown h3).mono (by simp))
end Go.Proofs.YtoffaobiikdflaaGreatDoor
namespace Go.Proofs.YtoffaobiikdflaaGreatDoor
attribute [local go_sem ↓] Go.wp_at_zero Go.wp_at_succ
open Go.RowKit
open Rep (Is sz)

set_option maxHeartbeats 1000000 in
theorem igetu {F : List Nat} {v : Value} {b : List UInt8} (a : Nat) (w : World) (hl : b.length ≤ 1048576) (ha : a ≤ b.length) [h : Shows w F b [v]] :
    Calls Tryz.prog 126 #[v, .int .i64 (a : Int)] w fun e w' => e = .returned (.tuple #[.int .i64 (getR (getU b a)).1, .int .i64 (getR (getU b a)).2.1, .bool (getR (getU b a)).2.2]) ∧ Step w w' := by
  obtain ⟨ad, cap, hv, _, hvw, hml⟩ := bytes_open h.is
  have kk := h.known
  cases hv
  unfold maxLen at hml
  have hI := ipcs (v := .slice ad b.length cap) a w hl ha
  obtain ⟨r, hr⟩ : ∃ r, r = getR (getU b a) := ⟨_, rfl⟩
  rw [← hr]
  clear h
  go_enter Tryz.func126, Tryz.ntmps126
  cases hp : pcs b a with
  | none =>
    have hz := hid (show r = (0, 0, false) by rw [hr]; unfold getU; rw [hp]; rfl)
    rw [hp] at hI
    replace hI : Calls Tryz.prog 152 #[.slice ad b.length cap, .int .i64 (a : Int)] w fun e w' => e = .returned (.tuple #[.int .i64 0, .int .i64 0, .int .i64 0]) ∧ Step w w' := hI
    replace hr := hid hr
    clear hp
    go_wp2_with fail
    with_reducible refine Calls.mono hI ?_
    rintro e w2 ⟨rfl, st⟩
    go_wp2
    go_ret3
    exact ⟨by rw [hz.out]; rfl, mkStep⟩
  | some t =>
    obtain ⟨n, c, s⟩ := t
    obtain ⟨o1, o2, o3, o4, o5, o6, o7⟩ := pcs_ok hp
    have o8 : n < 34359738368 := Int.lt_of_lt_of_le o2 (by
      have : s = 1 ∨ s = 2 ∨ s = 3 ∨ s = 4 ∨ s = 5 := by omega
      rcases this with rfl | rfl | rfl | rfl | rfl <;> decide)
    clear o2
    rw [hp] at hI
    replace hI : Calls Tryz.prog 152 #[.slice ad b.length cap, .int .i64 (a : Int)] w fun e w' => e = .returned (.tuple #[.int .i64 n, .int .i64 c, .int .i64 (s : Int)]) ∧ Step w w' := hI
    by_cases hq : s = 5 ∧ (15 < c)
    · have hz := hid (show r = (0, 0, false) by rw [hr]; unfold getU; rw [hp]; simp only []; rw [if_pos hq]; rfl)
      replace hr := hid hr
      obtain ⟨rfl, hq2⟩ := hq
      clear hp
      go_wp2_with fail
      with_reducible refine Calls.mono hI ?_
      rintro e w2 ⟨rfl, st⟩
      go_wp2
      go_ret3
      exact ⟨by rw [hz.out]; rfl, mkStep⟩
    · have hz := hid (show r = (n, ((a + s : Nat) : Int), true) by rw [hr]; unfold getU; rw [hp]; simp only []; rw [if_neg hq]; rfl)
      replace hr := hid hr
      clear hp
      have z0 : ((s : Int) == 0) = false := by rw [beq_eq_false_iff_ne]; omega
      by_cases h5 : s = 5
      · subst h5
        have h15 : ¬ 15 < c := fun h => hq ⟨rfl, h⟩
        replace hq := hid hq
        go_wp2_with fail
        with_reducible refine Calls.mono hI ?_
        rintro e w2 ⟨rfl, st⟩
        go_wp2
        go_ret3
        exact ⟨by rw [hz.out]; first | rfl | simp, mkStep⟩
      · have z5 : ((s : Int) == 5) = false := by rw [beq_eq_false_iff_ne]; omega
        replace hq := hid hq
        go_wp2_with fail
        with_reducible refine Calls.mono hI ?_
        rintro e w2 ⟨rfl, st⟩
        go_wp2
        go_ret3
        exact ⟨by rw [hz.out]; first | rfl | simp, mkStep⟩


set_option maxHeartbeats 1000000 in
theorem igets {F : List Nat} {v : Value} {b : List UInt8} (a : Nat) (w : World) (hl : b.length ≤ 1048576) (ha : a ≤ b.length) [h : Shows w F b [v]] :
    Calls Tryz.prog 127 #[v, .int .i64 (a : Int)] w fun e w' => e = .returned (.tuple #[.int .i64 (getR (getS b a)).1, .int .i64 (getR (getS b a)).2.1, .bool (getR (getS b a)).2.2]) ∧ Step w w' := by
  obtain ⟨ad, cap, hv, _, hvw, hml⟩ := bytes_open h.is
  have kk := h.known
  cases hv
  unfold maxLen at hml
  have hI := ipcs (v := .slice ad b.length cap) a w hl ha
  obtain ⟨r, hr⟩ : ∃ r, r = getR (getS b a) := ⟨_, rfl⟩
  rw [← hr]
  clear h
  go_enter Tryz.func127, Tryz.ntmps127
  cases hp : pcs b a with
  | none =>
    have hz := hid (show r = (0, 0, false) by rw [hr]; unfold getS; rw [hp]; rfl)
    rw [hp] at hI
    replace hI : Calls Tryz.prog 152 #[.slice ad b.length cap, .int .i64 (a : Int)] w fun e w' => e = .returned (.tuple #[.int .i64 0, .int .i64 0, .int .i64 0]) ∧ Step w w' := hI
    replace hr := hid hr
    clear hp
    go_wp2_with fail
    with_reducible refine Calls.mono hI ?_
    rintro e w2 ⟨rfl, st⟩
    go_wp2_with (first | (go_at_call 70; (with_reducible refine Calls.mono (within_any ..) ?_); rintro e wk ⟨rfl, rfl⟩))
    go_ret3
    exact ⟨by rw [hz.out]; rfl, mkStep⟩
  | some t =>
    obtain ⟨n, c, s⟩ := t
    obtain ⟨o1, o2, o3, o4, o5, o6, o7⟩ := pcs_ok hp
    have o8 : n < 34359738368 := Int.lt_of_lt_of_le o2 (by
      have : s = 1 ∨ s = 2 ∨ s = 3 ∨ s = 4 ∨ s = 5 := by omega
      rcases this with rfl | rfl | rfl | rfl | rfl <;> decide)
    clear o2
    rw [hp] at hI
    replace hI : Calls Tryz.prog 152 #[.slice ad b.length cap, .int .i64 (a : Int)] w fun e w' => e = .returned (.tuple #[.int .i64 n, .int .i64 c, .int .i64 (s : Int)]) ∧ Step w w' := hI
    by_cases hq : s = 5 ∧ (8 ≤ c ∧ c ≤ 119)
    · have hz := hid (show r = (0, 0, false) by rw [hr]; unfold getS; rw [hp]; simp only []; rw [if_pos hq]; rfl)
      replace hr := hid hr
      obtain ⟨rfl, hq2⟩ := hq
      clear hp
      go_wp2_with fail
      with_reducible refine Calls.mono hI ?_
      rintro e w2 ⟨rfl, st⟩
      go_wp2_with (first | (go_at_call 70; (with_reducible refine Calls.mono (within_any ..) ?_); rintro e wk ⟨rfl, rfl⟩))
      go_ret3
      exact ⟨by rw [hz.out]; rfl, mkStep⟩
    · have hz := hid (show r = (if 64 ≤ c then n - 2 ^ (7 * s) else n, ((a + s : Nat) : Int), true) by rw [hr]; unfold getS; rw [hp]; simp only []; rw [if_neg hq]; rfl)
      replace hr := hid hr
      clear hp
      have z0 : ((s : Int) == 0) = false := by rw [beq_eq_false_iff_ne]; omega
      have s5 : s = 1 ∨ s = 2 ∨ s = 3 ∨ s = 4 ∨ s = 5 := by omega
      rcases s5 with rfl | rfl | rfl | rfl | rfl
      all_goals
        by_cases h64 : 64 ≤ c
        · replace hq := hid hq
          have hq2 := hq.out
          simp only [Nat.reduceEqDiff, false_and, true_and, not_false_eq_true] at hq2
          go_wp2_with fail
          with_reducible refine Calls.mono hI ?_
          rintro e w2 ⟨rfl, st⟩
          go_wp2_with (first | (go_at_call 70; (with_reducible refine Calls.mono (within_any ..) ?_); rintro e wk ⟨rfl, rfl⟩))
          go_ret3
          exact ⟨by rw [hz.out, if_pos (by omega)]; first | rfl | simp, mkStep⟩
        · replace hq := hid hq
          have hq2 := hq.out
          simp only [Nat.reduceEqDiff, false_and, true_and, not_false_eq_true] at hq2
          go_wp2_with fail
          with_reducible refine Calls.mono hI ?_
          rintro e w2 ⟨rfl, st⟩
          go_wp2_with (first | (go_at_call 70; (with_reducible refine Calls.mono (within_any ..) ?_); rintro e wk ⟨rfl, rfl⟩))
          go_ret3
          exact ⟨by rw [hz.out, if_neg (by omega)]; first | rfl | simp, mkStep⟩

end Go.Proofs.YtoffaobiikdflaaGreatDoor
namespace Go.Proofs.YtoffaobiikdflaaGreatDoor
attribute [local go_sem ↓] Go.wp_at_zero Go.wp_at_succ
open Go.RowKit
open Rep (Is sz)

/-- What a reader's step comes to: by bad, what was told, where it stands, whether it is bad. -/
def Out (bad : Bool) (o : Option (Int × Nat)) (n : Int) (a : Nat) (bad' : Bool) : Prop :=
  (bad = true → bad' = true) ∧ (bad = false → match o with | some (m, a') => n = m ∧ a = a' ∧ bad' = false | none => bad' = true)
theorem Out.none {o : Option (Int × Nat)} {bad : Bool} {n : Int} {a : Nat} (h : bad = true ∨ o = Option.none) : Out bad o n a true := ⟨fun _ => rfl, fun hb => by rcases h with h | h; exact absurd h (by simp [hb]); subst h; rfl⟩
theorem Out.some {bad : Bool} {n : Int} {a : Nat} : Out bad (Option.some (n, a)) n a bad := ⟨id, fun hb => ⟨rfl, rfl, hb⟩⟩

def byteAt (b : List UInt8) (a : Nat) : Option (Int × Nat) := match b[a]? with
  | Option.some c => Option.some ((c.toNat : Int), a + 1)
  | Option.none => Option.none
theorem byteAt_some {b : List UInt8} {a : Nat} (h : a < b.length) : byteAt b a = Option.some ((b[a].toNat : Int), a + 1) := by unfold byteAt; rw [List.getElem?_eq_getElem h]
theorem byteAt_none {b : List UInt8} {a : Nat} (h : ¬ a < b.length) : byteAt b a = Option.none := by unfold byteAt; rw [List.getElem?_eq_none (by omega)]

/-- A row's block is none of S. -/
theorem apart_ne {b o g : Nat} {l : List UInt8} {F : List Nat} (hF : F = if l = [] then [] else blk (some ⟨b, o, none⟩)) (h : Apart F [g]) (hl : 0 < l.length) : b ≠ g := by
  have hne : l ≠ [] := List.length_pos_iff.1 hl
  rw [if_neg hne] at hF
  have := h.ne b (by rw [hF]; simp [blk])
  simpa using this


theorem getU_ok {b : List UInt8} {a : Nat} {n : Int} {a' : Nat} (h : getU b a = some (n, a')) : 0 ≤ n ∧ n < 34359738368 ∧ a < a' ∧ a' ≤ b.length := by
  unfold getU at h
  cases hp : pcs b a with
  | none => rw [hp] at h; cases h
  | some t =>
    obtain ⟨n0, c, s⟩ := t
    obtain ⟨o1, o2, o3, o4, o5, o6, o7⟩ := pcs_ok hp
    have o8 : n0 < 34359738368 := Int.lt_of_lt_of_le o2 (by
      have : s = 1 ∨ s = 2 ∨ s = 3 ∨ s = 4 ∨ s = 5 := by omega
      rcases this with rfl | rfl | rfl | rfl | rfl <;> decide)
    rw [hp] at h
    simp only [] at h
    split at h
    · cases h
    · simp only [Option.some.injEq, Prod.mk.injEq] at h
      obtain ⟨rfl, rfl⟩ := h
      exact ⟨o1, o8, by omega, o7⟩
theorem getS_ok {b : List UInt8} {a : Nat} {n : Int} {a' : Nat} (h : getS b a = some (n, a')) : -34359738368 ≤ n ∧ n < 34359738368 ∧ a < a' ∧ a' ≤ b.length := by
  unfold getS at h
  cases hp : pcs b a with
  | none => rw [hp] at h; cases h
  | some t =>
    obtain ⟨n0, c, s⟩ := t
    obtain ⟨o1, o2, o3, o4, o5, o6, o7⟩ := pcs_ok hp
    have o9 : (2 : Int) ^ (7 * s) ≤ 34359738368 := by
      have : s = 1 ∨ s = 2 ∨ s = 3 ∨ s = 4 ∨ s = 5 := by omega
      rcases this with rfl | rfl | rfl | rfl | rfl <;> decide
    rw [hp] at h
    simp only [] at h
    split at h
    · cases h
    · simp only [Option.some.injEq, Prod.mk.injEq] at h
      obtain ⟨rfl, rfl⟩ := h
      refine ⟨?_, ?_, by omega, o7⟩
      · split <;> omega
      · split
        · have : (0 : Int) < 2 ^ (7 * s) := Int.pow_pos (by decide)
          omega
        · omega



/-- Must: whether the byte is the one that was wanted. -/
def OutM (bad : Bool) (o : Option (Int × Nat)) (x : Int) (a : Nat) (bad' : Bool) : Prop :=
  (bad = true → bad' = true) ∧ (bad = false → match o with | some (m, a') => if m = x then a = a' ∧ bad' = false else bad' = true | none => bad' = true)
theorem OutM.eq {bad : Bool} {o : Option (Int × Nat)} {x : Int} {a : Nat} {bad' : Bool} (h : Out bad o x a bad') : OutM bad o x a bad' := ⟨h.1, fun hb => by
  have h2 := h.2 hb
  cases o with
  | none => exact h2
  | some t => obtain ⟨m, c⟩ := t; obtain ⟨p1, p2, p3⟩ := h2; exact (if_pos p1.symm).mpr ⟨p2, p3⟩⟩
theorem OutM.ne {bad : Bool} {o : Option (Int × Nat)} {n x : Int} {a : Nat} {bad' : Bool} (h : Out bad o n a bad') (hn : ¬ n = x) : OutM bad o x a true := ⟨fun _ => rfl, fun hb => by
  have h2 := h.2 hb
  cases o with
  | none => rfl
  | some t => obtain ⟨m, c⟩ := t; obtain ⟨p1, p2, p3⟩ := h2; subst p1; exact (if_neg hn).mpr rfl⟩
end Go.Proofs.YtoffaobiikdflaaGreatDoor
namespace Go.Proofs.YtoffaobiikdflaaGreatDoor
attribute [local go_sem ↓] Go.wp_at_zero Go.wp_at_succ
open Go.RowKit
open Rep (Is sz)

/-- The immediates of an instruction of kind k, and where it ends. -/
def rdImm (b : List UInt8) (k : Int) (a : Nat) : Option (Int × Int × Nat) :=
  if k = 1 then match byteAt b a with
    | some (m, c) => if m = 127 then some (1, 0, c) else if m = 64 then some (0, 0, c) else none
    | none => none
  else if k = 2 then match getU b a with
    | some (m, c) => some (m, 0, c)
    | none => none
  else if k = 3 then match getU b a with
    | some (m, c) => match getU b c with
      | some (l, d) => some (l, m, d)
      | none => none
    | none => none
  else if k = 4 then match getS b a with
    | some (m, c) => some (m, 0, c)
    | none => none
  else some (0, 0, a)
/-- The byte behind memory.size and memory.grow. -/
def rdEnd (b : List UInt8) (op : Int) (a : Nat) : Option Nat :=
  if op = 63 ∨ op = 64 then match byteAt b a with
    | some (m, c) => if m = 0 then some c else none
    | none => none
  else some a
def rdIns (b : List UInt8) (a : Nat) : Option (InsD × Nat) := match byteAt b a with
  | none => none
  | some (op, a1) => match rdImm b (kindOf op) a1 with
    | none => none
    | some (x, y, a2) => match rdEnd b op a2 with
      | none => none
      | some a3 => if knownB op then some (⟨op, x, y⟩, a3) else none

def OutI (bad : Bool) (o : Option (InsD × Nat)) (i : InsD) (a : Nat) (bad' : Bool) : Prop :=
  (bad = true → bad' = true) ∧ (bad = false → match o with | some (j, c) => j = i ∧ a = c ∧ bad' = false | none => bad' = true)
def OutK (bad : Bool) (o : Option (Int × Int × Nat)) (x y : Int) (a : Nat) (bad' : Bool) : Prop :=
  (bad = true → bad' = true) ∧ (bad = false → match o with | some (x', y', c) => x' = x ∧ y' = y ∧ a = c ∧ bad' = false | none => bad' = true)
def OutE (bad : Bool) (o : Option Nat) (a : Nat) (bad' : Bool) : Prop :=
  (bad = true → bad' = true) ∧ (bad = false → match o with | some c => a = c ∧ bad' = false | none => bad' = true)

theorem k1a {b : List UInt8} {bad bad' : Bool} {m : Int} {a c : Nat} (h : Out bad (byteAt b a) m c bad') (e : m = 127) : OutK bad (rdImm b 1 a) 1 0 c bad' := ⟨h.1, fun hb => by
  have h2 := h.2 hb
  unfold rdImm
  rw [if_pos rfl]
  cases hq : byteAt b a with
  | none => rw [hq] at h2; exact h2
  | some t => obtain ⟨l, d⟩ := t; rw [hq] at h2; obtain ⟨p1, p2, p3⟩ := h2; subst p1; subst e; exact ⟨rfl, rfl, p2, p3⟩⟩
theorem k1b {b : List UInt8} {bad bad' : Bool} {m : Int} {a c : Nat} (h : Out bad (byteAt b a) m c bad') (e : m = 64) : OutK bad (rdImm b 1 a) 0 0 c bad' := ⟨h.1, fun hb => by
  have h2 := h.2 hb
  unfold rdImm
  rw [if_pos rfl]
  cases hq : byteAt b a with
  | none => rw [hq] at h2; exact h2
  | some t => obtain ⟨l, d⟩ := t; rw [hq] at h2; obtain ⟨p1, p2, p3⟩ := h2; subst p1; subst e; exact ⟨rfl, rfl, p2, p3⟩⟩
theorem k1c {b : List UInt8} {bad bad' : Bool} {m : Int} {a c : Nat} (h : Out bad (byteAt b a) m c bad') (e : ¬ m = 127) (e' : ¬ m = 64) : OutK bad (rdImm b 1 a) 0 0 c true := ⟨fun _ => rfl, fun hb => by
  have h2 := h.2 hb
  unfold rdImm
  rw [if_pos rfl]
  cases hq : byteAt b a with
  | none => rfl
  | some t => obtain ⟨l, d⟩ := t; rw [hq] at h2; obtain ⟨p1, p2, p3⟩ := h2; subst p1; simp only [if_neg e, if_neg e']⟩
theorem k2 {b : List UInt8} {bad bad' : Bool} {m : Int} {a c : Nat} (h : Out bad (getU b a) m c bad') : OutK bad (rdImm b 2 a) m 0 c bad' := ⟨h.1, fun hb => by
  have h2 := h.2 hb
  unfold rdImm
  rw [if_neg (by decide), if_pos rfl]
  cases hq : getU b a with
  | none => rw [hq] at h2; exact h2
  | some t => obtain ⟨l, d⟩ := t; rw [hq] at h2; obtain ⟨p1, p2, p3⟩ := h2; exact ⟨p1.symm, rfl, p2, p3⟩⟩
theorem k4 {b : List UInt8} {bad bad' : Bool} {m : Int} {a c : Nat} (h : Out bad (getS b a) m c bad') : OutK bad (rdImm b 4 a) m 0 c bad' := ⟨h.1, fun hb => by
  have h2 := h.2 hb
  unfold rdImm
  rw [if_neg (by decide), if_neg (by decide), if_neg (by decide), if_pos rfl]
  cases hq : getS b a with
  | none => rw [hq] at h2; exact h2
  | some t => obtain ⟨l, d⟩ := t; rw [hq] at h2; obtain ⟨p1, p2, p3⟩ := h2; exact ⟨p1.symm, rfl, p2, p3⟩⟩
theorem k3 {b : List UInt8} {bad bad' bad2 : Bool} {m n : Int} {a c d : Nat} (h : Out bad (getU b a) m c bad') (k : Out bad' (getU b c) n d bad2) : OutK bad (rdImm b 3 a) n m d bad2 := ⟨fun hb => k.1 (h.1 hb), fun hb => by
  have h2 := h.2 hb
  unfold rdImm
  rw [if_neg (by decide), if_neg (by decide), if_pos rfl]
  cases hq : getU b a with
  | none => rw [hq] at h2; exact k.1 h2
  | some t =>
    obtain ⟨l, f⟩ := t
    rw [hq] at h2
    obtain ⟨p1, p2, p3⟩ := h2
    subst p2
    have k2 := k.2 p3
    cases hr : getU b c with
    | none => rw [hr] at k2; simp only [hr]; exact k2
    | some u => obtain ⟨o, q⟩ := u; rw [hr] at k2; obtain ⟨r1, r2, r3⟩ := k2; simp only [hr]; exact ⟨r1.symm, p1.symm, r2, r3⟩⟩
theorem k0 {b : List UInt8} {bad : Bool} {a : Nat} : OutK bad (rdImm b 0 a) 0 0 a bad := ⟨id, fun hb => ⟨rfl, rfl, rfl, hb⟩⟩
theorem e0 {b : List UInt8} {bad : Bool} {a : Nat} {op : Int} (h : ¬ (op = 63 ∨ op = 64)) : OutE bad (rdEnd b op a) a bad := ⟨id, fun hb => by unfold rdEnd; rw [if_neg h]; exact ⟨rfl, hb⟩⟩
theorem e1 {b : List UInt8} {bad bad' : Bool} {a c : Nat} {op : Int} (h : op = 63 ∨ op = 64) (k : OutM bad (byteAt b a) 0 c bad') : OutE bad (rdEnd b op a) c bad' := ⟨k.1, fun hb => by
  have k2 := k.2 hb
  unfold rdEnd
  rw [if_pos h]
  cases hq : byteAt b a with
  | none => rw [hq] at k2; exact k2
  | some t =>
    obtain ⟨l, d⟩ := t
    rw [hq] at k2
    by_cases hz : l = 0
    · subst hz; exact k2
    · simp only [if_neg hz] at k2 ⊢; exact k2⟩
theorem rdIns_out {b : List UInt8} {bad bad1 bad2 bad3 : Bool} {op x y : Int} {a a1 a2 a3 : Nat} (h1 : Out bad (byteAt b a) op a1 bad1) (h2 : OutK bad1 (rdImm b (kindOf op) a1) x y a2 bad2) (h3 : OutE bad2 (rdEnd b op a2) a3 bad3) : OutI bad (rdIns b a) ⟨op, x, y⟩ a3 (bad3 || !knownB op) := ⟨fun hb => by rw [h3.1 (h2.1 (h1.1 hb))]; rfl, fun hb => by
  have q1 := h1.2 hb
  unfold rdIns
  cases e : byteAt b a with
  | none => rw [e] at q1; show (bad3 || _) = true; rw [h3.1 (h2.1 q1)]; rfl
  | some t =>
    obtain ⟨o, c⟩ := t
    rw [e] at q1
    obtain ⟨p1, p2, p3⟩ := q1
    subst p1 p2
    have q2 := h2.2 p3
    cases e2 : rdImm b (kindOf op) a1 with
    | none => rw [e2] at q2; simp only [e2]; rw [h3.1 q2]; rfl
    | some t =>
      obtain ⟨x', y', c⟩ := t
      rw [e2] at q2
      obtain ⟨r1, r2, r3, r4⟩ := q2
      subst r1 r2 r3
      have q3 := h3.2 r4
      cases e3 : rdEnd b op a2 with
      | none => rw [e3] at q3; simp only [e2, e3]; rw [q3]; rfl
      | some d =>
        rw [e3] at q3
        obtain ⟨s1, s2⟩ := q3
        subst s1
        simp only [e2, e3]
        cases knownB op with
        | true => exact ⟨rfl, rfl, by rw [s2]; rfl⟩
        | false => show (bad3 || true) = true; cases bad3 <;> rfl⟩

theorem box3 {w : World} {g : Nat} {C : Array Value} {x y z : Value} [h : BoxAt w g C] (hs : C.size = 3) : Box (((w.setCell ⟨g, 0, none⟩ x).setCell ⟨g, 1, none⟩ y).setCell ⟨g, 2, none⟩ z) g #[x, y, z] := by
  have k := ((h.is.set 0 x).set 1 y).set 2 z
  have e : ((C.setIfInBounds 0 x).setIfInBounds 1 y).setIfInBounds 2 z = #[x, y, z] := by
    obtain ⟨l⟩ := C
    match l, hs with
    | [p, q, r], _ => rfl
  exact e ▸ k
instance boxAt_other3 {w : World} {g A : Nat} {C : Array Value} {x y z : Value} [h : BoxAt w g C] [n : NeB A g] : BoxAt (((w.setCell ⟨A, 0, none⟩ x).setCell ⟨A, 1, none⟩ y).setCell ⟨A, 2, none⟩ z) g C := ⟨Box.other n.ne (Box.other n.ne (Box.other n.ne h.is))⟩

end Go.Proofs.YtoffaobiikdflaaGreatDoor
namespace Go.Proofs.YtoffaobiikdflaaGreatDoor
attribute [local go_sem ↓] Go.wp_at_zero Go.wp_at_succ
open Go.RowKit
open Rep (Is sz)

theorem Tryz.ints_tabD : Tryz.prog.underlying 76 = some (.slice 3) ∧ (Tryz.prog.info? 3).map (fun i => (i.zero, i.size, i.bytes)) = some (some (.int .i64 0), 1, 8) ∧ (Value.int .i64 0).cells.size = 1 ∧ 0 < 1 ∧ 0 < 8 :=
  ⟨Tryz.underlying76, by kernel_rfl, rfl, by omega, by omega⟩
theorem sopsO (w : World) : Calls Tryz.prog 57 #[] w fun e w' => ∃ ao co, e = .returned (.slice ao codesA.length co) ∧ w'.ownsRow w.heap.size 3 1 (.slice ao codesA.length co) codesA.length (intVs codesA) ∧ Step w w' := by
  go_enter Tryz.func57, Tryz.ntmps57
  go_wp2
  go_ret
  exact ⟨some ⟨w.heap.size, 0, none⟩, 24, rfl, own_litAt rfl rfl (Nat.le_refl _) (by unfold maxLen; decide) rfl, mkStep⟩
theorem sknown (w : World) : Calls Tryz.prog 125 #[] w fun e w' => ∃ (ao : Option Addr) (co : Nat) (l : List Int), e = .returned (.slice ao l.length co) ∧ 24 ≤ l.length ∧ l.length ≤ 60 ∧ Hid (∀ n ∈ l, In64 n) ∧ w'.ownsRow w.heap.size 3 1 (.slice ao l.length co) l.length (intVs l) ∧ Step w w' := by
  go_enter Tryz.func125, Tryz.ntmps125
  go_wp2_with fail
  with_reducible refine Calls.mono (sopsO _) ?_
  rintro e w1 ⟨a1, c1, rfl, own1, st1⟩
  obtain ⟨l1, hl1⟩ : ∃ l1, l1 = codesA := ⟨_, rfl⟩
  rw [← hl1] at own1
  have hn1 : 24 ≤ l1.length := by rw [hl1]; decide
  have hn2 : l1.length ≤ 24 := by rw [hl1]; decide
  have hi1 : ∀ n ∈ l1, In64 n := by rw [hl1]; exact in64_all (by decide +kernel)
  rw [← hl1]
  replace hl1 := hid hl1
  replace hi1 := hid hi1
  go_wp2_with fail
  go_loopw [1, 2] (fun o i wr => ∃ (j : Nat) (ao : Option Addr) (co : Nat) (l : List Int), j ≤ 10 ∧ i = .int .i64 (70 + (j : Int)) ∧ o = .slice ao l.length co ∧ 24 ≤ l.length ∧ l.length ≤ 24 + j ∧ Hid (∀ n ∈ l, In64 n) ∧ wr.ownsRow w.heap.size 3 1 (.slice ao l.length co) l.length (intVs l) ∧ Step w wr) (fun _ i _ => 80 - (intOf i).toNat)
  case atStart => exact ⟨0, a1, c1, l1, by omega, rfl, rfl, by omega, by omega, hi1, own1, mkStep⟩
  case round =>
    obtain ⟨j, aj, cj, lj, hj, rfl, rfl, hjm, hjl, hji, ownj, stj⟩ := hrel
    by_cases hlt : j < 10
    · go_wp2_with (at_builtin; go_must (refine app_one (fun n : Int => Value.int .i64 n) (fun _ => rfl) wr rfl (.tmp 9) (.tmp 11) 76 rfl 3 (.int .i64 0) 8 Tryz.ints_tabD w aj cj lj (70 + (j : Int)) rfl ownj wr.heap.size 1 rfl (by go_simp) (by go_simp) (by omega) ?_); intro ao4 co4 w4 own4 st4)
      have e4 : (lj ++ [70 + (j : Int)]).length = lj.length + 1 := by simp
      go_roundw
      case rel => exact ⟨j + 1, ao4, co4, lj ++ [70 + (j : Int)], by omega, by go_num, by rw [e4], by omega, by omega, hid (by intro n hn; rcases List.mem_append.1 hn with h | h; exact hji.out n h; rw [List.mem_singleton.1 h]; unfold In64; omega), by rw [e4]; exact own4, mkStep⟩
      case measure => simp [intOf]; omega
    · go_wp2_with fail
      go_loopw [1, 3] (fun o i wr => ∃ (j : Nat) (ao : Option Addr) (co : Nat) (l : List Int), j ≤ 18 ∧ i = .int .i64 (103 + (j : Int)) ∧ o = .slice ao l.length co ∧ 24 ≤ l.length ∧ l.length ≤ 34 + j ∧ Hid (∀ n ∈ l, In64 n) ∧ wr.ownsRow w.heap.size 3 1 (.slice ao l.length co) l.length (intVs l) ∧ Step w wr) (fun _ i _ => 121 - (intOf i).toNat)
      case atStart => exact ⟨0, aj, cj, lj, by omega, rfl, rfl, by omega, by omega, hji, ownj, mkStep⟩
      case round =>
        obtain ⟨k, ak, ck, lk, hk, rfl, rfl, hk0, hk1, hki, ownk, stk⟩ := hrel
        by_cases hlt2 : k < 18
        · go_wp2_with (at_builtin; go_must (refine app_one (fun n : Int => Value.int .i64 n) (fun _ => rfl) wr rfl (.tmp 17) (.tmp 19) 76 rfl 3 (.int .i64 0) 8 Tryz.ints_tabD w ak ck lk (103 + (k : Int)) rfl ownk wr.heap.size 1 rfl (by go_simp) (by go_simp) (by omega) ?_); intro ao4 co4 w4 own4 st4)
          have e4 : (lk ++ [103 + (k : Int)]).length = lk.length + 1 := by simp
          go_roundw
          case rel => exact ⟨k + 1, ao4, co4, lk ++ [103 + (k : Int)], by omega, by go_num, by rw [e4], by omega, by omega, hid (by intro n hn; rcases List.mem_append.1 hn with h | h; exact hki.out n h; rw [List.mem_singleton.1 h]; unfold In64; omega), by rw [e4]; exact own4, mkStep⟩
          case measure => simp [intOf]; omega
        · go_wp2
          go_ret
          exact ⟨ak, ck, lk, rfl, by omega, by omega, hki, ownk, mkStep⟩
/-- What a drawn instruction is. -/
def DrIns (p : Nat) (w : World) (e : Ending) (w' : World) : Prop := ∃ i : InsD, In3 i ∧ e = .returned (.agg #[.int .i64 i.op, .int .i64 i.a, .int .i64 i.b]) ∧ Cur w' p ∧ StepX [p] w w'
set_option maxHeartbeats 2000000 in
theorem sinsC {p : Nat} (w : World) [c : Cur w p] : Calls Tryz.prog 92 #[.pointer (some ⟨p, 0, none⟩)] w (DrIns p w) := by
  have ag : Arg p w := ⟨c.lt⟩
  have og : Old p w := ⟨c.lt⟩
  go_enter Tryz.func92, Tryz.ntmps92
  have bA : ∀ t, BoxL (w.alloc (Obj.cells #[Value.int IntKind.i64 0, Value.int IntKind.i64 0, Value.int IntKind.i64 0] t)) w.heap.size #[Value.int IntKind.i64 0, Value.int IntKind.i64 0, Value.int IntKind.i64 0] := fun t => ⟨Box.new _ _ t⟩
  go_wp2_with fail
  with_reducible refine Calls.mono (sknown _) ?_
  rintro e w2 ⟨ak, ck, l, rfl, hl0, hl1, hli, own, st2⟩
  go_wp2_with fail
  with_reducible refine Calls.mono (sbelowC _ _ (by omega)) ?_
  rintro e w3 ⟨x, hx, rfl, cu3, st3⟩
  replace hx : x < l.length := by omega
  have own3 := ownsRow_fr own st3.fr (by
    intro y hy hm
    rw [List.mem_singleton] at hm; subst hm
    have h1 := (ownsRow_blk own _ hy).1
    rw [World.size_alloc] at h1
    have := ag.lt
    omega)
  obtain ⟨bk, ok, rfl, hck, _, hok⟩ := (ownsRow_view own3).get x hx (.int .i64 l[x]) (by simp [intVs, hx])
  have hI : In64 l[x] := hli.out _ (List.getElem_mem hx)
  obtain ⟨op, hop⟩ : ∃ op, op = l[x] := ⟨_, rfl⟩
  rw [← hop] at hck hI
  replace hop := hid hop
  go_wp2_with fail
  with_reducible refine Calls.mono (skind ..) ?_
  rintro e w4 ⟨rfl, st4⟩
  have bB : BoxL (w3.alloc (Obj.cells #[Value.int IntKind.i64 op, Value.int IntKind.i64 0, Value.int IntKind.i64 0] 39)) w3.heap.size #[Value.int IntKind.i64 op, Value.int IntKind.i64 0, Value.int IntKind.i64 0] := ⟨Box.new ..⟩
  have oB := bB.old
  have BA : ¬ w3.heap.size = w.heap.size := by
    have h1 := st2.fr.size
    have h2 := st3.fr.size
    rw [World.size_alloc] at h1
    omega
  have AB : ¬ w.heap.size = w3.heap.size := Ne.symm BA
  have nBA : NeB w3.heap.size w.heap.size := ⟨BA⟩
  clear hck own3 own hok
  rcases kind_cases op with ⟨k, h5⟩ | ⟨k, h5⟩ | ⟨k, h5⟩ | ⟨k, h5⟩ | ⟨k, h5⟩
  all_goals
    rw [k]
    clear h5
  · go_wp2_with fail
    with_reducible refine Calls.mono (sbelowC _ _ (by omega)) ?_
    rintro e w5 ⟨y, hy, rfl, cu5, st5⟩
    go_wp2
    refine ret_box w.heap.size 3 _ _ (box3 (C := #[Value.int IntKind.i64 0, Value.int IntKind.i64 0, Value.int IntKind.i64 0]) rfl) rfl rfl rfl Tryz.underlying39 rfl (by kernel_rfl) rfl rfl ?_
    exact ⟨⟨op, y, 0⟩, ⟨hI, by unfold In64; (try simp only []); omega, by unfold In64; (try simp only []); omega⟩, rfl, inferInstance, mkStepX⟩
  · go_wp2_with fail
    with_reducible refine Calls.mono (sbelowC _ _ (by omega)) ?_
    rintro e w5 ⟨y, hy, rfl, cu5, st5⟩
    go_wp2
    refine ret_box w.heap.size 3 _ _ (box3 (C := #[Value.int IntKind.i64 0, Value.int IntKind.i64 0, Value.int IntKind.i64 0]) rfl) rfl rfl rfl Tryz.underlying39 rfl (by kernel_rfl) rfl rfl ?_
    exact ⟨⟨op, y, 0⟩, ⟨hI, by unfold In64; (try simp only []); omega, by unfold In64; (try simp only []); omega⟩, rfl, inferInstance, mkStepX⟩
  · go_wp2_with fail
    with_reducible refine Calls.mono (sbelowC _ _ (by omega)) ?_
    rintro e w5 ⟨y, hy, rfl, cu5, st5⟩
    go_wp2_with fail
    with_reducible refine Calls.mono (sbelowC _ _ (by omega)) ?_
    rintro e w6 ⟨z, hz, rfl, cu6, st6⟩
    go_wp2
    refine ret_box w.heap.size 3 _ _ (box3 (C := #[Value.int IntKind.i64 0, Value.int IntKind.i64 0, Value.int IntKind.i64 0]) rfl) rfl rfl rfl Tryz.underlying39 rfl (by kernel_rfl) rfl rfl ?_
    exact ⟨⟨op, y, z⟩, ⟨hI, by unfold In64; (try simp only []); omega, by unfold In64; (try simp only []); omega⟩, rfl, inferInstance, mkStepX⟩
  · go_wp2_with fail
    with_reducible refine Calls.mono (srawC _) ?_
    rintro e w5 ⟨y, hy, rfl, cu5, st5⟩
    go_wp2_with fail
    with_reducible refine Calls.mono (swrap_any ..) ?_
    rintro e w6 ⟨rfl, rfl⟩
    go_wp2
    refine ret_box w.heap.size 3 _ _ (box3 (C := #[Value.int IntKind.i64 0, Value.int IntKind.i64 0, Value.int IntKind.i64 0]) rfl) rfl rfl rfl Tryz.underlying39 rfl (by kernel_rfl) rfl rfl ?_
    exact ⟨⟨op, wrap32 y, 0⟩, ⟨hI, by unfold wrap32 In64; (try simp only []); omega, by unfold In64; (try simp only []); omega⟩, rfl, inferInstance, mkStepX⟩
  · go_wp2
    refine ret_box w.heap.size 3 _ _ (box3 (C := #[Value.int IntKind.i64 0, Value.int IntKind.i64 0, Value.int IntKind.i64 0]) rfl) rfl rfl rfl Tryz.underlying39 rfl (by kernel_rfl) rfl rfl ?_
    exact ⟨⟨op, 0, 0⟩, ⟨hI, by unfold In64; (try simp only []); omega, by unfold In64; (try simp only []); omega⟩, rfl, inferInstance, mkStepX⟩
end Go.Proofs.YtoffaobiikdflaaGreatDoor
namespace Go.Proofs.YtoffaobiikdflaaGreatDoor
attribute [local go_sem ↓] Go.wp_at_zero Go.wp_at_succ
open Go.RowKit
open Rep (Is sz)

theorem sanyinsC {p : Nat} (w : World) [c : Cur w p] : Calls Tryz.prog 51 #[.pointer (some ⟨p, 0, none⟩)] w (DrIns p w) := by
  have ag : Arg p w := ⟨c.lt⟩
  have og : Old p w := ⟨c.lt⟩
  go_enter Tryz.func51, Tryz.ntmps51
  have bA : ∀ t, BoxL (w.alloc (Obj.cells #[Value.int IntKind.i64 0, Value.int IntKind.i64 0, Value.int IntKind.i64 0] t)) w.heap.size #[Value.int IntKind.i64 0, Value.int IntKind.i64 0, Value.int IntKind.i64 0] := fun t => ⟨Box.new _ _ t⟩
  go_wp2_with fail
  with_reducible refine Calls.mono (sinsC _) ?_
  rintro e w3 ⟨i, hi, rfl, cu3, st3⟩
  obtain ⟨i0, i1, i2⟩ := hi
  have bB : BoxL (w3.alloc (Obj.cells #[Value.int IntKind.i64 i.op, Value.int IntKind.i64 i.a, Value.int IntKind.i64 i.b] 39)) w3.heap.size #[Value.int IntKind.i64 i.op, Value.int IntKind.i64 i.a, Value.int IntKind.i64 i.b] := ⟨Box.new ..⟩
  have oB := bB.old
  have BA : ¬ w3.heap.size = w.heap.size := by
    have h2 := st3.fr.size
    rw [World.size_alloc] at h2
    omega
  have AB : ¬ w.heap.size = w3.heap.size := Ne.symm BA
  have nBA : NeB w3.heap.size w.heap.size := ⟨BA⟩
  go_wp2_with fail
  with_reducible refine Calls.mono (sbelowC _ _ (by omega)) ?_
  rintro e w4 ⟨k, hk, rfl, cu4, st4⟩
  by_cases k0 : k = 0
  · subst k0
    go_wp2_with fail
    with_reducible refine Calls.mono (srawC _) ?_
    rintro e w5 ⟨y, hy, rfl, cu5, st5⟩
    go_wp2
    refine ret_box w.heap.size 3 _ _ (box3 (C := #[Value.int IntKind.i64 0, Value.int IntKind.i64 0, Value.int IntKind.i64 0]) rfl) rfl rfl rfl Tryz.underlying39 rfl (by kernel_rfl) rfl rfl ?_
    exact ⟨⟨y, i.a, i.b⟩, ⟨hy, i1, i2⟩, rfl, inferInstance, mkStepX⟩
  by_cases k1 : k = 1
  · subst k1
    go_wp2_with fail
    with_reducible refine Calls.mono (srawC _) ?_
    rintro e w5 ⟨y, hy, rfl, cu5, st5⟩
    go_wp2
    refine ret_box w.heap.size 3 _ _ (box3 (C := #[Value.int IntKind.i64 0, Value.int IntKind.i64 0, Value.int IntKind.i64 0]) rfl) rfl rfl rfl Tryz.underlying39 rfl (by kernel_rfl) rfl rfl ?_
    exact ⟨⟨i.op, y, i.b⟩, ⟨i0, hy, i2⟩, rfl, inferInstance, mkStepX⟩
  by_cases k2 : k = 2
  · subst k2
    go_wp2_with fail
    with_reducible refine Calls.mono (sbelowC _ _ (by omega)) ?_
    rintro e w5 ⟨y, hy, rfl, cu5, st5⟩
    go_wp2
    refine ret_box w.heap.size 3 _ _ (box3 (C := #[Value.int IntKind.i64 0, Value.int IntKind.i64 0, Value.int IntKind.i64 0]) rfl) rfl rfl rfl Tryz.underlying39 rfl (by kernel_rfl) rfl rfl ?_
    exact ⟨⟨i.op, i.a, y⟩, ⟨i0, i1, by unfold In64; (try simp only []); omega⟩, rfl, inferInstance, mkStepX⟩
  · have x0 : ((k : Int) == 0) = false := by rw [beq_eq_false_iff_ne]; omega
    have x1 : ((k : Int) == 1) = false := by rw [beq_eq_false_iff_ne]; omega
    have x2 : ((k : Int) == 2) = false := by rw [beq_eq_false_iff_ne]; omega
    go_wp2
    refine ret_box w.heap.size 3 _ _ (box3 (C := #[Value.int IntKind.i64 0, Value.int IntKind.i64 0, Value.int IntKind.i64 0]) rfl) rfl rfl rfl Tryz.underlying39 rfl (by kernel_rfl) rfl rfl ?_
    exact ⟨⟨i.op, i.a, i.b⟩, ⟨i0, i1, i2⟩, rfl, inferInstance, mkStepX⟩

/-- What a drawn body is. -/
def DrBody (p : Nat) (w : World) (L : Nat) (e : Ending) (w' : World) : Prop :=
  ∃ (ao : Option Addr) (co : Nat) (l : List InsD), e = .returned (.slice ao l.length co) ∧ l.length ≤ L ∧ Hid (∀ i ∈ l, In3 i) ∧ w'.ownsRow w.heap.size 39 3 (.slice ao l.length co) l.length (l.flatMap insVs) ∧ Cur w' p ∧ StepX [p] w w'
/-- A row of one's own behind steps that moved the cursor. -/
theorem own_px (p : Nat) {w m W : World} {e : TypeId} {sz n cap : Nat} {ao : Option Addr} {xs : List Value} (h : m.ownsRow w.heap.size e sz (.slice ao n cap) n xs) [ag : Arg p w] [f : FrX [p] m W] : W.ownsRow w.heap.size e sz (.slice ao n cap) n xs :=
  ownsRow_fr h f.fr (fun x hx hm => by rw [List.mem_singleton] at hm; have := (ownsRow_blk h x hx).1; have := ag.lt; omega)
theorem abv_own {p : Nat} {w m : World} {e : TypeId} {sz n cap : Nat} {ao : Option Addr} {xs : List Value} (h : m.ownsRow w.heap.size e sz (.slice ao n cap) n xs) [ag : Arg p w] : Abv p (blk ao) := ⟨fun b hb => by have := (ownsRow_blk h b hb).1; have := ag.lt; omega⟩
theorem sub_own {S : List Nat} {w m : World} {e : TypeId} {sz n cap : Nat} {ao : Option Addr} {xs : List Value} (h : m.ownsRow w.heap.size e sz (.slice ao n cap) n xs) : SubX w (blk ao) S := ⟨fun b hb => .inr (ownsRow_blk h b hb).1⟩
theorem insVs_allD (l : List InsD) : ∀ u ∈ l.flatMap insVs, u.oneCell' = true := by
  intro u hu
  obtain ⟨i, _, h⟩ := List.mem_flatMap.1 hu
  exact insVs_one i u h
/-- append(s, x...): rows of instructions. -/
theorem app_ins {P : Program} {W : World} {ops : Array Oper} {rest : List Oper} {o : Oper} {a : Act} {Q : Exit → Act → World → Prop} (hgd : o.guard = none) (s x : Operand) (t : TypeId)
    (ho : o.op = .call { callee := .builtin .append, args := #[s, x], argTypes := #[t, t] })
    (e : TypeId) (htab : P.underlying t = some (.slice e) ∧ (P.info? e).map (fun i => (i.zero, i.size, i.bytes)) = some (some (.agg #[.int .i64 0, .int .i64 0, .int .i64 0]), 3, 24) ∧ (.agg #[.int .i64 0, .int .i64 0, .int .i64 0] : Value).cells.size = 3 ∧ 0 < 3 ∧ 0 < 24)
    (B : Nat) (ao : Option Addr) (cap : Nat) (l : List InsD) (hs : a.eval s = .slice ao l.length cap) (hown : W.ownsRow B e 3 (.slice ao l.length cap) l.length (l.flatMap insVs))
    (ax : Option Addr) (c : Nat) (y r : List InsD) (hx : a.eval x = .slice ax y.length c) (hv : View W ax 3 y.length (y.flatMap insVs)) (hr : l ++ y = r) (hb : l.length + y.length ≤ 1000000) (hB : B ≤ W.heap.size)
    (h : ∀ ao' cap' w', w'.ownsRow B e 3 (.slice ao' r.length cap') r.length (r.flatMap insVs) → StepX (blk ao) W w' → wpList P ops Q rest (a.put o.dst (.slice ao' r.length cap')) w') : wpList P ops Q (o :: rest) a W := by
  subst hr
  refine app_own W hgd s x t ho e _ 3 24 htab B ao l.length cap (l.flatMap insVs) hs hown ax y.length c (y.flatMap insVs) hx hv (insVs_allD y) (by omega) hB ?_
  intro ao' cap' w' h1 h2
  rw [← List.flatMap_append, ← List.length_append] at h1
  rw [← List.length_append]
  exact h ao' cap' w' h1 ⟨h2⟩
theorem in3_app {l y : List InsD} (h1 : ∀ i ∈ l, In3 i) (h2 : ∀ i ∈ y, In3 i) : ∀ i ∈ l ++ y, In3 i := fun i hi => by
  rcases List.mem_append.1 hi with h | h
  · exact h1 i h
  · exact h2 i h
theorem in3_one {i : InsD} (h : In3 i) : ∀ x ∈ [i], In3 x := fun x hx => by rw [List.mem_singleton.1 hx]; exact h
set_option maxHeartbeats 4000000 in
/-- A drawn body of a right shape, so deep; the deeper ones are known. -/
theorem sdrawS {p : Nat} (deep : Nat) (M : Nat) (w : World) (hd : deep ≤ 3) (hM : M ≤ 10000) [c : Cur w p]
    (ih : deep < 3 → ∀ (m : World), Cur m p → Calls Tryz.prog 50 #[.pointer (some ⟨p, 0, none⟩), .int .i64 ((deep : Int) + 1)] m (DrBody p m M)) :
    Calls Tryz.prog 50 #[.pointer (some ⟨p, 0, none⟩), .int .i64 deep] w (DrBody p w (4 * (3 + 2 * M))) := by
  have ag : Arg p w := ⟨c.lt⟩
  have og : Old p w := ⟨c.lt⟩
  obtain ⟨K, hK⟩ : ∃ K, 3 + 2 * M = K := ⟨_, rfl⟩
  rw [hK]
  replace ih := hid ih
  go_enter Tryz.func50, Tryz.ntmps50
  go_wp2_with fail
  with_reducible refine Calls.mono (sbelowC _ _ (by omega)) ?_
  rintro e w3 ⟨n, hn, rfl, cu3, st3⟩
  replace hn : n ≤ 4 := by omega
  have own0 : w3.ownsRow w.heap.size 39 3 (.slice (some ⟨w.heap.size, 0, none⟩) ([] : List InsD).length 0) ([] : List InsD).length (([] : List InsD).flatMap insVs) := own_px p (own_lit w #[] _ 3 0 _ (Nat.le_refl _) (by unfold maxLen; omega) rfl)
  have hKb : K ≤ 20003 := by omega
  have hn4 := hid (show ([] : List InsD).length + n * K ≤ 4 * K by rw [List.length_nil, Nat.zero_add]; exact Nat.mul_le_mul_right _ hn)
  go_wp2_with fail
  go_loopw [5, 6] (fun o i wr => ∃ (j : Nat) (ao : Option Addr) (co : Nat) (l : List InsD), j ≤ 4 ∧ i = .int .i64 j ∧ o = .slice ao l.length co ∧ Hid (l.length + j * K ≤ 4 * K) ∧ Hid (∀ i ∈ l, In3 i) ∧ wr.ownsRow w.heap.size 39 3 (.slice ao l.length co) l.length (l.flatMap insVs) ∧ Cur wr p ∧ StepX [p] w wr) (fun _ i _ => (intOf i).toNat)
  case atStart => exact ⟨n, _, 0, [], hn, rfl, rfl, hn4, hid (by simp), own0, inferInstance, mkStepX⟩
  case round =>
    clear own0 hn4
    obtain ⟨j, ao, co, l, hj, rfl, rfl, hjl, hji, own, cu, st⟩ := hrel
    have gw := st.fr.size
    by_cases hlt : 0 < j
    · obtain ⟨i, rfl⟩ : ∃ i, j = i + 1 := ⟨j - 1, by omega⟩
      have hjl2 : l.length + i * K + K ≤ 4 * K := by have := hjl.out; rw [Nat.succ_mul] at this; omega
      have hll : l.length ≤ 80012 := by omega
      replace hjl2 := hid hjl2
      have ab : Abv p (blk ao) := abv_own own
      have sb : SubX w (blk ao) [p] := sub_own own
      go_wp2_with fail
      with_reducible refine Calls.mono (sbelowC _ _ (by omega)) ?_
      rintro e w5 ⟨k, hk, rfl, cu5, st5⟩
      by_cases hk2 : k < 2 ∧ deep < 3
      · obtain ⟨hk2, hd3⟩ := hk2
        have ih2 := hid (ih.out hd3)
        go_wp2_with fail
        with_reducible refine Calls.mono (sbelowC _ _ (by omega)) ?_
        rintro e w6 ⟨x, hx, rfl, cu6, st6⟩
        replace hx : x < 3 := by omega
        obtain ⟨op, hop, hop2⟩ : ∃ op : Int, ([Value.int .i64 2, .int .i64 3, .int .i64 4] : List Value)[x]'(by simpa using hx) = .int .i64 op ∧ (op = 2 ∨ op = 3 ∨ op = 4) := by
          rcases (show x = 0 ∨ x = 1 ∨ x = 2 by omega) with rfl | rfl | rfl
          · exact ⟨2, rfl, .inl rfl⟩
          · exact ⟨3, rfl, .inr (.inl rfl)⟩
          · exact ⟨4, rfl, .inr (.inr rfl)⟩
        have hop9 : In64 op := by unfold In64; omega
        replace hop2 := hid hop2
        have bL : BoxL (w5.alloc (Obj.cells #[Value.int .i64 2, .int .i64 3, .int .i64 4] 3)) w5.heap.size #[Value.int .i64 2, .int .i64 3, .int .i64 4] := ⟨Box.new ..⟩
        have oL := bL.old
        have nL : NewB w w5.heap.size := inferInstance
        have hx3 : (x : Int) < 3 := by omega
        go_wp2_with fail
        with_reducible refine Calls.mono (sbelowC _ _ (by omega)) ?_
        rintro e w7 ⟨y, hy, rfl, cu7, st7⟩
        replace hy : y < 2 := by omega
        have hiy : In3 ⟨op, y, 0⟩ := ⟨hop9, by unfold In64; (try simp only []); omega, by unfold In64; (try simp only []); omega⟩
        obtain ⟨r1, hr1⟩ : ∃ r1, l ++ [⟨op, (y : Int), 0⟩] = r1 := ⟨_, rfl⟩
        have hlr1 : r1.length ≤ l.length + 1 := by rw [← hr1]; simp
        have hir1 := hid (show ∀ i ∈ r1, In3 i by rw [← hr1]; exact in3_app hji.out (in3_one hiy))
        go_wp2_with (at_builtin; go_must (refine app_ins rfl (.tmp 30) (.tmp 35) 23 rfl 39 Tryz.inss_tab w.heap.size ao co l rfl (own_px p own) _ 1 [⟨op, (y : Int), 0⟩] r1 rfl (view_lit _ _ _ _ _ rfl) hr1 (by simp; omega) (FrX.fr (S := [p]) (a := w)).size ?_); intro ar1 cr1 wr1 ownr1 sxr1)
        have abr1 : Abv p (blk ar1) := abv_own ownr1
        have sbr1 : SubX w (blk ar1) [p] := sub_own ownr1
        with_reducible refine Calls.mono (ih2.out _ inferInstance) ?_
        rintro e wD ⟨aD, cD, lD, rfl, hlD, hiD, ownD, cuD, stD⟩
        by_cases op4 : op = 4
        · subst op4
          obtain ⟨r2, hr2⟩ : ∃ r2, r1 ++ lD = r2 := ⟨_, rfl⟩
          have hlr2 : r2.length ≤ r1.length + lD.length := by rw [← hr2, List.length_append]; omega
          have hir2 := hid (show ∀ i ∈ r2, In3 i by rw [← hr2]; exact in3_app hir1.out hiD.out)
          go_wp2_with (at_builtin; go_must (refine app_ins rfl (.tmp 36) (.tmp 40) 23 rfl 39 Tryz.inss_tab w.heap.size ar1 cr1 r1 rfl (own_px p ownr1) _ cD lD r2 rfl (ownsRow_view ownD) hr2 (by omega) (FrX.fr (S := [p]) (a := w)).size ?_); intro ar2 cr2 wr2 ownr2 sxr2)
          have abr2 : Abv p (blk ar2) := abv_own ownr2
          have sbr2 : SubX w (blk ar2) [p] := sub_own ownr2
          with_reducible refine Calls.mono (sbelowC _ _ (by omega)) ?_
          rintro e wz ⟨z, hz, rfl, cuz, stz⟩
          by_cases hz0 : z = 0
          · subst hz0
            obtain ⟨r3, hr3⟩ : ∃ r3, r2 ++ [⟨5, 0, 0⟩] = r3 := ⟨_, rfl⟩
            have hlr3 : r3.length ≤ r2.length + 1 := by rw [← hr3]; simp
            have hir3 := hid (show ∀ i ∈ r3, In3 i by rw [← hr3]; exact in3_app hir2.out (in3_one (show In3 ⟨5, 0, 0⟩ from ⟨by unfold In64; (try simp only []); omega, by unfold In64; (try simp only []); omega, by unfold In64; (try simp only []); omega⟩)))
            go_wp2_with (at_builtin; go_must (refine app_ins rfl (.tmp 49) (.tmp 51) 23 rfl 39 Tryz.inss_tab w.heap.size ar2 cr2 r2 rfl (own_px p ownr2) _ 1 [⟨5, 0, 0⟩] r3 rfl (view_lit _ _ _ _ _ rfl) hr3 (by simp; omega) (FrX.fr (S := [p]) (a := w)).size ?_); intro ar3 cr3 wr3 ownr3 sxr3)
            have abr3 : Abv p (blk ar3) := abv_own ownr3
            have sbr3 : SubX w (blk ar3) [p] := sub_own ownr3
            with_reducible refine Calls.mono (ih2.out _ inferInstance) ?_
            rintro e wE ⟨aE, cE, lE, rfl, hlE, hiE, ownE, cuE, stE⟩
            obtain ⟨r4, hr4⟩ : ∃ r4, r3 ++ lE = r4 := ⟨_, rfl⟩
            have hlr4 : r4.length ≤ r3.length + lE.length := by rw [← hr4, List.length_append]; omega
            have hir4 := hid (show ∀ i ∈ r4, In3 i by rw [← hr4]; exact in3_app hir3.out hiE.out)
            obtain ⟨rF, hrF⟩ : ∃ rF, r4 ++ [⟨11, 0, 0⟩] = rF := ⟨_, rfl⟩
            have hlrF : rF.length ≤ r4.length + 1 := by rw [← hrF]; simp
            have hirF := hid (show ∀ i ∈ rF, In3 i by rw [← hrF]; exact in3_app hir4.out (in3_one (show In3 ⟨11, 0, 0⟩ from ⟨by unfold In64; (try simp only []); omega, by unfold In64; (try simp only []); omega, by unfold In64; (try simp only []); omega⟩)))
            go_wp2_with (first | (at_builtin; (refine app_ins rfl (.tmp 52) (.tmp 56) 23 rfl 39 Tryz.inss_tab w.heap.size ar3 cr3 r3 rfl (own_px p ownr3) _ cE lE r4 rfl (ownsRow_view ownE) hr4 (by omega) (FrX.fr (S := [p]) (a := w)).size ?_); intro ar4 cr4 wr4 ownr4 sxr4) | (at_builtin; (refine app_ins rfl (.tmp 58) (.tmp 60) 23 rfl 39 Tryz.inss_tab w.heap.size ar4 cr4 r4 rfl (own_px p ownr4) _ 1 [⟨11, 0, 0⟩] rF rfl (view_lit _ _ _ _ _ rfl) hrF (by simp; omega) (FrX.fr (S := [p]) (a := w)).size ?_); intro arF crF wrF ownrF sxrF))
            have abr4 : Abv p (blk ar4) := abv_own ownr4
            have sbr4 : SubX w (blk ar4) [p] := sub_own ownr4
            have abrF : Abv p (blk arF) := abv_own ownrF
            have sbrF : SubX w (blk arF) [p] := sub_own ownrF
            go_roundw
            case rel => exact ⟨i, arF, crF, rF, by omega, by go_num, rfl, hid (by have := hjl2.out; omega), hirF, ownrF, inferInstance, mkStepX⟩
            case measure => simp [intOf]
          · have hz1 : ((z : Int) == 0) = false := by rw [beq_eq_false_iff_ne]; omega
            obtain ⟨rF, hrF⟩ : ∃ rF, r2 ++ [⟨11, 0, 0⟩] = rF := ⟨_, rfl⟩
            have hlrF : rF.length ≤ r2.length + 1 := by rw [← hrF]; simp
            have hirF := hid (show ∀ i ∈ rF, In3 i by rw [← hrF]; exact in3_app hir2.out (in3_one (show In3 ⟨11, 0, 0⟩ from ⟨by unfold In64; (try simp only []); omega, by unfold In64; (try simp only []); omega, by unfold In64; (try simp only []); omega⟩)))
            go_wp2_with (at_builtin; go_must (refine app_ins rfl (.tmp 58) (.tmp 60) 23 rfl 39 Tryz.inss_tab w.heap.size ar2 cr2 r2 rfl (own_px p ownr2) _ 1 [⟨11, 0, 0⟩] rF rfl (view_lit _ _ _ _ _ rfl) hrF (by simp; omega) (FrX.fr (S := [p]) (a := w)).size ?_); intro arF crF wrF ownrF sxrF)
            have abrF : Abv p (blk arF) := abv_own ownrF
            have sbrF : SubX w (blk arF) [p] := sub_own ownrF
            go_roundw
            case rel => exact ⟨i, arF, crF, rF, by omega, by go_num, rfl, hid (by have := hjl2.out; omega), hirF, ownrF, inferInstance, mkStepX⟩
            case measure => simp [intOf]
        · have op5 : (op == 4) = false := beq_eq_false_iff_ne.2 op4
          obtain ⟨r2, hr2⟩ : ∃ r2, r1 ++ lD = r2 := ⟨_, rfl⟩
          have hlr2 : r2.length ≤ r1.length + lD.length := by rw [← hr2, List.length_append]; omega
          have hir2 := hid (show ∀ i ∈ r2, In3 i by rw [← hr2]; exact in3_app hir1.out hiD.out)
          obtain ⟨rF, hrF⟩ : ∃ rF, r2 ++ [⟨11, 0, 0⟩] = rF := ⟨_, rfl⟩
          have hlrF : rF.length ≤ r2.length + 1 := by rw [← hrF]; simp
          have hirF := hid (show ∀ i ∈ rF, In3 i by rw [← hrF]; exact in3_app hir2.out (in3_one (show In3 ⟨11, 0, 0⟩ from ⟨by unfold In64; (try simp only []); omega, by unfold In64; (try simp only []); omega, by unfold In64; (try simp only []); omega⟩)))
          go_wp2_with (first | (at_builtin; (refine app_ins rfl (.tmp 36) (.tmp 40) 23 rfl 39 Tryz.inss_tab w.heap.size ar1 cr1 r1 rfl (own_px p ownr1) _ cD lD r2 rfl (ownsRow_view ownD) hr2 (by omega) (FrX.fr (S := [p]) (a := w)).size ?_); intro ar2 cr2 wr2 ownr2 sxr2) | (at_builtin; (refine app_ins rfl (.tmp 58) (.tmp 60) 23 rfl 39 Tryz.inss_tab w.heap.size ar2 cr2 r2 rfl (own_px p ownr2) _ 1 [⟨11, 0, 0⟩] rF rfl (view_lit _ _ _ _ _ rfl) hrF (by simp; omega) (FrX.fr (S := [p]) (a := w)).size ?_); intro arF crF wrF ownrF sxrF))
          have abr2 : Abv p (blk ar2) := abv_own ownr2
          have sbr2 : SubX w (blk ar2) [p] := sub_own ownr2
          have abrF : Abv p (blk arF) := abv_own ownrF
          have sbrF : SubX w (blk arF) [p] := sub_own ownrF
          go_roundw
          case rel => exact ⟨i, arF, crF, rF, by omega, by go_num, rfl, hid (by have := hjl2.out; omega), hirF, ownrF, inferInstance, mkStepX⟩
          case measure => simp [intOf]
      · have hb : ¬ k < 2 ∨ ¬ deep < 3 := by omega
        by_cases hk3 : k < 2
        all_goals
          first | (have hd4 : ¬ deep < 3 := by omega) | skip
          replace hb := hid hb
          go_wp2_with fail
          with_reducible refine Calls.mono (sinsC _) ?_
          rintro e w6 ⟨q, hq, rfl, cu6, st6⟩
          obtain ⟨q0, q1, q2⟩ := id hq
          have bQ : BoxL (w6.alloc (Obj.cells #[Value.int IntKind.i64 q.op, Value.int IntKind.i64 q.a, Value.int IntKind.i64 q.b] 39)) w6.heap.size #[Value.int IntKind.i64 q.op, Value.int IntKind.i64 q.a, Value.int IntKind.i64 q.b] := ⟨Box.new ..⟩
          have oQ := bQ.old
          go_wp2_with fail
          with_reducible refine Calls.mono (sbegins ..) ?_
          rintro e w7 ⟨rfl, st7⟩
          by_cases b1 : kindOf q.op = 1
          · rw [decide_eq_true b1]
            replace b1 := hid b1
            go_wp2
            go_roundw
            case rel => exact ⟨i, ao, co, l, by omega, by go_num, rfl, hid (by have := hjl2.out; omega), hji, own_px p own, inferInstance, mkStepX⟩
            case measure => simp [intOf]
          rw [decide_eq_false b1]
          replace b1 := hid b1
          by_cases b2 : q.op = 5
          · have b3 : (q.op != 5) = false := by simp [b2]
            replace b2 := hid b2
            go_wp2
            go_roundw
            case rel => exact ⟨i, ao, co, l, by omega, by go_num, rfl, hid (by have := hjl2.out; omega), hji, own_px p own, inferInstance, mkStepX⟩
            case measure => simp [intOf]
          have b4 : (q.op != 5) = true := by simp [b2]
          by_cases b5 : q.op = 11
          · have b6 : (q.op != 11) = false := by simp [b5]
            replace b5 := hid b5
            go_wp2
            go_roundw
            case rel => exact ⟨i, ao, co, l, by omega, by go_num, rfl, hid (by have := hjl2.out; omega), hji, own_px p own, inferInstance, mkStepX⟩
            case measure => simp [intOf]
          · have b7 : (q.op != 11) = true := by simp [b5]
            obtain ⟨rQ, hrQ⟩ : ∃ rQ, l ++ [q] = rQ := ⟨_, rfl⟩
            have hlrQ : rQ.length ≤ l.length + 1 := by rw [← hrQ]; simp
            have hirQ := hid (show ∀ i ∈ rQ, In3 i by rw [← hrQ]; exact in3_app hji.out (in3_one hq))
            go_wp2_with (at_builtin; go_must (refine app_ins rfl (.tmp 78) (.tmp 80) 23 rfl 39 Tryz.inss_tab w.heap.size ao co l rfl (own_px p own) _ 1 [q] rQ rfl (view_lit _ _ _ _ _ rfl) hrQ (by simp; omega) (FrX.fr (S := [p]) (a := w)).size ?_); intro arQ crQ wrQ ownrQ sxrQ)
            have abrQ : Abv p (blk arQ) := abv_own ownrQ
            have sbrQ : SubX w (blk arQ) [p] := sub_own ownrQ
            go_roundw
            case rel => exact ⟨i, arQ, crQ, rQ, by omega, by go_num, rfl, hid (by have := hjl2.out; omega), hirQ, ownrQ, inferInstance, mkStepX⟩
            case measure => simp [intOf]
    · obtain rfl : j = 0 := by omega
      go_wp2
      go_ret
      exact ⟨ao, co, l, rfl, by have := hjl.out; omega, hji, own, inferInstance, mkStepX⟩
end Go.Proofs.YtoffaobiikdflaaGreatDoor
namespace Go.Proofs.YtoffaobiikdflaaGreatDoor
attribute [local go_sem ↓] Go.wp_at_zero Go.wp_at_succ
open Go.RowKit
open Rep (Is sz)

theorem sdraw0 {p : Nat} (w : World) [c : Cur w p] : Calls Tryz.prog 50 #[.pointer (some ⟨p, 0, none⟩), .int .i64 0] w (DrBody p w 8000) := by
  have s3 : ∀ m, Cur m p → Calls Tryz.prog 50 #[.pointer (some ⟨p, 0, none⟩), .int .i64 ((3 : Nat) : Int)] m (DrBody p m 12) := fun m h => sdrawS 3 0 m (by omega) (by omega) (fun h => absurd h (by omega))
  have s2 : ∀ m, Cur m p → Calls Tryz.prog 50 #[.pointer (some ⟨p, 0, none⟩), .int .i64 ((2 : Nat) : Int)] m (DrBody p m 108) := fun m h => sdrawS 2 12 m (by omega) (by omega) (fun _ => s3)
  have s1 : ∀ m, Cur m p → Calls Tryz.prog 50 #[.pointer (some ⟨p, 0, none⟩), .int .i64 ((1 : Nat) : Int)] m (DrBody p m 876) := fun m h => sdrawS 1 108 m (by omega) (by omega) (fun _ => s2)
  have s0 := sdrawS (p := p) 0 876 w (by omega) (by omega) (fun _ => s1)
  refine Calls.mono (show Calls Tryz.prog 50 #[.pointer (some ⟨p, 0, none⟩), .int .i64 0] w _ from s0) ?_
  rintro e w1 ⟨ao, co, l, rfl, hl, hr⟩
  exact ⟨ao, co, l, rfl, by omega, hr⟩
/-- What a drawn body is that may begin within its block. -/
def DrRow (p : Nat) (w : World) (L : Nat) (e : Ending) (w' : World) : Prop :=
  ∃ (ao : Option Addr) (co : Nat) (l : List InsD), e = .returned (.slice ao l.length co) ∧ l.length ≤ L ∧ Hid (∀ i ∈ l, In3 i) ∧ RowO w' w.heap.size 39 3 ao l.length co (l.flatMap insVs) ∧ Cur w' p ∧ StepX [p] w w'
set_option maxHeartbeats 1000000 in
theorem sanybody {p : Nat} (w : World) [c : Cur w p] : Calls Tryz.prog 25 #[.pointer (some ⟨p, 0, none⟩)] w (DrRow p w 8001) := by
  have ag : Arg p w := ⟨c.lt⟩
  have og : Old p w := ⟨c.lt⟩
  go_enter Tryz.func25, Tryz.ntmps25
  go_wp2_with fail
  with_reducible refine Calls.mono (sdraw0 _) ?_
  rintro e w3 ⟨aD, cD, lD, rfl, hlD, hiD, ownD, cuD, stD⟩
  have abD : Abv p (blk aD) := abv_own ownD
  have sbD : SubX w (blk aD) [p] := sub_own ownD
  have hcD := (ownsRow_cap ownD).1
  go_wp2_with fail
  with_reducible refine Calls.mono (sbelowC _ _ (by omega)) ?_
  rintro e w4 ⟨k, hk, rfl, cu4, st4⟩
  by_cases k0 : k = 0
  · subst k0
    go_wp2_with fail
    with_reducible refine Calls.mono (sanyinsC _) ?_
    rintro e w5 ⟨q, hq, rfl, cu5, st5⟩
    obtain ⟨r1, hr1⟩ : ∃ r1, lD ++ [q] = r1 := ⟨_, rfl⟩
    have hl1 : r1.length ≤ lD.length + 1 := by rw [← hr1]; simp
    have hi1 := hid (show ∀ i ∈ r1, In3 i by rw [← hr1]; exact in3_app hiD.out (in3_one hq))
    go_wp2_with (at_builtin; go_must (refine app_ins rfl (.tmp 11) (.tmp 14) 23 rfl 39 Tryz.inss_tab w.heap.size aD cD lD rfl (own_px p ownD) _ 1 [q] r1 rfl (view_lit _ _ _ _ _ rfl) hr1 (by simp; omega) (FrX.fr (S := [p]) (a := w)).size ?_); intro a1 c1 w6 own6 sx6)
    go_ret
    exact ⟨a1, c1, r1, rfl, by omega, hi1, .of_own own6, inferInstance, mkStepX⟩
  have x0 : ((k : Int) == 0) = false := by rw [beq_eq_false_iff_ne]; omega
  by_cases k1 : k = 1 ∧ 0 < lD.length
  · obtain ⟨rfl, hp⟩ := k1
    have ro := RowO.of_own (own_px (W := w4) p ownD)
    obtain ⟨g, off, rfl, hc0, rc⟩ := ro.cut hp
    obtain ⟨x, t, rfl⟩ : ∃ x t, lD = x :: t := by
      cases lD with
      | nil => simp at hp
      | cons x t => exact ⟨x, t, rfl⟩
    have hdr : ((x :: t).flatMap insVs).drop 3 = t.flatMap insVs := by rw [List.flatMap_cons]; exact List.drop_left' (insVs_len x)
    rw [hdr, List.length_cons, Nat.add_sub_cancel] at rc
    replace hdr := hid hdr
    have hit := hid (show ∀ i ∈ t, In3 i from fun i hi => hiD.out i (List.mem_cons_of_mem _ hi))
    have htl : t.length ≤ 8001 := by have := hlD; rw [List.length_cons] at this; omega
    have hi0 : 0 < (x :: t).length := hp
    by_cases hc1 : cD = 1
    · subst hc1
      obtain rfl : t = [] := List.eq_nil_of_length_eq_zero (by rw [List.length_cons] at hcD; omega)
      go_wp2
      go_ret
      exact ⟨_, _, [], rfl, htl, hit, rc.back, inferInstance, mkStepX⟩
    · have hc2 : ¬ cD - 1 = 0 := by omega
      go_wp2
      go_ret
      exact ⟨_, _, t, rfl, htl, hit, rc, inferInstance, mkStepX⟩
  · by_cases k2 : k = 1
    · subst k2
      obtain rfl : lD = [] := List.eq_nil_of_length_eq_zero (by omega)
      go_wp2
      go_ret
      exact ⟨aD, cD, [], rfl, by simp, hid (by simp), .of_own (own_px p ownD), inferInstance, mkStepX⟩
    · have x1 : ((k : Int) == 1) = false := by rw [beq_eq_false_iff_ne]; omega
      go_wp2
      go_ret
      exact ⟨aD, cD, lD, rfl, by omega, hiD, .of_own (own_px p ownD), inferInstance, mkStepX⟩
end Go.Proofs.YtoffaobiikdflaaGreatDoor
namespace Go.Proofs.YtoffaobiikdflaaGreatDoor
attribute [local go_sem ↓] Go.wp_at_zero Go.wp_at_succ
open Go.RowKit
open Rep (Is sz)

/-- append(s, x...): rows of instructions that may begin within their blocks. -/
theorem app_insO {P : Program} {W : World} {ops : Array Oper} {rest : List Oper} {o : Oper} {a : Act} {Q : Exit → Act → World → Prop} (hgd : o.guard = none) (s x : Operand) (t : TypeId)
    (ho : o.op = .call { callee := .builtin .append, args := #[s, x], argTypes := #[t, t] })
    (e : TypeId) (htab : P.underlying t = some (.slice e) ∧ (P.info? e).map (fun i => (i.zero, i.size, i.bytes)) = some (some (.agg #[.int .i64 0, .int .i64 0, .int .i64 0]), 3, 24) ∧ (.agg #[.int .i64 0, .int .i64 0, .int .i64 0] : Value).cells.size = 3 ∧ 0 < 3 ∧ 0 < 24)
    (B : Nat) (ao : Option Addr) (cap : Nat) (l : List InsD) (hs : a.eval s = .slice ao l.length cap) (hown : RowO W B e 3 ao l.length cap (l.flatMap insVs))
    (ax : Option Addr) (c : Nat) (y r : List InsD) (hx : a.eval x = .slice ax y.length c) (hv : View W ax 3 y.length (y.flatMap insVs)) (hy : 0 < y.length) (hr : l ++ y = r) (hb : l.length + y.length ≤ 1000000) (hB : B ≤ W.heap.size)
    (h : ∀ ao' cap' w', RowO w' B e 3 ao' r.length cap' (r.flatMap insVs) → StepX (blk ao) W w' → wpList P ops Q rest (a.put o.dst (.slice ao' r.length cap')) w') : wpList P ops Q (o :: rest) a W := by
  subst hr
  refine app_o W hgd s x t ho e _ 3 24 htab B ao l.length cap (l.flatMap insVs) hs hown ax y.length c (y.flatMap insVs) hx hv (insVs_allD y) hy (by omega) hB ?_
  intro ao' cap' w' h1 h2
  rw [← List.flatMap_append, ← List.length_append] at h1
  rw [← List.length_append]
  exact h ao' cap' w' h1 ⟨h2⟩
theorem view_litAt (w : World) (C : Array Value) (e : TypeId) (sz n g : Nat) (hl : C.size = n * sz) (hg : g = w.heap.size) : View (w.alloc (.cells C e)) (some ⟨g, 0, none⟩) sz n C.toList := hg ▸ view_lit w C e sz n hl
theorem row_px (p : Nat) {w m W : World} {e : TypeId} {sz n cap : Nat} {ao : Option Addr} {xs : List Value} (h : RowO m w.heap.size e sz ao n cap xs) [ag : Arg p w] [f : FrX [p] m W] : RowO W w.heap.size e sz ao n cap xs :=
  h.fr f.fr (fun x hx hm => by rw [List.mem_singleton] at hm; have := (h.blk x hx).1; have := ag.lt; omega)
theorem abv_row {p : Nat} {w m : World} {e : TypeId} {sz n cap : Nat} {ao : Option Addr} {xs : List Value} (h : RowO m w.heap.size e sz ao n cap xs) [ag : Arg p w] : Abv p (blk ao) := ⟨fun b hb => by have := (h.blk b hb).1; have := ag.lt; omega⟩
theorem sub_row {S : List Nat} {w m : World} {e : TypeId} {sz n cap : Nat} {ao : Option Addr} {xs : List Value} (h : RowO m w.heap.size e sz ao n cap xs) : SubX w (blk ao) S := ⟨fun b hb => .inr (h.blk b hb).1⟩
set_option maxRecDepth 10000 in
set_option maxHeartbeats 4000000 in
theorem s15draw {p : Nat} (w : World) [c : Cur w p] : Calls Tryz.prog 18 #[.pointer (some ⟨p, 0, none⟩)] w (DrRow p w 8010) := by
  have ag : Arg p w := ⟨c.lt⟩
  have og : Old p w := ⟨c.lt⟩
  go_enter Tryz.func18, Tryz.ntmps18
  go_wp2_with fail
  with_reducible refine Calls.mono (sanybody _) ?_
  rintro e w3 ⟨aD, cD, lD, rfl, hlD, hiD, ownD, cuD, stD⟩
  have abD : Abv p (blk aD) := abv_row ownD
  have sbD : SubX w (blk aD) [p] := sub_row ownD
  go_wp2_with fail
  with_reducible refine Calls.mono (sbelowC _ _ (by omega)) ?_
  rintro e w4 ⟨n, hn, rfl, cu4, st4⟩
  replace hn : n ≤ 2 := by omega
  go_wp2_with fail
  go_loopw [3, 4] (fun o i wr => ∃ (j : Nat) (ao : Option Addr) (co : Nat) (l : List InsD), j ≤ 2 ∧ i = .int .i64 j ∧ o = .slice ao l.length co ∧ l.length + 3 * j ≤ 8007 ∧ Hid (∀ i ∈ l, In3 i) ∧ RowO wr w.heap.size 39 3 ao l.length co (l.flatMap insVs) ∧ Cur wr p ∧ StepX [p] w wr) (fun _ i _ => (intOf i).toNat)
  case atStart => exact ⟨n, aD, cD, lD, hn, rfl, rfl, by omega, hiD, row_px p ownD, inferInstance, mkStepX⟩
  case round =>
    clear ownD abD sbD hiD hlD stD st4 cu4 cuD
    obtain ⟨j, ao, co, l, hj, rfl, rfl, hjl, hji, own, cu, st⟩ := hrel
    by_cases hlt : 0 < j
    · obtain ⟨i, rfl⟩ : ∃ i, j = i + 1 := ⟨j - 1, by omega⟩
      have ab : Abv p (blk ao) := abv_row own
      have sb : SubX w (blk ao) [p] := sub_row own
      go_wp2_with fail
      with_reducible refine Calls.mono (sbelowC _ _ (by omega)) ?_
      rintro e w5 ⟨k, hk, rfl, cu5, st5⟩
      replace hk : k < 7 := by omega
      go_wp2_with fail
      with_reducible refine Calls.mono (sbelowC _ _ (by omega)) ?_
      rintro e w6 ⟨x, hx, rfl, cu6, st6⟩
      have hxi : In3 ⟨65, x, 0⟩ := ⟨by unfold In64; (try simp only []); omega, by unfold In64; (try simp only []); omega, by unfold In64; (try simp only []); omega⟩
      have bX : BoxL (w6.alloc (Obj.cells #[Value.int IntKind.i64 65, Value.int IntKind.i64 x, Value.int IntKind.i64 0] 39)) w6.heap.size #[Value.int IntKind.i64 65, Value.int IntKind.i64 x, Value.int IntKind.i64 0] := ⟨Box.new ..⟩
      have oX := bX.old
      go_wp2_with fail
      with_reducible refine Calls.mono (sbelowC _ _ (by omega)) ?_
      rintro e w7 ⟨y, hy, rfl, cu7, st7⟩
      have hyi : In3 ⟨65, (y : Int) - 1, 0⟩ := ⟨by unfold In64; (try simp only []); omega, by unfold In64; (try simp only []); omega, by unfold In64; (try simp only []); omega⟩
      have bY : BoxL (w7.alloc (Obj.cells #[Value.int IntKind.i64 65, Value.int IntKind.i64 ((y : Int) - 1), Value.int IntKind.i64 0] 39)) w7.heap.size #[Value.int IntKind.i64 65, Value.int IntKind.i64 ((y : Int) - 1), Value.int IntKind.i64 0] := ⟨Box.new ..⟩
      have oY := bY.old
      have z5 := st5.fr.size
      have z6 := st6.fr.size
      have z7 := st7.fr.size
      rw [World.size_alloc] at z7
      have nX : NotIn w6.heap.size (blk ao) := ⟨fun h => by have := (own.blk _ h).2; omega⟩
      have nY : NotIn w7.heap.size (blk ao) := ⟨fun h => by have := (own.blk _ h).2; omega⟩
      have neX : NeB w6.heap.size p := inferInstance
      have neY : NeB w7.heap.size p := inferInstance
      rcases (show k = 0 ∨ k = 1 ∨ k = 2 ∨ k = 3 ∨ k = 4 ∨ k = 5 ∨ k = 6 by omega) with rfl | rfl | rfl | rfl | rfl | rfl | rfl
      · go_wp2_with fail
        refine wp_name ?_
        intro A sA
        have bXA : BoxL A w6.heap.size #[Value.int IntKind.i64 65, Value.int IntKind.i64 x, Value.int IntKind.i64 0] := boxOf
        have oXA := bXA.old
        have bYA : BoxL A w7.heap.size #[Value.int IntKind.i64 65, Value.int IntKind.i64 ((y : Int) - 1), Value.int IntKind.i64 0] := boxOf
        have oYA := bYA.old
        have sbt : SubX A (blk ao) (p :: blk ao) := ⟨fun b hb => .inl (List.mem_cons_of_mem _ hb)⟩
        refine rg_begin (n := 10) (StepX (p :: blk ao) A) (by kernel_rfl) rfl ?_
        have rg0 := (show (StepX (p :: blk ao) A) (World.drew _) from (show StepX (p :: blk ao) A A.drew from mkStepX))
        refine rg_read (i := 0) (a1 := _) rfl (by kernel_rfl) rfl (by first | (simp; done) | (simp [Act.put]; done)) (by intro wq hwq; go_wp2; exact ⟨rfl, rfl⟩) rg0 ?_
        refine rg_read (i := 1) (a1 := _) rfl (by kernel_rfl) rfl (by first | (simp; done) | (simp [Act.put]; done)) (by intro wq hwq; go_wp2; exact ⟨rfl, rfl⟩) rg0 ?_
        refine rg_read (i := 2) (a1 := _) rfl (by kernel_rfl) rfl (by first | (simp; done) | (simp [Act.put]; done)) (by intro wq hwq; go_wp2; exact ⟨rfl, rfl⟩) rg0 ?_
        refine rg_read (i := 3) (a1 := _) rfl (by kernel_rfl) rfl (by first | (simp; done) | (simp [Act.put]; done)) (by intro wq hwq; go_wp2; exact ⟨rfl, rfl⟩) rg0 ?_
        refine rg_eff (i := 4) rfl (by kernel_rfl) ?_
        simp only [List.getElem_toArray, List.getElem_cons_succ, List.getElem_cons_zero]
        go_wp2_with fail
        with_reducible refine Calls.mono (sbelowC _ _ (by omega)) ?_
        rintro e w8 ⟨z, hz, rfl, cu8, st8⟩
        obtain ⟨y9, hy9⟩ : ∃ y9 : List InsD, y9 = [⟨65, x, 0⟩, ⟨65, (y : Int) - 1, 0⟩, ⟨106 + (z : Int), 0, 0⟩] := ⟨_, rfl⟩
        have hyl : y9.length = 3 := by rw [hy9]; rfl
        have hyi9 : ∀ i ∈ y9, In3 i := by rw [hy9]; exact (by intro i hi; simp only [List.mem_cons, List.not_mem_nil, or_false] at hi; rcases hi with rfl | rfl | rfl; exact hxi; exact hyi; exact (show In3 ⟨106 + (z : Int), 0, 0⟩ from ⟨by unfold In64; (try simp only []); omega, by unfold In64; (try simp only []); omega, by unfold In64; (try simp only []); omega⟩))
        obtain ⟨r1, hr1⟩ : ∃ r1, l ++ [⟨65, x, 0⟩, ⟨65, (y : Int) - 1, 0⟩, ⟨106 + (z : Int), 0, 0⟩] = r1 := ⟨_, rfl⟩
        have hl1 : r1.length ≤ l.length + 3 := by rw [← hr1]; simp; try omega
        have hi1 := hid (show ∀ i ∈ r1, In3 i by rw [← hr1, ← hy9]; exact in3_app hji.out hyi9)
        clear hyl hyi9 hy9 y9
        go_wp2_with fail
        refine ⟨mkStepX, ?_⟩
        refine rg_read (i := 5) (a1 := _) rfl (by kernel_rfl) rfl (by first | (simp; done) | (simp [Act.put]; done)) (by intro wq hwq; go_wp2; exact ⟨rfl, rfl⟩) mkStepX ?_
        refine rg_read (i := 6) (a1 := _) rfl (by kernel_rfl) rfl (by first | (simp; done) | (simp [Act.put]; done)) (by intro wq hwq; go_wp2; exact ⟨rfl, rfl⟩) mkStepX ?_
        refine rg_eff (i := 7) rfl (by kernel_rfl) ?_
        simp only [List.getElem_toArray, List.getElem_cons_succ, List.getElem_cons_zero]
        go_wp2_with fail
        refine ⟨mkStepX, ?_⟩
        refine rg_eff (i := 8) rfl (by kernel_rfl) ?_
        simp only [List.getElem_toArray, List.getElem_cons_succ, List.getElem_cons_zero]
        go_wp2_with (at_builtin; go_must (refine app_insO rfl (.tmp 28) (.tmp 35) 23 rfl 39 Tryz.inss_tab w.heap.size ao co l rfl (row_px p own) _ 3 [⟨65, x, 0⟩, ⟨65, (y : Int) - 1, 0⟩, ⟨106 + (z : Int), 0, 0⟩] r1 rfl (view_litAt _ _ _ _ _ _ rfl (by simp)) (by simp) hr1 (by simp; omega) (FrX.fr (S := [p]) (a := w)).size ?_); intro a1 c1 w9 own9 sx9)
        refine ⟨mkStepX, ?_⟩
        refine rg_read (i := 9) (a1 := _) rfl (by kernel_rfl) rfl (by first | (simp; done) | (simp [Act.put]; done)) (by intro wq hwq; go_wp2; exact ⟨rfl, rfl⟩) mkStepX ?_
        refine rg_done (by kernel_rfl) ?_
        go_wp2
        have ab9 : Abv p (blk a1) := abv_row own9
        have sb9 : SubX w (blk a1) [p] := sub_row own9
        go_roundw
        case rel => exact ⟨i, a1, c1, r1, by omega, by go_num, rfl, by omega, hi1, own9, inferInstance, mkStepX⟩
        case measure => simp [intOf]
      · go_wp2_with fail
        refine wp_name ?_
        intro A sA
        have bXA : BoxL A w6.heap.size #[Value.int IntKind.i64 65, Value.int IntKind.i64 x, Value.int IntKind.i64 0] := boxOf
        have oXA := bXA.old
        have bYA : BoxL A w7.heap.size #[Value.int IntKind.i64 65, Value.int IntKind.i64 ((y : Int) - 1), Value.int IntKind.i64 0] := boxOf
        have oYA := bYA.old
        have sbt : SubX A (blk ao) (p :: blk ao) := ⟨fun b hb => .inl (List.mem_cons_of_mem _ hb)⟩
        refine rg_begin (n := 9) (StepX (p :: blk ao) A) (by kernel_rfl) rfl ?_
        have rg0 := (show (StepX (p :: blk ao) A) (World.drew _) from (show StepX (p :: blk ao) A A.drew from mkStepX))
        refine rg_read (i := 0) (a1 := _) rfl (by kernel_rfl) rfl (by first | (simp; done) | (simp [Act.put]; done)) (by intro wq hwq; go_wp2; exact ⟨rfl, rfl⟩) rg0 ?_
        refine rg_read (i := 1) (a1 := _) rfl (by kernel_rfl) rfl (by first | (simp; done) | (simp [Act.put]; done)) (by intro wq hwq; go_wp2; exact ⟨rfl, rfl⟩) rg0 ?_
        refine rg_read (i := 2) (a1 := _) rfl (by kernel_rfl) rfl (by first | (simp; done) | (simp [Act.put]; done)) (by intro wq hwq; go_wp2; exact ⟨rfl, rfl⟩) rg0 ?_
        refine rg_eff (i := 3) rfl (by kernel_rfl) ?_
        simp only [List.getElem_toArray, List.getElem_cons_succ, List.getElem_cons_zero]
        go_wp2_with fail
        with_reducible refine Calls.mono (sbelowC _ _ (by omega)) ?_
        rintro e w8 ⟨z, hz, rfl, cu8, st8⟩
        obtain ⟨y9, hy9⟩ : ∃ y9 : List InsD, y9 = [⟨65, x, 0⟩, ⟨103 + (z : Int), 0, 0⟩] := ⟨_, rfl⟩
        have hyl : y9.length = 2 := by rw [hy9]; rfl
        have hyi9 : ∀ i ∈ y9, In3 i := by rw [hy9]; exact (by intro i hi; simp only [List.mem_cons, List.not_mem_nil, or_false] at hi; rcases hi with rfl | rfl; exact hxi; exact (show In3 ⟨103 + (z : Int), 0, 0⟩ from ⟨by unfold In64; (try simp only []); omega, by unfold In64; (try simp only []); omega, by unfold In64; (try simp only []); omega⟩))
        obtain ⟨r1, hr1⟩ : ∃ r1, l ++ [⟨65, x, 0⟩, ⟨103 + (z : Int), 0, 0⟩] = r1 := ⟨_, rfl⟩
        have hl1 : r1.length ≤ l.length + 2 := by rw [← hr1]; simp; try omega
        have hi1 := hid (show ∀ i ∈ r1, In3 i by rw [← hr1, ← hy9]; exact in3_app hji.out hyi9)
        clear hyl hyi9 hy9 y9
        go_wp2_with fail
        refine ⟨mkStepX, ?_⟩
        refine rg_read (i := 4) (a1 := _) rfl (by kernel_rfl) rfl (by first | (simp; done) | (simp [Act.put]; done)) (by intro wq hwq; go_wp2; exact ⟨rfl, rfl⟩) mkStepX ?_
        refine rg_read (i := 5) (a1 := _) rfl (by kernel_rfl) rfl (by first | (simp; done) | (simp [Act.put]; done)) (by intro wq hwq; go_wp2; exact ⟨rfl, rfl⟩) mkStepX ?_
        refine rg_eff (i := 6) rfl (by kernel_rfl) ?_
        simp only [List.getElem_toArray, List.getElem_cons_succ, List.getElem_cons_zero]
        go_wp2_with fail
        refine ⟨mkStepX, ?_⟩
        refine rg_eff (i := 7) rfl (by kernel_rfl) ?_
        simp only [List.getElem_toArray, List.getElem_cons_succ, List.getElem_cons_zero]
        go_wp2_with (at_builtin; go_must (refine app_insO rfl (.tmp 39) (.tmp 45) 23 rfl 39 Tryz.inss_tab w.heap.size ao co l rfl (row_px p own) _ 2 [⟨65, x, 0⟩, ⟨103 + (z : Int), 0, 0⟩] r1 rfl (view_litAt _ _ _ _ _ _ rfl (by simp)) (by simp) hr1 (by simp; omega) (FrX.fr (S := [p]) (a := w)).size ?_); intro a1 c1 w9 own9 sx9)
        refine ⟨mkStepX, ?_⟩
        refine rg_read (i := 8) (a1 := _) rfl (by kernel_rfl) rfl (by first | (simp; done) | (simp [Act.put]; done)) (by intro wq hwq; go_wp2; exact ⟨rfl, rfl⟩) mkStepX ?_
        refine rg_done (by kernel_rfl) ?_
        go_wp2
        have ab9 : Abv p (blk a1) := abv_row own9
        have sb9 : SubX w (blk a1) [p] := sub_row own9
        go_roundw
        case rel => exact ⟨i, a1, c1, r1, by omega, by go_num, rfl, by omega, hi1, own9, inferInstance, mkStepX⟩
        case measure => simp [intOf]
      · obtain ⟨y9, hy9⟩ : ∃ y9 : List InsD, y9 = [⟨65, x, 0⟩, ⟨26, 0, 0⟩] := ⟨_, rfl⟩
        have hyl : y9.length = 2 := by rw [hy9]; rfl
        have hyi9 : ∀ i ∈ y9, In3 i := by rw [hy9]; exact (by intro i hi; simp only [List.mem_cons, List.not_mem_nil, or_false] at hi; rcases hi with rfl | rfl; exact hxi; exact (show In3 ⟨26, 0, 0⟩ from ⟨by unfold In64; (try simp only []); omega, by unfold In64; (try simp only []); omega, by unfold In64; (try simp only []); omega⟩))
        obtain ⟨r1, hr1⟩ : ∃ r1, l ++ [⟨65, x, 0⟩, ⟨26, 0, 0⟩] = r1 := ⟨_, rfl⟩
        have hl1 : r1.length ≤ l.length + 2 := by rw [← hr1]; simp; try omega
        have hi1 := hid (show ∀ i ∈ r1, In3 i by rw [← hr1, ← hy9]; exact in3_app hji.out hyi9)
        clear hyl hyi9 hy9 y9
        go_wp2_with (at_builtin; go_must (refine app_insO rfl (.tmp 49) (.tmp 52) 23 rfl 39 Tryz.inss_tab w.heap.size ao co l rfl (row_px p own) _ 2 [⟨65, x, 0⟩, ⟨26, 0, 0⟩] r1 rfl (view_litAt _ _ _ _ _ _ rfl (by simp)) (by simp) hr1 (by simp; omega) (FrX.fr (S := [p]) (a := w)).size ?_); intro a1 c1 w9 own9 sx9)
        have ab9 : Abv p (blk a1) := abv_row own9
        have sb9 : SubX w (blk a1) [p] := sub_row own9
        go_roundw
        case rel => exact ⟨i, a1, c1, r1, by omega, by go_num, rfl, by omega, hi1, own9, inferInstance, mkStepX⟩
        case measure => simp [intOf]
      · go_wp2_with fail
        with_reducible refine Calls.mono (sbelowC _ _ (by omega)) ?_
        rintro e w8 ⟨z, hz, rfl, cu8, st8⟩
        obtain ⟨y9, hy9⟩ : ∃ y9 : List InsD, y9 = [⟨33, 1, 0⟩, ⟨32, (z : Int), 0⟩] := ⟨_, rfl⟩
        have hyl : y9.length = 2 := by rw [hy9]; rfl
        have hyi9 : ∀ i ∈ y9, In3 i := by rw [hy9]; exact (by intro i hi; simp only [List.mem_cons, List.not_mem_nil, or_false] at hi; rcases hi with rfl | rfl; exact (show In3 ⟨33, 1, 0⟩ from ⟨by unfold In64; (try simp only []); omega, by unfold In64; (try simp only []); omega, by unfold In64; (try simp only []); omega⟩); exact (show In3 ⟨32, (z : Int), 0⟩ from ⟨by unfold In64; (try simp only []); omega, by unfold In64; (try simp only []); omega, by unfold In64; (try simp only []); omega⟩))
        obtain ⟨r1, hr1⟩ : ∃ r1, l ++ [⟨33, 1, 0⟩, ⟨32, (z : Int), 0⟩] = r1 := ⟨_, rfl⟩
        have hl1 : r1.length ≤ l.length + 2 := by rw [← hr1]; simp; try omega
        have hi1 := hid (show ∀ i ∈ r1, In3 i by rw [← hr1, ← hy9]; exact in3_app hji.out hyi9)
        clear hyl hyi9 hy9 y9
        go_wp2_with (at_builtin; go_must (refine app_insO rfl (.tmp 56) (.tmp 61) 23 rfl 39 Tryz.inss_tab w.heap.size ao co l rfl (row_px p own) _ 2 [⟨33, 1, 0⟩, ⟨32, (z : Int), 0⟩] r1 rfl (view_litAt _ _ _ _ _ _ rfl (by simp)) (by simp) hr1 (by simp; omega) (FrX.fr (S := [p]) (a := w)).size ?_); intro a1 c1 w9 own9 sx9)
        have ab9 : Abv p (blk a1) := abv_row own9
        have sb9 : SubX w (blk a1) [p] := sub_row own9
        go_roundw
        case rel => exact ⟨i, a1, c1, r1, by omega, by go_num, rfl, by omega, hi1, own9, inferInstance, mkStepX⟩
        case measure => simp [intOf]
      · obtain ⟨y9, hy9⟩ : ∃ y9 : List InsD, y9 = [⟨69, 0, 0⟩, ⟨69, 0, 0⟩, ⟨69, 0, 0⟩] := ⟨_, rfl⟩
        have hyl : y9.length = 3 := by rw [hy9]; rfl
        have hyi9 : ∀ i ∈ y9, In3 i := by rw [hy9]; exact (by intro i hi; simp only [List.mem_cons, List.not_mem_nil, or_false] at hi; rcases hi with rfl | rfl | rfl; exact (show In3 ⟨69, 0, 0⟩ from ⟨by unfold In64; (try simp only []); omega, by unfold In64; (try simp only []); omega, by unfold In64; (try simp only []); omega⟩); exact (show In3 ⟨69, 0, 0⟩ from ⟨by unfold In64; (try simp only []); omega, by unfold In64; (try simp only []); omega, by unfold In64; (try simp only []); omega⟩); exact (show In3 ⟨69, 0, 0⟩ from ⟨by unfold In64; (try simp only []); omega, by unfold In64; (try simp only []); omega, by unfold In64; (try simp only []); omega⟩))
        obtain ⟨r1, hr1⟩ : ∃ r1, l ++ [⟨69, 0, 0⟩, ⟨69, 0, 0⟩, ⟨69, 0, 0⟩] = r1 := ⟨_, rfl⟩
        have hl1 : r1.length ≤ l.length + 3 := by rw [← hr1]; simp; try omega
        have hi1 := hid (show ∀ i ∈ r1, In3 i by rw [← hr1, ← hy9]; exact in3_app hji.out hyi9)
        clear hyl hyi9 hy9 y9
        go_wp2_with (at_builtin; go_must (refine app_insO rfl (.tmp 65) (.tmp 69) 23 rfl 39 Tryz.inss_tab w.heap.size ao co l rfl (row_px p own) _ 3 [⟨69, 0, 0⟩, ⟨69, 0, 0⟩, ⟨69, 0, 0⟩] r1 rfl (view_litAt _ _ _ _ _ _ rfl (by simp)) (by simp) hr1 (by simp; omega) (FrX.fr (S := [p]) (a := w)).size ?_); intro a1 c1 w9 own9 sx9)
        have ab9 : Abv p (blk a1) := abv_row own9
        have sb9 : SubX w (blk a1) [p] := sub_row own9
        go_roundw
        case rel => exact ⟨i, a1, c1, r1, by omega, by go_num, rfl, by omega, hi1, own9, inferInstance, mkStepX⟩
        case measure => simp [intOf]
      · go_wp2_with fail
        refine wp_name ?_
        intro A sA
        have bXA : BoxL A w6.heap.size #[Value.int IntKind.i64 65, Value.int IntKind.i64 x, Value.int IntKind.i64 0] := boxOf
        have oXA := bXA.old
        have bYA : BoxL A w7.heap.size #[Value.int IntKind.i64 65, Value.int IntKind.i64 ((y : Int) - 1), Value.int IntKind.i64 0] := boxOf
        have oYA := bYA.old
        have sbt : SubX A (blk ao) (p :: blk ao) := ⟨fun b hb => .inl (List.mem_cons_of_mem _ hb)⟩
        refine rg_begin (n := 10) (StepX (p :: blk ao) A) (by kernel_rfl) rfl ?_
        have rg0 := (show (StepX (p :: blk ao) A) (World.drew _) from (show StepX (p :: blk ao) A A.drew from mkStepX))
        refine rg_read (i := 0) (a1 := _) rfl (by kernel_rfl) rfl (by first | (simp; done) | (simp [Act.put]; done)) (by intro wq hwq; go_wp2; exact ⟨rfl, rfl⟩) rg0 ?_
        refine rg_read (i := 1) (a1 := _) rfl (by kernel_rfl) rfl (by first | (simp; done) | (simp [Act.put]; done)) (by intro wq hwq; go_wp2; exact ⟨rfl, rfl⟩) rg0 ?_
        refine rg_read (i := 2) (a1 := _) rfl (by kernel_rfl) rfl (by first | (simp; done) | (simp [Act.put]; done)) (by intro wq hwq; go_wp2; exact ⟨rfl, rfl⟩) rg0 ?_
        refine rg_read (i := 7) (a1 := _) rfl (by kernel_rfl) rfl (by first | (simp; done) | (simp [Act.put]; done)) (by intro wq hwq; go_wp2; exact ⟨rfl, rfl⟩) rg0 ?_
        refine rg_eff (i := 3) rfl (by kernel_rfl) ?_
        simp only [List.getElem_toArray, List.getElem_cons_succ, List.getElem_cons_zero]
        go_wp2_with fail
        with_reducible refine Calls.mono (sbelowC _ _ (by omega)) ?_
        rintro e w8 ⟨z, hz, rfl, cu8, st8⟩
        obtain ⟨y9, hy9⟩ : ∃ y9 : List InsD, y9 = [⟨65, x, 0⟩, ⟨65, (y : Int) - 1, 0⟩, ⟨70 + (z : Int), 0, 0⟩] := ⟨_, rfl⟩
        have hyl : y9.length = 3 := by rw [hy9]; rfl
        have hyi9 : ∀ i ∈ y9, In3 i := by rw [hy9]; exact (by intro i hi; simp only [List.mem_cons, List.not_mem_nil, or_false] at hi; rcases hi with rfl | rfl | rfl; exact hxi; exact hyi; exact (show In3 ⟨70 + (z : Int), 0, 0⟩ from ⟨by unfold In64; (try simp only []); omega, by unfold In64; (try simp only []); omega, by unfold In64; (try simp only []); omega⟩))
        obtain ⟨r1, hr1⟩ : ∃ r1, [⟨65, x, 0⟩, ⟨65, (y : Int) - 1, 0⟩, ⟨70 + (z : Int), 0, 0⟩] ++ l = r1 := ⟨_, rfl⟩
        have hl1 : r1.length ≤ l.length + 3 := by rw [← hr1]; simp; try omega
        have hi1 := hid (show ∀ i ∈ r1, In3 i by rw [← hr1, ← hy9]; exact in3_app hyi9 hji.out)
        clear hyl hyi9 hy9 y9
        go_wp2_with fail
        refine ⟨mkStepX, ?_⟩
        refine rg_read (i := 4) (a1 := _) rfl (by kernel_rfl) rfl (by first | (simp; done) | (simp [Act.put]; done)) (by intro wq hwq; go_wp2; exact ⟨rfl, rfl⟩) mkStepX ?_
        refine rg_read (i := 5) (a1 := _) rfl (by kernel_rfl) rfl (by first | (simp; done) | (simp [Act.put]; done)) (by intro wq hwq; go_wp2; exact ⟨rfl, rfl⟩) mkStepX ?_
        refine rg_eff (i := 6) rfl (by kernel_rfl) ?_
        simp only [List.getElem_toArray, List.getElem_cons_succ, List.getElem_cons_zero]
        go_wp2_with fail
        refine ⟨mkStepX, ?_⟩
        refine rg_eff (i := 8) rfl (by kernel_rfl) ?_
        simp only [List.getElem_toArray, List.getElem_cons_succ, List.getElem_cons_zero]
        have ownN : (w8.alloc (Obj.cells #[.int .i64 65, .int .i64 x, .int .i64 0, .int .i64 65, .int .i64 ((y : Int) - 1), .int .i64 0, .int .i64 (70 + (z : Int)), .int .i64 0, .int .i64 0] 39)).ownsRow w.heap.size 39 3 (.slice (some ⟨w8.heap.size, 0, none⟩) ([⟨65, x, 0⟩, ⟨65, (y : Int) - 1, 0⟩, ⟨70 + (z : Int), 0, 0⟩] : List InsD).length 3) ([⟨65, x, 0⟩, ⟨65, (y : Int) - 1, 0⟩, ⟨70 + (z : Int), 0, 0⟩] : List InsD).length (([⟨65, x, 0⟩, ⟨65, (y : Int) - 1, 0⟩, ⟨70 + (z : Int), 0, 0⟩] : List InsD).flatMap insVs) := own_litAt rfl rfl (FrX.fr (S := [p]) (a := w)).size (by unfold maxLen; simp) rfl
        have ni8 : NewB w w8.heap.size := ⟨(FrX.fr (S := [p]) (a := w)).size⟩
        have nA8 : NewB A w8.heap.size := ⟨(FrX.fr (S := p :: blk ao) (a := A)).size⟩
        go_wp2_with (at_builtin; go_must (refine app_ins rfl (.tmp 79) (.tmp 80) 23 rfl 39 Tryz.inss_tab w.heap.size (some ⟨w8.heap.size, 0, none⟩) 3 [⟨65, x, 0⟩, ⟨65, (y : Int) - 1, 0⟩, ⟨70 + (z : Int), 0, 0⟩] rfl ownN ao co l r1 rfl (row_px p own (W := w8.alloc _)).view hr1 (by simp; omega) (FrX.fr (S := [p]) (a := w)).size ?_); intro a1 c1 w9 own9o sx9; replace sx9 : StepX [w8.heap.size] _ w9 := sx9; have own9 := RowO.of_own own9o; clear own9o)
        refine ⟨mkStepX, ?_⟩
        refine rg_read (i := 9) (a1 := _) rfl (by kernel_rfl) rfl (by first | (simp; done) | (simp [Act.put]; done)) (by intro wq hwq; go_wp2; exact ⟨rfl, rfl⟩) mkStepX ?_
        refine rg_done (by kernel_rfl) ?_
        go_wp2
        have ab9 : Abv p (blk a1) := abv_row own9
        have sb9 : SubX w (blk a1) [p] := sub_row own9
        go_roundw
        case rel => exact ⟨i, a1, c1, r1, by omega, by go_num, rfl, by omega, hi1, own9, inferInstance, mkStepX⟩
        case measure => simp [intOf]
      · obtain ⟨y9, hy9⟩ : ∃ y9 : List InsD, y9 = [⟨1, 0, 0⟩] := ⟨_, rfl⟩
        have hyl : y9.length = 1 := by rw [hy9]; rfl
        have hyi9 : ∀ i ∈ y9, In3 i := by rw [hy9]; exact in3_one (show In3 ⟨1, 0, 0⟩ from ⟨by unfold In64; (try simp only []); omega, by unfold In64; (try simp only []); omega, by unfold In64; (try simp only []); omega⟩)
        obtain ⟨r1, hr1⟩ : ∃ r1, l ++ [⟨1, 0, 0⟩] = r1 := ⟨_, rfl⟩
        have hl1 : r1.length ≤ l.length + 1 := by rw [← hr1]; simp; try omega
        have hi1 := hid (show ∀ i ∈ r1, In3 i by rw [← hr1, ← hy9]; exact in3_app hji.out hyi9)
        clear hyl hyi9 hy9 y9
        go_wp2_with (at_builtin; go_must (refine app_insO rfl (.tmp 84) (.tmp 86) 23 rfl 39 Tryz.inss_tab w.heap.size ao co l rfl (row_px p own) _ 1 [⟨1, 0, 0⟩] r1 rfl (view_litAt _ _ _ _ _ _ rfl (by simp)) (by simp) hr1 (by simp; omega) (FrX.fr (S := [p]) (a := w)).size ?_); intro a1 c1 w9 own9 sx9)
        have ab9 : Abv p (blk a1) := abv_row own9
        have sb9 : SubX w (blk a1) [p] := sub_row own9
        go_roundw
        case rel => exact ⟨i, a1, c1, r1, by omega, by go_num, rfl, by omega, hi1, own9, inferInstance, mkStepX⟩
        case measure => simp [intOf]
    · obtain rfl : j = 0 := by omega
      go_wp2
      go_ret
      exact ⟨ao, co, l, rfl, by omega, hji, own, inferInstance, mkStepX⟩
end Go.Proofs.YtoffaobiikdflaaGreatDoor
namespace Go.Proofs.YtoffaobiikdflaaGreatDoor
attribute [local go_sem ↓] Go.wp_at_zero Go.wp_at_succ
open Go.RowKit
open Rep (Is sz)

/-- A drawn list of instructions, as a law sees it. -/
def DrList (w : World) (L : Nat) (e : Ending) (w' : World) : Prop := ∃ (ao : Option Addr) (co : Nat) (l : List InsD) (G : List Nat), e = .returned (.slice ao l.length co) ∧ l.length ≤ L ∧ Known w' G l [.slice ao l.length co] ∧ NewF w G ∧ Step w w'
theorem known_row {w : World} {B cap : Nat} {e : TypeId} {ao : Option Addr} {r : List InsD} (h : RowO w B e 3 ao r.length cap (r.flatMap insVs)) (h3 : ∀ i ∈ r, In3 i) : Known w (if r = [] then [] else blk ao) r [.slice ao r.length cap] := ⟨inss_shut h.view h.cap_ok h3⟩
theorem row_newf {W w : World} {B s n cap : Nat} {e : TypeId} {ao : Option Addr} {xs : List Value} (h : RowO w B e s ao n cap xs) (hB : W.heap.size ≤ B) {r : List InsD} : NewF W (if r = [] then [] else blk ao) := ⟨by
  split
  · exact New.nil _
  · refine ⟨?_, fun b hb => Nat.le_trans hB (h.blk b hb).1⟩
    cases ao <;> simp [blk]⟩
theorem cur_new {F : List Nat} {bs : List UInt8} {ad : Option Addr} {cap : Nat} {w w1 : World} {p : Nat} {hh : Int} [h : Shows w F bs [.slice ad bs.length cap]] [st : Step w w1] (b : BoxL w1 p #[.slice ad bs.length cap, .int .i64 0, .int .i64 hh]) (hp : w.heap.size ≤ p) : Cur w1 p :=
  ⟨F, bs, ad, cap, 0, hh, Rep.fr0 h.is st.fr, b.is, Nat.zero_le _, fun x hx => Nat.lt_of_lt_of_le (Rep.lt h.is x hx) hp⟩
theorem sdpeep {F : List Nat} {v : Value} (bs : List UInt8) (w : World) (hl : bs.length ≤ 1048576) [h : Shows w F bs [v]] : Calls Tryz.prog 5 #[v] w (DrList w 8010) := by
  have hk := h.known
  obtain ⟨ad, cap, hv, _, hvw, hml⟩ := bytes_open h.is
  cases hv
  clear h
  go_enter Tryz.func5, Tryz.ntmps5
  go_wp2_with fail
  with_reducible refine Calls.mono (snew bs _ hl) ?_
  rintro e w1 ⟨p, hh, rfl, b0, hp, hh1, st1⟩
  have cu : Cur w1 p := cur_new b0 hp
  have np : NewB w p := ⟨hp⟩
  go_wp2_with fail
  with_reducible refine Calls.mono (s15draw _) ?_
  rintro e w2 ⟨ao, co, l, rfl, hll, hli, own, cu2, st2⟩
  have z1 := st1.fr.size
  go_wp2
  go_ret
  exact ⟨ao, co, l, _, rfl, hll, known_row own hli.out, row_newf own z1, mkStep⟩
theorem sdbody {F : List Nat} {v : Value} (bs : List UInt8) (w : World) (hl : bs.length ≤ 1048576) [h : Shows w F bs [v]] : Calls Tryz.prog 11 #[v] w (DrList w 8010) := by
  have hk := h.known
  obtain ⟨ad, cap, hv, _, hvw, hml⟩ := bytes_open h.is
  cases hv
  clear h
  go_enter Tryz.func11, Tryz.ntmps11
  go_wp2_with fail
  with_reducible refine Calls.mono (snew bs _ hl) ?_
  rintro e w1 ⟨p, hh, rfl, b0, hp, hh1, st1⟩
  have cu : Cur w1 p := cur_new b0 hp
  have np : NewB w p := ⟨hp⟩
  go_wp2_with fail
  with_reducible refine Calls.mono (sanybody _) ?_
  rintro e w2 ⟨ao, co, l, rfl, hll, hli, own, cu2, st2⟩
  have z1 := st1.fr.size
  go_wp2
  go_ret
  exact ⟨ao, co, l, _, rfl, by omega, known_row own hli.out, row_newf own z1, mkStep⟩
end Go.Proofs.YtoffaobiikdflaaGreatDoor
