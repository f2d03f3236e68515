/- Contracts: the laws' own helpers for bytes. -/
import Derived.Test.YtociekeaiigpfaaGreatDoorRow
import Derived.Test.YtociekeaiigpfaaGreatDoorMut
import Derived.Test.YtociekeaiigpfaaGreatDoorLeb
namespace Go.Proofs.YtociekeaiigpfaaGreatDoor
attribute [local go_sem ↓] Go.wp_at_zero Go.wp_at_succ
open Go.RowKit Go.ChangeShapes Go.WideShapes
open Rep (Is sz)

theorem Tryz.bytes_tab : Tryz.prog.underlying 56 = some (.slice 5) ∧ (Tryz.prog.info? 5).map (fun i => (i.zero, i.size, i.bytes)) = some (some (.int .u8 0), 1, 1) ∧ (Value.int .u8 0).cells.size = 1 ∧ 0 < 1 ∧ 0 < 1 :=
  ⟨by kernel_rfl, by kernel_rfl, rfl, by decide, by decide⟩
set_option maxRecDepth 10000 in
theorem opens_bytes : Opens Tryz.prog 56 (List UInt8) := opens_slice Tryz.underlying56 (by kernel_rfl) Nat.one_pos (opens_byte Tryz.underlying5 (by kernel_rfl))

theorem eqBytes {F G : List Nat} {v u : Value} (l m : List UInt8) (w : World) [h : Shows w F l [v]] [h' : Shows w G m [u]] :
    Calls Tryz.prog 138 #[v, u] w fun e w' => e = .returned (.bool (decide (l = m))) ∧ Step w w' := by
  obtain ⟨a, cap, hv, _, hvw, hml⟩ := bytes_open h.is
  cases hv
  obtain ⟨a', cap', hv', _, hvw', hml'⟩ := bytes_open h'.is
  cases hv'
  unfold maxLen at hml hml'
  clear h h'
  go_enter Tryz.func138, Tryz.ntmps138
  by_cases hl : l.length = m.length
  · go_wp2
    have l1 : l.length ≤ m.length := by omega
    have l2 : m.length ≤ l.length := by omega
    clear hl
    go_loopw [5] (fun i wr => ∃ k : Nat, k ≤ l.length ∧ i = .int .i64 k ∧ Step w wr ∧ Hid (∀ j : Nat, j < k → l[j]? = m[j]?)) (fun i _ => l.length - (intOf i).toNat)
    case atStart => exact ⟨0, by omega, rfl, mkStep, fun j hj => by omega⟩
    case round =>
      obtain ⟨k, hk, rfl, st, heq⟩ := hrel
      by_cases hlt : k < l.length
      · have hlt' : k < m.length := by omega
        obtain ⟨b, o, rfl, hc, _, ho⟩ := byte_cell hvw k hlt
        obtain ⟨b', o', rfl, hc', _, ho'⟩ := byte_cell hvw' k hlt'
        have b1 : (0 : Int) ≤ (k : Int) := by omega
        have b2 : (k : Int) < (l.length : Int) := by omega
        have b3 : (k : Int) < (m.length : Int) := by omega
        by_cases he : l[k] = m[k]
        · have e1 : ((l[k].toNat : Int) != (m[k].toNat : Int)) = false := by rw [he]; simp
          have e2 : ((l[k].toNat : Int) == (m[k].toNat : Int)) = true := by rw [he]; simp
          replace he := hid he
          go_wp2_with fail
          refine rg_begin0 (n := 9) (by kernel_rfl) rfl fun rg0 => ?_
          refine rg_read (i := 0) (a1 := _) rfl (by kernel_rfl) rfl (by simp) (by intro wq hwq; go_wp2; exact ⟨rfl, rfl⟩) mkStep ?_
          refine rg_read (i := 1) (a1 := _) rfl (by kernel_rfl) rfl (by simp) (by intro wq hwq; go_wp2; exact ⟨rfl, rfl⟩) mkStep ?_
          refine rg_read (i := 2) (a1 := _) rfl (by kernel_rfl) rfl (by simp) (by intro wq hwq; go_wp2; exact ⟨rfl, rfl⟩) mkStep ?_
          refine rg_read (i := 3) (a1 := _) rfl (by kernel_rfl) rfl (by simp) (by intro wq hwq; go_wp2; exact ⟨rfl, rfl⟩) mkStep ?_
          refine rg_read (i := 4) (a1 := _) rfl (by kernel_rfl) rfl (by simp) (by intro wq hwq; go_wp2; exact ⟨rfl, rfl⟩) mkStep ?_
          refine rg_read (i := 5) (a1 := _) rfl (by kernel_rfl) rfl (by simp) (by intro wq hwq; go_wp2; exact ⟨rfl, rfl⟩) mkStep ?_
          refine rg_read (i := 6) (a1 := _) rfl (by kernel_rfl) rfl (by simp) (by intro wq hwq; go_wp2; exact ⟨rfl, rfl⟩) mkStep ?_
          refine rg_read (i := 7) (a1 := _) rfl (by kernel_rfl) rfl (by simp) (by intro wq hwq; go_wp2; exact ⟨rfl, rfl⟩) mkStep ?_
          refine rg_read (i := 8) (a1 := _) rfl (by kernel_rfl) rfl (by simp) (by intro wq hwq; go_wp2; exact ⟨rfl, rfl⟩) mkStep ?_
          refine rg_done (by kernel_rfl) ?_
          go_wp2
          go_roundw
          case rel => exact ⟨k + 1, by omega, by go_num, mkStep, upto_step heq.out hlt (by omega) he.out⟩
          case measure => simp [intOf]; omega
        · have e0 : ¬ (l[k].toNat : Int) = (m[k].toNat : Int) := fun e => he (UInt8.toNat_inj.1 (by omega))
          have e1 : ((l[k].toNat : Int) != (m[k].toNat : Int)) = true := by rw [bne_iff_ne]; exact e0
          have e2 : ((l[k].toNat : Int) == (m[k].toNat : Int)) = false := by rw [beq_eq_false_iff_ne]; exact e0
          replace he := hid he
          clear e0
          go_wp2_with fail
          refine rg_begin0 (n := 9) (by kernel_rfl) rfl fun rg0 => ?_
          refine rg_read (i := 0) (a1 := _) rfl (by kernel_rfl) rfl (by simp) (by intro wq hwq; go_wp2; exact ⟨rfl, rfl⟩) mkStep ?_
          refine rg_read (i := 1) (a1 := _) rfl (by kernel_rfl) rfl (by simp) (by intro wq hwq; go_wp2; exact ⟨rfl, rfl⟩) mkStep ?_
          refine rg_read (i := 2) (a1 := _) rfl (by kernel_rfl) rfl (by simp) (by intro wq hwq; go_wp2; exact ⟨rfl, rfl⟩) mkStep ?_
          refine rg_read (i := 3) (a1 := _) rfl (by kernel_rfl) rfl (by simp) (by intro wq hwq; go_wp2; exact ⟨rfl, rfl⟩) mkStep ?_
          refine rg_read (i := 4) (a1 := _) rfl (by kernel_rfl) rfl (by simp) (by intro wq hwq; go_wp2; exact ⟨rfl, rfl⟩) mkStep ?_
          refine rg_read (i := 5) (a1 := _) rfl (by kernel_rfl) rfl (by simp) (by intro wq hwq; go_wp2; exact ⟨rfl, rfl⟩) mkStep ?_
          refine rg_read (i := 6) (a1 := _) rfl (by kernel_rfl) rfl (by simp) (by intro wq hwq; go_wp2; exact ⟨rfl, rfl⟩) mkStep ?_
          refine rg_read (i := 7) (a1 := _) rfl (by kernel_rfl) rfl (by simp) (by intro wq hwq; go_wp2; exact ⟨rfl, rfl⟩) mkStep ?_
          refine rg_read (i := 8) (a1 := _) rfl (by kernel_rfl) rfl (by simp) (by intro wq hwq; go_wp2; exact ⟨rfl, rfl⟩) mkStep ?_
          refine rg_done (by kernel_rfl) ?_
          go_wp2
          go_ret
          exact ⟨by rw [upto_ne hlt (by omega) he.out]; rfl, mkStep⟩
      · go_wp2
        go_ret
        exact ⟨by rw [upto_all (by omega) (by omega) heq.out]; rfl, mkStep⟩
  · go_wp2
    go_ret
    exact ⟨ret_bool (by simp; intro e; exact hl (by rw [e])), mkStep⟩
theorem toBytes {F : List Nat} {v : Value} (l : List UInt8) (w : World) (hs1 : l.length ≤ 1048576) [h : Shows w F l [v]] :
    Calls Tryz.prog 133 #[v] w fun e w' => ∃ a c G, e = .returned (.slice a l.length c) ∧ Known w' G l [.slice a l.length c] ∧ NewF w G ∧ Step w w' := by
  obtain ⟨a, cap, hv, _, hvw, hml⟩ := bytes_open h.is
  cases hv
  unfold maxLen at hml
  clear h
  obtain ⟨w1, Z, hrun, hown, hf1⟩ := made_any (P := Tryz.prog) w l.length _ _ _ _ _ Tryz.bytes_tab (by omega)
  have s1 : Step w w1 := ⟨hf1⟩
  go_enter Tryz.func133, Tryz.ntmps133
  go_wp2
  go_loopw [4] (fun i wr => ∃ k : Nat, k ≤ l.length ∧ i = .int .i64 k ∧ Step w wr ∧ Build w wr 5 l k) (fun i _ => l.length - (intOf i).toNat)
  case atStart => exact ⟨0, by omega, rfl, mkStep, Build.start hown⟩
  case round =>
    obtain ⟨k, hk, rfl, st, hB⟩ := hrel
    by_cases hlt : k < l.length
    · obtain ⟨b, o, rfl, hc, _, ho⟩ := byte_cell hvw k hlt
      obtain ⟨hB1, hB2⟩ := hB.slots hlt
      have og := hB2 (by decide)
      obtain ⟨u0, d0, f0⟩ := hB1 0 (by decide)
      replace d0 : wr.cell? ⟨w.heap.size, k * 1, none⟩ = _ := d0
      replace f0 : wr.frozen? ⟨w.heap.size, k * 1, none⟩ = _ := f0
      rw [Nat.mul_one] at d0 f0
      clear hB1 hB2
      have hS := hB.step (wk := wr) (G2 := []) (ds := [.int .u8 l[k].toNat]) hlt (by decide) (Fr.refl _ _) ⟨rfl, rfl⟩ (New.nil _)
      rw [show sz UInt8 = 1 from rfl, Nat.mul_one] at hS
      simp only [setRow] at hS
      replace hS := hid hS
      go_wp2
      go_roundw
      case rel => exact ⟨k + 1, by omega, by go_num, mkStep, hS.out⟩
      case measure => simp [intOf]; omega
    · obtain rfl : k = l.length := by omega
      obtain ⟨G2, hI, hN⟩ := hB.done (by decide)
      go_wp2
      go_ret
      exact ⟨_, _, _, rfl, ⟨hI⟩, ⟨hN⟩, mkStep⟩
theorem szBytes {F : List Nat} {v : Value} (l : List UInt8) (left : Int) (w : World) (h0 : 0 ≤ left) (h1 : left ≤ 1048576) [h : Shows w F l [v]] :
    Calls Tryz.prog 127 #[v, .int .i64 left] w fun e w' => e = .returned (.int .i64 (left0 left l.length)) ∧ Step w w' := by
  obtain ⟨a, cap, hv, _, hvw, hml⟩ := bytes_open h.is
  cases hv
  unfold maxLen at hml
  clear h
  go_enter Tryz.func127, Tryz.ntmps127
  by_cases c : left - l.length < 0
  · have e := left0_neg c
    go_wp2
    go_ret
    exact ⟨by rw [e]; rfl, mkStep⟩
  · have e := left0_pos c
    go_wp2
    go_ret
    exact ⟨rfl, mkStep⟩
end Go.Proofs.YtociekeaiigpfaaGreatDoor
