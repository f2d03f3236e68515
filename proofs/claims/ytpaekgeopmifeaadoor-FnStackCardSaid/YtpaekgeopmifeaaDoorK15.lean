/- Contracts: what goes through a body, spec's side: what opens and closes. -/
import Derived.Test.YtpaekgeopmifeaaDoorK14
namespace Go.Proofs.YtpaekgeopmifeaaDoor
attribute [local go_sem ↓] Go.wp_at_zero Go.wp_at_succ
open Go.RowKit
open Rep (Is sz)

theorem Inv.nums {R : Int} {K : Nat} {sh : List Bool} {s : ChkS} (v : Inv R K sh s) : 0 ≤ s.t.base ∧ s.t.base ≤ s.h ∧ s.h ≤ K ∧ s.lo.length ≤ K ∧ 0 ≤ s.t.res ∧ s.t.res ≤ 1 := by
  have h1 := InvL.base v
  have h2 := InvL.top v
  have h3 := InvL.one v
  have h4 := InvL.hk v
  have h5 := InvL.lk v
  rw [List.length_map] at h5
  exact ⟨h1, h2, h4, h5, h3.1, h3.2⟩

theorem stakeI {p B g : Nat} {M : MH} {loc : Int} {s : ChkS} {bad : Bool} (n : Int) (w : World) (hn : 0 ≤ n ∧ n ≤ 1000) (hh : 0 ≤ s.t.base ∧ s.t.base ≤ s.h ∧ s.h ≤ 10000) [hS : SB w p B g M loc s bad] :
    Calls Tryd.prog 31 #[.pointer (some ⟨p, 0, none⟩), .int .i64 n] w fun e w' => e = .returned (.tuple #[]) ∧ SB w' p B g M loc (s.take n) (bad || !s.takeB n) ∧ StepX [p] w w' := by
  obtain ⟨n, rfl⟩ := Int.eq_ofNat_of_zero_le hn.1
  exact stake n w (by omega) hh.2.1 ⟨hh.1, by omega⟩

theorem sdie {p B g : Nat} {M : MH} {loc : Int} {s : ChkS} {bad : Bool} (w : World) (hl : s.lo.length ≤ 10000) [hS : SB w p B g M loc s bad] :
    Calls Tryd.prog 47 #[.pointer (some ⟨p, 0, none⟩)] w fun e w' => e = .returned (.tuple #[]) ∧ SB w' p B g M loc s.die bad ∧ StepX [p, g] w w' := by
  obtain ⟨⟨cap, bx, own⟩, ne, bp⟩ := hS
  obtain ⟨⟨c0, c1, c2, c3⟩, f0, f1, f2, f3⟩ := sb_top own
  have hcap := sb_size own
  have op := bx.old
  have ap := bx.arg
  have og : Old g w := ⟨block_lt_of_cell c0⟩
  have nb : NeB g p := ⟨ne⟩
  have nb' : NeB p g := ⟨ne.symm⟩
  have own2 := own_setN (s.lo.length * 4 + 3) (.bool true) (ownsRow_fr own ((Fr.refl [p] w).setCell (p := ⟨p, 9, none⟩) (.inl (by simp)) (.int .i64 s.t.base)) (by simp only [blk, List.mem_singleton]; rintro x rfl; exact ne))
  rw [ChkS.all, row_top (t' := s.die.t) sfr_len s.lo s.t 3 (.bool true) rfl] at own2
  replace own := hid own
  replace own2 := hid own2
  go_enter Tryd.func47, Tryd.ntmps47
  go_wp2
  go_end0
  have b1 : BoxL (w.setCell ⟨p, 9, none⟩ (.int .i64 s.t.base)) p (sv M loc s.t.base (.slice (some ⟨g, 0, none⟩) (s.lo.length + 1) cap) bad) := boxSet (sv_h ..)
  exact ⟨rfl, ⟨⟨cap, boxOf, own2.out⟩, ne, bp⟩, mkStepX⟩

theorem sopen {p B g : Nat} {M : MH} {loc : Int} {s : ChkS} {bad : Bool} (op r : Int) (w : World) (hl : s.lo.length ≤ 10000) [hS : SB w p B g M loc s bad] :
    Calls Tryd.prog 48 #[.pointer (some ⟨p, 0, none⟩), .int .i64 op, .int .i64 r] w fun e w' => e = .returned (.tuple #[]) ∧ ∃ g', SB w' p B g' M loc (s.push op r) bad ∧ (g' = g ∨ w.heap.size ≤ g') ∧ StepX [p, g] w w' := by
  have hlt := hS.lt
  obtain ⟨⟨cap, bx, own⟩, ne, bp⟩ := hS
  have hcap := sb_size own
  have opp := bx.old
  have ap := bx.arg
  have og : Old g w := ⟨hlt.2.1⟩
  have nb : NeB g p := ⟨ne⟩
  have nb' : NeB p g := ⟨ne.symm⟩
  replace own := hid own
  go_enter Tryd.func48, Tryd.ntmps48
  go_wp2_with fail
  refine rg_begin (n := 17) AnyW (by kernel_rfl) rfl ?_
  refine rg_read (i := 0) (a1 := _) rfl (by kernel_rfl) rfl (by first | (simp; done) | (simp [Act.put]; done)) (by intro wq hwq; go_wp2; exact ⟨rfl, rfl⟩) trivial ?_
  refine rg_read (i := 1) (a1 := _) rfl (by kernel_rfl) rfl (by first | (simp; done) | (simp [Act.put]; done)) (by intro wq hwq; go_wp2; exact ⟨rfl, rfl⟩) trivial ?_
  refine rg_read (i := 2) (a1 := _) rfl (by kernel_rfl) rfl (by first | (simp; done) | (simp [Act.put]; done)) (by intro wq hwq; go_wp2; exact ⟨rfl, rfl⟩) trivial ?_
  refine rg_read (i := 3) (a1 := _) rfl (by kernel_rfl) rfl (by first | (simp; done) | (simp [Act.put]; done)) (by intro wq hwq; go_wp2; exact ⟨rfl, rfl⟩) trivial ?_
  refine rg_read (i := 5) (a1 := _) rfl (by kernel_rfl) rfl (by first | (simp; done) | (simp [Act.put]; done)) (by intro wq hwq; go_wp2; exact ⟨rfl, rfl⟩) trivial ?_
  refine rg_read (i := 6) (a1 := _) rfl (by kernel_rfl) rfl (by first | (simp; done) | (simp [Act.put]; done)) (by intro wq hwq; go_wp2; exact ⟨rfl, rfl⟩) trivial ?_
  refine rg_read (i := 7) (a1 := _) rfl (by kernel_rfl) rfl (by first | (simp; done) | (simp [Act.put]; done)) (by intro wq hwq; go_wp2; exact ⟨rfl, rfl⟩) trivial ?_
  refine rg_read (i := 8) (a1 := _) rfl (by kernel_rfl) rfl (by first | (simp; done) | (simp [Act.put]; done)) (by intro wq hwq; go_wp2; exact ⟨rfl, rfl⟩) trivial ?_
  refine rg_read (i := 9) (a1 := _) rfl (by kernel_rfl) rfl (by first | (simp; done) | (simp [Act.put]; done)) (by intro wq hwq; go_wp2; exact ⟨rfl, rfl⟩) trivial ?_
  refine rg_two (i := 4) (j := 10) rfl rfl (by kernel_rfl) ?_ ?_
  · simp only [List.getElem_toArray, List.getElem_cons_succ, List.getElem_cons_zero]
    go_wp2_with fail
    refine ⟨trivial, ?_⟩
    refine rg_eff (i := 10) rfl (by kernel_rfl) ?_
    simp only [List.getElem_toArray, List.getElem_cons_succ, List.getElem_cons_zero]
    go_wp2_with fail
    refine ⟨trivial, ?_⟩
    refine rg_read (i := 11) (a1 := _) rfl (by kernel_rfl) rfl (by first | (simp; done) | (simp [Act.put]; done)) (by intro wq hwq; go_wp2; exact ⟨rfl, rfl⟩) trivial ?_
    refine rg_eff (i := 12) rfl (by kernel_rfl) ?_
    simp only [List.getElem_toArray, List.getElem_cons_succ, List.getElem_cons_zero]
    go_wp2_with fail
    refine ⟨trivial, ?_⟩
    refine rg_eff (i := 13) rfl (by kernel_rfl) ?_
    simp only [List.getElem_toArray, List.getElem_cons_succ, List.getElem_cons_zero]
    go_wp2_with (at_builtin; go_must (refine app_rowsB sfr 4 sfr_len sfr_one rfl (.tmp 10) (.tmp 18) 53 rfl 52 (.agg #[.int .i64 0, .int .i64 0, .int .i64 0, .bool false]) 32 Tryd.sfr_tab B (some ⟨g, 0, none⟩) (s.lo.length + 1) cap s.all ⟨op, r, s.h, false⟩ rfl (own_keep own.out) (by simp; omega) w.heap.size 1 rfl (fun j u hj => ⟨((Box.new w _ _).cell_eq j).trans (by simpa [sfr] using hj), (Box.new w _ _).live j⟩) (by omega) ?_); intro ao1 cap1 w1 hown1 sx0 hb1; have sx1 : StepX [g] _ w1 := ⟨sx0.fr⟩; clear sx0; have b1 : BoxL w1 p (sv M loc s.h (.slice (some ⟨g, 0, none⟩) (s.lo.length + 1) cap) bad) := boxOf; have op1 : Old p w1 := b1.old)
    refine ⟨trivial, ?_⟩
    refine rg_read (i := 14) (a1 := _) rfl (by kernel_rfl) rfl (by first | (simp; done) | (simp [Act.put]; done)) (by intro wq hwq; go_wp2; exact ⟨rfl, rfl⟩) trivial ?_
    refine rg_read (i := 15) (a1 := _) rfl (by kernel_rfl) rfl (by first | (simp; done) | (simp [Act.put]; done)) (by intro wq hwq; go_wp2; exact ⟨rfl, rfl⟩) trivial ?_
    refine rg_eff (i := 16) rfl (by kernel_rfl) ?_
    simp only [List.getElem_toArray, List.getElem_cons_succ, List.getElem_cons_zero]
    go_wp2_with fail
    refine ⟨trivial, ?_⟩
    refine rg_done (by kernel_rfl) ?_
    obtain ⟨g1, rfl, hg1, hg2⟩ := own_addr hown1 (by omega)
    have n1 : g1 = g ∨ w.heap.size ≤ g1 := by have := hb1 g1 (by simp [blk]); simp [blk] at this; omega
    have nb1 : NeB p g1 := ⟨by omega⟩
    have own2 := ownsRow_fr hown1 ((Fr.refl [p] w1).setCell (p := ⟨p, 10, none⟩) (.inl (by simp)) (.slice (some ⟨g1, 0, none⟩) (s.lo.length + 1 + 1) cap1)) (by simp only [blk, List.mem_singleton]; rintro x rfl; exact nb1.ne.symm)
    have own3 := hid own2
    clear own2
    go_end0
    refine ⟨rfl, g1, ⟨⟨cap1, ?_, ?_⟩, nb1.ne.symm, bp⟩, n1, mkStepX⟩
    · show BoxL _ _ (sv M loc s.h (.slice (some ⟨g1, 0, none⟩) ((s.lo ++ [s.t]).length + 1) cap1) bad)
      rw [List.length_append]
      exact boxSet (sv_st ..)
    · show World.ownsRow _ _ _ _ (.slice _ ((s.lo ++ [s.t]).length + 1) _) ((s.lo ++ [s.t]).length + 1) _
      rw [List.length_append]
      exact own3.out
  · simp only [List.getElem_toArray, List.getElem_cons_succ, List.getElem_cons_zero]
    go_wp2_with fail
    refine ⟨trivial, ?_⟩
    refine rg_read (i := 11) (a1 := _) rfl (by kernel_rfl) rfl (by first | (simp; done) | (simp [Act.put]; done)) (by intro wq hwq; go_wp2; exact ⟨rfl, rfl⟩) trivial ?_
    refine rg_two (i := 4) (j := 12) rfl rfl (by kernel_rfl) ?_ ?_
    · simp only [List.getElem_toArray, List.getElem_cons_succ, List.getElem_cons_zero]
      go_wp2_with fail
      refine ⟨trivial, ?_⟩
      refine rg_eff (i := 12) rfl (by kernel_rfl) ?_
      simp only [List.getElem_toArray, List.getElem_cons_succ, List.getElem_cons_zero]
      go_wp2_with fail
      refine ⟨trivial, ?_⟩
      refine rg_eff (i := 13) rfl (by kernel_rfl) ?_
      simp only [List.getElem_toArray, List.getElem_cons_succ, List.getElem_cons_zero]
      go_wp2_with (at_builtin; go_must (refine app_rowsB sfr 4 sfr_len sfr_one rfl (.tmp 10) (.tmp 18) 53 rfl 52 (.agg #[.int .i64 0, .int .i64 0, .int .i64 0, .bool false]) 32 Tryd.sfr_tab B (some ⟨g, 0, none⟩) (s.lo.length + 1) cap s.all ⟨op, r, s.h, false⟩ rfl (own_keep own.out) (by simp; omega) w.heap.size 1 rfl (fun j u hj => ⟨((Box.new w _ _).cell_eq j).trans (by simpa [sfr] using hj), (Box.new w _ _).live j⟩) (by omega) ?_); intro ao1 cap1 w1 hown1 sx0 hb1; have sx1 : StepX [g] _ w1 := ⟨sx0.fr⟩; clear sx0; have b1 : BoxL w1 p (sv M loc s.h (.slice (some ⟨g, 0, none⟩) (s.lo.length + 1) cap) bad) := boxOf; have op1 : Old p w1 := b1.old)
      refine ⟨trivial, ?_⟩
      refine rg_read (i := 14) (a1 := _) rfl (by kernel_rfl) rfl (by first | (simp; done) | (simp [Act.put]; done)) (by intro wq hwq; go_wp2; exact ⟨rfl, rfl⟩) trivial ?_
      refine rg_read (i := 15) (a1 := _) rfl (by kernel_rfl) rfl (by first | (simp; done) | (simp [Act.put]; done)) (by intro wq hwq; go_wp2; exact ⟨rfl, rfl⟩) trivial ?_
      refine rg_eff (i := 16) rfl (by kernel_rfl) ?_
      simp only [List.getElem_toArray, List.getElem_cons_succ, List.getElem_cons_zero]
      go_wp2_with fail
      refine ⟨trivial, ?_⟩
      refine rg_done (by kernel_rfl) ?_
      obtain ⟨g1, rfl, hg1, hg2⟩ := own_addr hown1 (by omega)
      have n1 : g1 = g ∨ w.heap.size ≤ g1 := by have := hb1 g1 (by simp [blk]); simp [blk] at this; omega
      have nb1 : NeB p g1 := ⟨by omega⟩
      have own2 := ownsRow_fr hown1 ((Fr.refl [p] w1).setCell (p := ⟨p, 10, none⟩) (.inl (by simp)) (.slice (some ⟨g1, 0, none⟩) (s.lo.length + 1 + 1) cap1)) (by simp only [blk, List.mem_singleton]; rintro x rfl; exact nb1.ne.symm)
      have own3 := hid own2
      clear own2
      go_end0
      refine ⟨rfl, g1, ⟨⟨cap1, ?_, ?_⟩, nb1.ne.symm, bp⟩, n1, mkStepX⟩
      · show BoxL _ _ (sv M loc s.h (.slice (some ⟨g1, 0, none⟩) ((s.lo ++ [s.t]).length + 1) cap1) bad)
        rw [List.length_append]
        exact boxSet (sv_st ..)
      · show World.ownsRow _ _ _ _ (.slice _ ((s.lo ++ [s.t]).length + 1) _) ((s.lo ++ [s.t]).length + 1) _
        rw [List.length_append]
        exact own3.out
    · simp only [List.getElem_toArray, List.getElem_cons_succ, List.getElem_cons_zero]
      go_wp2_with fail
      refine ⟨trivial, ?_⟩
      refine rg_eff (i := 4) rfl (by kernel_rfl) ?_
      simp only [List.getElem_toArray, List.getElem_cons_succ, List.getElem_cons_zero]
      go_wp2_with fail
      refine ⟨trivial, ?_⟩
      refine rg_eff (i := 13) rfl (by kernel_rfl) ?_
      simp only [List.getElem_toArray, List.getElem_cons_succ, List.getElem_cons_zero]
      go_wp2_with (at_builtin; go_must (refine app_rowsB sfr 4 sfr_len sfr_one rfl (.tmp 10) (.tmp 18) 53 rfl 52 (.agg #[.int .i64 0, .int .i64 0, .int .i64 0, .bool false]) 32 Tryd.sfr_tab B (some ⟨g, 0, none⟩) (s.lo.length + 1) cap s.all ⟨op, r, s.h, false⟩ rfl (own_keep own.out) (by simp; omega) w.heap.size 1 rfl (fun j u hj => ⟨((Box.new w _ _).cell_eq j).trans (by simpa [sfr] using hj), (Box.new w _ _).live j⟩) (by omega) ?_); intro ao1 cap1 w1 hown1 sx0 hb1; have sx1 : StepX [g] _ w1 := ⟨sx0.fr⟩; clear sx0; have b1 : BoxL w1 p (sv M loc s.h (.slice (some ⟨g, 0, none⟩) (s.lo.length + 1) cap) bad) := boxOf; have op1 : Old p w1 := b1.old)
      refine ⟨trivial, ?_⟩
      refine rg_read (i := 14) (a1 := _) rfl (by kernel_rfl) rfl (by first | (simp; done) | (simp [Act.put]; done)) (by intro wq hwq; go_wp2; exact ⟨rfl, rfl⟩) trivial ?_
      refine rg_read (i := 15) (a1 := _) rfl (by kernel_rfl) rfl (by first | (simp; done) | (simp [Act.put]; done)) (by intro wq hwq; go_wp2; exact ⟨rfl, rfl⟩) trivial ?_
      refine rg_eff (i := 16) rfl (by kernel_rfl) ?_
      simp only [List.getElem_toArray, List.getElem_cons_succ, List.getElem_cons_zero]
      go_wp2_with fail
      refine ⟨trivial, ?_⟩
      refine rg_done (by kernel_rfl) ?_
      obtain ⟨g1, rfl, hg1, hg2⟩ := own_addr hown1 (by omega)
      have n1 : g1 = g ∨ w.heap.size ≤ g1 := by have := hb1 g1 (by simp [blk]); simp [blk] at this; omega
      have nb1 : NeB p g1 := ⟨by omega⟩
      have own2 := ownsRow_fr hown1 ((Fr.refl [p] w1).setCell (p := ⟨p, 10, none⟩) (.inl (by simp)) (.slice (some ⟨g1, 0, none⟩) (s.lo.length + 1 + 1) cap1)) (by simp only [blk, List.mem_singleton]; rintro x rfl; exact nb1.ne.symm)
      have own3 := hid own2
      clear own2
      go_end0
      refine ⟨rfl, g1, ⟨⟨cap1, ?_, ?_⟩, nb1.ne.symm, bp⟩, n1, mkStepX⟩
      · show BoxL _ _ (sv M loc s.h (.slice (some ⟨g1, 0, none⟩) ((s.lo ++ [s.t]).length + 1) cap1) bad)
        rw [List.length_append]
        exact boxSet (sv_st ..)
      · show World.ownsRow _ _ _ _ (.slice _ ((s.lo ++ [s.t]).length + 1) _) ((s.lo ++ [s.t]).length + 1) _
        rw [List.length_append]
        exact own3.out

theorem sclose {p B g : Nat} {M : MH} {loc R : Int} {K : Nat} {sh : List Bool} {s : ChkS} {bad : Bool} (w : World) (v : Inv R K sh s) (hK : K ≤ 9000) [hS : SB w p B g M loc s bad] :
    Calls Tryd.prog 27 #[.pointer (some ⟨p, 0, none⟩)] w fun e w' => e = .returned (.tuple #[]) ∧ SB w' p B g M loc (s.take s.t.res) (bad || !s.closeB) ∧ StepX [p] w w' := by
  have hv := v.nums
  have hlt := hS.lt
  have hS0 := hS
  obtain ⟨⟨cap, bx, own⟩, ne, bp⟩ := hS
  obtain ⟨⟨c0, c1, c2, c3⟩, -⟩ := sb_top own
  have hcap := sb_size own
  have opp := bx.old
  have ap := bx.arg
  have og : Old g w := ⟨hlt.2.1⟩
  have nb : NeB g p := ⟨ne⟩
  have nb' : NeB p g := ⟨ne.symm⟩
  replace own := hid own
  go_enter Tryd.func27, Tryd.ntmps27
  go_wp2_with fail
  refine rg_begin0 (n := 14) (by kernel_rfl) rfl fun rg0 => ?_
  refine rg_read (i := 0) (a1 := _) rfl (by kernel_rfl) rfl (by simp) (by intro wq hwq; go_wp2; exact ⟨rfl, rfl⟩) mkStep ?_
  refine rg_read (i := 1) (a1 := _) rfl (by kernel_rfl) rfl (by simp) (by intro wq hwq; go_wp2; exact ⟨rfl, rfl⟩) mkStep ?_
  refine rg_read (i := 2) (a1 := _) rfl (by kernel_rfl) rfl (by simp) (by intro wq hwq; go_wp2; exact ⟨rfl, rfl⟩) mkStep ?_
  refine rg_read (i := 3) (a1 := _) rfl (by kernel_rfl) rfl (by simp) (by intro wq hwq; go_wp2; exact ⟨rfl, rfl⟩) mkStep ?_
  refine rg_read (i := 4) (a1 := _) rfl (by kernel_rfl) rfl (by simp) (by intro wq hwq; go_wp2; exact ⟨rfl, rfl⟩) mkStep ?_
  refine rg_read (i := 5) (a1 := _) rfl (by kernel_rfl) rfl (by simp) (by intro wq hwq; go_wp2; exact ⟨rfl, rfl⟩) mkStep ?_
  refine rg_read (i := 6) (a1 := _) rfl (by kernel_rfl) rfl (by simp) (by intro wq hwq; go_wp2; exact ⟨rfl, rfl⟩) mkStep ?_
  refine rg_read (i := 7) (a1 := _) rfl (by kernel_rfl) rfl (by simp) (by intro wq hwq; go_wp2; exact ⟨rfl, rfl⟩) mkStep ?_
  refine rg_read (i := 8) (a1 := _) rfl (by kernel_rfl) rfl (by simp) (by intro wq hwq; go_wp2; exact ⟨rfl, rfl⟩) mkStep ?_
  refine rg_read (i := 9) (a1 := _) rfl (by kernel_rfl) rfl (by simp) (by intro wq hwq; go_wp2; exact ⟨rfl, rfl⟩) mkStep ?_
  refine rg_read (i := 10) (a1 := _) rfl (by kernel_rfl) rfl (by simp) (by intro wq hwq; go_wp2; exact ⟨rfl, rfl⟩) mkStep ?_
  refine rg_read (i := 11) (a1 := _) rfl (by kernel_rfl) rfl (by simp) (by intro wq hwq; go_wp2; exact ⟨rfl, rfl⟩) mkStep ?_
  refine rg_eff (i := 12) rfl (by kernel_rfl) ?_
  simp only [List.getElem_toArray, List.getElem_cons_succ, List.getElem_cons_zero]
  go_wp2_with (fail)
  refine ⟨mkStep, ?_⟩
  refine rg_eff (i := 13) rfl (by kernel_rfl) ?_
  simp only [List.getElem_toArray, List.getElem_cons_succ, List.getElem_cons_zero]
  go_wp2_with (fail)
  refine ⟨mkStep, ?_⟩
  refine rg_done (by kernel_rfl) ?_
  go_wp2_with fail
  with_reducible refine Calls.mono (stakeI (s := s) (bad := bad) s.t.res _ (by omega) (by omega)) ?_
  rintro e w1 ⟨rfl, hS1, st1⟩
  obtain ⟨⟨cap1, b1, own1⟩, -, -⟩ := hS1
  have q1 := hid (show (s.take s.t.res).h = tkH s.h s.t.base s.t.res from rfl)
  go_wp2_with fail
  refine rg_begin0 (n := 7) (by kernel_rfl) rfl fun rg0 => ?_
  refine rg_read (i := 0) (a1 := _) rfl (by kernel_rfl) rfl (by simp) (by intro wq hwq; go_wp2; exact ⟨rfl, rfl⟩) mkStep ?_
  refine rg_read (i := 1) (a1 := _) rfl (by kernel_rfl) rfl (by simp) (by intro wq hwq; go_wp2; exact ⟨rfl, rfl⟩) mkStep ?_
  refine rg_read (i := 2) (a1 := _) rfl (by kernel_rfl) rfl (by simp) (by intro wq hwq; go_wp2; exact ⟨rfl, rfl⟩) mkStep ?_
  refine rg_read (i := 3) (a1 := _) rfl (by kernel_rfl) rfl (by simp) (by intro wq hwq; go_wp2; exact ⟨rfl, rfl⟩) mkStep ?_
  refine rg_read (i := 4) (a1 := _) rfl (by kernel_rfl) rfl (by simp) (by intro wq hwq; go_wp2; exact ⟨rfl, rfl⟩) mkStep ?_
  refine rg_read (i := 5) (a1 := _) rfl (by kernel_rfl) rfl (by simp) (by intro wq hwq; go_wp2; exact ⟨rfl, rfl⟩) mkStep ?_
  refine rg_read (i := 6) (a1 := _) rfl (by kernel_rfl) rfl (by simp) (by intro wq hwq; go_wp2; exact ⟨rfl, rfl⟩) mkStep ?_
  refine rg_done (by kernel_rfl) ?_
  clear q1
  by_cases hq : tkH s.h s.t.base s.t.res = s.t.base
  · have e1 : ((s.take s.t.res).h != s.t.base) = false := by
      show (tkH s.h s.t.base s.t.res != s.t.base) = false
      rw [hq]; simp
    have e2 := hid (show s.closeB = s.takeB s.t.res by unfold ChkS.closeB; rw [decide_eq_true hq, Bool.and_true])
    replace hq := hid hq
    go_wp2
    go_end0
    rw [e2.out]
    exact ⟨rfl, ⟨⟨cap1, boxOf, own_keep own1⟩, ne, bp⟩, mkStepX⟩
  · have e1 : ((s.take s.t.res).h != s.t.base) = true := by
      show (tkH s.h s.t.base s.t.res != s.t.base) = true
      simpa using hq
    have e2 := hid (show s.closeB = false by unfold ChkS.closeB; rw [decide_eq_false hq, Bool.and_false])
    replace hq := hid hq
    have own2 := hid (ownsRow_fr own1 ((Fr.refl [p] w1).setCell (p := ⟨p, 11, none⟩) (.inl (by simp)) (.bool true)).drew (by simp only [blk, List.mem_singleton]; rintro x rfl; exact ne))
    go_wp2
    go_end0
    rw [e2.out, Bool.not_false, Bool.or_true]
    exact ⟨rfl, ⟨⟨cap1, boxSetD (sv_bad ..), own2.out⟩, ne, bp⟩, mkStepX⟩

theorem labelC_no {l : List Frm} {a : Int} (h : ¬ a < l.length) : labelC l a = -1 := if_neg h
theorem labelC_loop {l : List Frm} {a : Int} {i : Nat} (h : a < l.length) (hi : i < l.length) (e : l.length - 1 - a.toNat = i) (h3 : l[i].op = 3) : labelC l a = 0 := by
  unfold labelC
  rw [if_pos h, e]
  show (if (l.getD i _).op = 3 then _ else _) = _
  rw [getD_in _ hi, if_pos h3]
theorem labelC_res {l : List Frm} {a : Int} {i : Nat} (h : a < l.length) (hi : i < l.length) (e : l.length - 1 - a.toNat = i) (h3 : ¬ l[i].op = 3) : labelC l a = l[i].res := by
  unfold labelC
  rw [if_pos h, e]
  show (if (l.getD i _).op = 3 then _ else (l.getD i _).res) = _
  rw [getD_in _ hi, if_neg h3]
theorem all_len (s : ChkS) : s.all.length = s.lo.length + 1 := by simp [ChkS.all]

theorem slabel {p B g : Nat} {M : MH} {loc : Int} {s : ChkS} {bad : Bool} (a : Int) (w : World) (ha : 0 ≤ a ∧ a ≤ 1000) (hl : s.lo.length ≤ 10000) [hS : SB w p B g M loc s bad] :
    Calls Tryd.prog 49 #[.pointer (some ⟨p, 0, none⟩), .int .i64 a] w fun e w' => e = .returned (.int .i64 (labelC s.all a)) ∧ Step w w' := by
  have hlt := hS.lt
  obtain ⟨⟨cap, bx, own⟩, ne, bp⟩ := hS
  have hcap := sb_size own
  have opp := bx.old
  have ap := bx.arg
  have og : Old g w := ⟨hlt.2.1⟩
  have hal := all_len s
  obtain ⟨k, rfl⟩ := Int.eq_ofNat_of_zero_le ha.1
  by_cases hk : k < s.lo.length + 1
  · obtain ⟨i, hi⟩ : ∃ i, s.lo.length - k = i := ⟨_, rfl⟩
    have hi2 : i < s.all.length := by omega
    have hc := own_row_at sfr_len own i hi2
    have c0 := (hc 0 _ rfl).1
    have c1 := (hc 1 _ rfl).1
    have c2 := (hc 2 _ rfl).1
    have c3 := (hc 3 _ rfl).1
    replace c0 : w.cell? ⟨g, i * 4, none⟩ = _ := c0
    clear hc
    have ei : (s.lo.length : Int) - (k : Int) = (i : Int) := by omega
    have hkl : ((k : Nat) : Int) < s.all.length := by omega
    have hidx : s.all.length - 1 - ((k : Nat) : Int).toNat = i := by omega
    have r1 := fun h => hid (labelC_loop hkl hi2 hidx h)
    have r2 := fun h => hid (labelC_res hkl hi2 hidx h)
    obtain ⟨f, hf⟩ : ∃ f, s.all[i] = f := ⟨_, rfl⟩
    rw [hf] at c0 c1 c2 c3 r1 r2
    clear hkl hidx own
    clear hf
    have hi3 : i < s.lo.length + 1 := by omega
    clear hi2
    by_cases h3 : f.op = 3
    · have r := r1 h3
      have h3b : (f.op == 3) = true := beq_iff_eq.2 h3
      clear r1 r2
      replace h3 := hid h3
      go_enter Tryd.func49, Tryd.ntmps49
      go_wp2
      go_ret
      exact ⟨by rw [r.out]; rfl, mkStep⟩
    · have r := r2 h3
      have h3b : (f.op == 3) = false := beq_eq_false_iff_ne.2 h3
      clear r1 r2
      replace h3 := hid h3
      go_enter Tryd.func49, Tryd.ntmps49
      go_wp2
      go_ret
      exact ⟨by rw [r.out]; rfl, mkStep⟩
  · have r := hid (labelC_no (l := s.all) (a := (k : Int)) (by omega))
    go_enter Tryd.func49, Tryd.ntmps49
    go_wp2
    go_ret
    exact ⟨by rw [r.out]; rfl, mkStep⟩
end Go.Proofs.YtpaekgeopmifeaaDoor
