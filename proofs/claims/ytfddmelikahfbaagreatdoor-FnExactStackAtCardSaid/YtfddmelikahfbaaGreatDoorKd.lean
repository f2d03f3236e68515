/- Contracts: what goes through a body, impl's side: an instruction. Contracts: what goes through a body, impl's side: heights, FaultAt. Contracts: FaultAt, impl's side. A law's argument that is a slice, or a struct, as plain data. Laid tables of utf8 as the law's row lists them. -/
import Derived.Test.YtfddmelikahfbaaGreatDoorKc
import Derived.Test.YtfddmelikahfbaaGreatDoorHelp
import Derived.Test.YtfddmelikahfbaaGreatDoorUtfI
import Derived.MakeChecks
namespace Go.Proofs.YtfddmelikahfbaaGreatDoor
attribute [local go_sem ↓] Go.wp_at_zero Go.wp_at_succ
open Go.RowKit
open Rep (Is sz)

theorem close_h {s : ChkS} (h : s.closeB = true) : tkH s.h s.t.base s.t.res = s.t.base := by
  unfold ChkS.closeB at h
  simp only [Bool.and_eq_true, decide_eq_true_eq] at h
  exact h.2

theorem last_snoc {α : Type} (l : List α) (x : α) : (l ++ [x]).getLast? = some x := by simp

set_option maxRecDepth 10000 in
set_option maxHeartbeats 4000000 in
theorem istep {p B g : Nat} {F : List Nat} {M : MH} {sg : SigD} {loc : Int} {K : Nat} {sh sh' : List Bool} {s : ChkS} (m : ModuleD) (i : InsD) (w : World) (pa : PartsP m) (hg : -1 ≤ m.pages) (v : Inv sg.results K sh s) (hK : K ≤ 9000) (hR : 0 ≤ sg.results ∧ sg.results ≤ 1) (hi : insOk i = true) (hs : shStep sh i.op = some sh') [hS : IB w p B g M sg loc s] [hm : Shows w F m M.cells] [apf : Apart F [p]] :
    Calls Tryz.prog 76 #[.pointer (some ⟨p, 0, none⟩), .agg #[.int .i64 i.op, .int .i64 i.a, .int .i64 i.b]] w fun e w' => ∃ g' b' s', stepC m loc sg.results s i = (b', s') ∧ e = .returned (.bool b') ∧ (b' = true → IB w' p B g' M sg loc s') ∧ (g' = g ∨ w.heap.size ≤ g') ∧ StepX [p, g] w w' := by
  have hv := v.nums
  have hlt := hS.lt
  have hne := hS.ne
  have hbp := hS.bp
  have nb : NeB g p := ⟨hne⟩
  have nb' : NeB p g := ⟨hne.symm⟩
  have ag : Arg g w := ⟨hlt.2.1⟩
  have ap : Arg p w := ⟨hlt.1⟩
  have og : Old g w := ⟨hlt.2.1⟩
  have opp : Old p w := ⟨hlt.1⟩
  have kk := hm.known
  have hl : s.lo.length ≤ 10000 := by omega
  have hh : 0 ≤ s.t.base ∧ s.t.base ≤ s.h ∧ s.h ≤ 10000 := by omega
  cases hf : flowOp i.op
  · have r := hid (step_plain (m := m) (loc := loc) (R := sg.results) (s := s) hf)
    have hP := fun w9 (h9 : IB w9 p B g M sg loc s) (h8 : Shows w9 F m M.cells) => iplain (sg := sg) (R := sg.results) (s := s) m i w9 pa hg v hK hi hf (hS := h9) (hm := h8) (apf := apf)
    have n : ¬ flowOp i.op = true := by rw [hf]; simp
    simp only [flowOp, decide_eq_true_eq] at n
    have n0 : (i.op == 0) = false := beq_eq_false_iff_ne.2 (by omega)
    have n2 : (i.op == 2) = false := beq_eq_false_iff_ne.2 (by omega)
    have n3 : (i.op == 3) = false := beq_eq_false_iff_ne.2 (by omega)
    have n4 : (i.op == 4) = false := beq_eq_false_iff_ne.2 (by omega)
    have n5 : (i.op == 5) = false := beq_eq_false_iff_ne.2 (by omega)
    have n11 : (i.op == 11) = false := beq_eq_false_iff_ne.2 (by omega)
    have n12 : (i.op == 12) = false := beq_eq_false_iff_ne.2 (by omega)
    have n13 : (i.op == 13) = false := beq_eq_false_iff_ne.2 (by omega)
    have n15 : (i.op == 15) = false := beq_eq_false_iff_ne.2 (by omega)
    clear n
    obtain ⟨q, hq⟩ : ∃ q, plainC m loc s i = q := ⟨_, rfl⟩
    simp only [hq] at r hP
    obtain ⟨b', s'⟩ := q
    replace hq := hid hq
    go_enter Tryz.func76, Tryz.ntmps76
    go_wp2_with fail
    with_reducible refine Calls.mono (hP _ inferInstance inferInstance) ?_
    rintro e w1 ⟨rfl, hS1, st1⟩
    go_wp2
    go_ret
    exact ⟨g, b', s', r.out, rfl, fun _ => inferInstance, .inl rfl, mkStepX⟩
  have rr := hid (step_flow (m := m) (loc := loc) (R := sg.results) (s := s) hf)
  simp only [flowOp, decide_eq_true_eq] at hf
  by_cases hbr : i.op = 0 ∨ i.op = 15 ∨ i.op = 12 ∨ i.op = 13
  · have hB := fun w9 (h9 : IB w9 p B g M sg loc s) => ibranch (s := s) i w9 v hK hR hi hbr (hS := h9)
    obtain ⟨op, a, b⟩ := i
    simp only at hbr hB
    clear hf
    rcases hbr with rfl | rfl | rfl | rfl
    all_goals
      go_enter Tryz.func76, Tryz.ntmps76
      go_wp2_with fail
      with_reducible refine Calls.mono (hB _ inferInstance) ?_
      rintro e w1 ⟨b', s', e1, rfl, hS1, st1⟩
      replace e1 := hid e1
      replace hS1 := hid hS1
      go_wp2
      go_ret
      exact ⟨g, b', s', rr.out.trans e1.out, rfl, fun h => hS1.out h, .inl rfl, mkStepX⟩
  have ho : i.op = 2 ∨ i.op = 3 ∨ i.op = 4 ∨ i.op = 5 ∨ i.op = 11 := by omega
  clear hf hbr
  obtain ⟨op, a, b⟩ := i
  simp only at ho
  rcases ho with rfl | rfl | rfl | rfl | rfl
  · obtain ⟨⟨cap, bx, own⟩, -, -⟩ := id hS
    have hcap := ib_size own
    replace own := hid own
    go_enter Tryz.func76, Tryz.ntmps76
    go_wp2_with fail
    refine wp_name ?_
    intro A sA
    have hAs : w.heap.size ≤ A.heap.size := (inferInstance : Grew w A).le
    have oA : A.ownsRow B 130 5 (.slice (some ⟨g, 0, none⟩) (s.lo.length + 1) cap) (s.lo.length + 1) (s.all.flatMap ifr) := own_keep own.out
    replace oA := hid oA
    have oAp : Old p A := inferInstance
    refine rg_beginX [p, g] (n := 23) (by kernel_rfl) rfl fun rg0 => ?_
    refine rg_read (i := 0) (a1 := _) rfl (by kernel_rfl) rfl (by first | (simp; done) | (simp [Act.put]; done)) (by intro wq hwq; go_wp2; exact ⟨rfl, rfl⟩) mkStepX ?_
    refine rg_read (i := 1) (a1 := _) rfl (by kernel_rfl) rfl (by first | (simp; done) | (simp [Act.put]; done)) (by intro wq hwq; go_wp2; exact ⟨rfl, rfl⟩) mkStepX ?_
    refine rg_read (i := 2) (a1 := _) rfl (by kernel_rfl) rfl (by first | (simp; done) | (simp [Act.put]; done)) (by intro wq hwq; go_wp2; exact ⟨rfl, rfl⟩) mkStepX ?_
    refine rg_read (i := 3) (a1 := _) rfl (by kernel_rfl) rfl (by first | (simp; done) | (simp [Act.put]; done)) (by intro wq hwq; go_wp2; exact ⟨rfl, rfl⟩) mkStepX ?_
    refine rg_read (i := 5) (a1 := _) rfl (by kernel_rfl) rfl (by first | (simp; done) | (simp [Act.put]; done)) (by intro wq hwq; go_wp2; exact ⟨rfl, rfl⟩) mkStepX ?_
    refine rg_read (i := 6) (a1 := _) rfl (by kernel_rfl) rfl (by first | (simp; done) | (simp [Act.put]; done)) (by intro wq hwq; go_wp2; exact ⟨rfl, rfl⟩) mkStepX ?_
    refine rg_read (i := 7) (a1 := _) rfl (by kernel_rfl) rfl (by first | (simp; done) | (simp [Act.put]; done)) (by intro wq hwq; go_wp2; exact ⟨rfl, rfl⟩) mkStepX ?_
    refine rg_read (i := 8) (a1 := _) rfl (by kernel_rfl) rfl (by first | (simp; done) | (simp [Act.put]; done)) (by intro wq hwq; go_wp2; exact ⟨rfl, rfl⟩) mkStepX ?_
    refine rg_read (i := 9) (a1 := _) rfl (by kernel_rfl) rfl (by first | (simp; done) | (simp [Act.put]; done)) (by intro wq hwq; go_wp2; exact ⟨rfl, rfl⟩) mkStepX ?_
    refine rg_read (i := 11) (a1 := _) rfl (by kernel_rfl) rfl (by first | (simp; done) | (simp [Act.put]; done)) (by intro wq hwq; go_wp2; exact ⟨rfl, rfl⟩) mkStepX ?_
    refine rg_read (i := 12) (a1 := _) rfl (by kernel_rfl) rfl (by first | (simp; done) | (simp [Act.put]; done)) (by intro wq hwq; go_wp2; exact ⟨rfl, rfl⟩) mkStepX ?_
    refine rg_read (i := 13) (a1 := _) rfl (by kernel_rfl) rfl (by first | (simp; done) | (simp [Act.put]; done)) (by intro wq hwq; go_wp2; exact ⟨rfl, rfl⟩) mkStepX ?_
    refine rg_read (i := 14) (a1 := _) rfl (by kernel_rfl) rfl (by first | (simp; done) | (simp [Act.put]; done)) (by intro wq hwq; go_wp2; exact ⟨rfl, rfl⟩) mkStepX ?_
    refine rg_read (i := 15) (a1 := _) rfl (by kernel_rfl) rfl (by first | (simp; done) | (simp [Act.put]; done)) (by intro wq hwq; go_wp2; exact ⟨rfl, rfl⟩) mkStepX ?_
    refine rg_read (i := 16) (a1 := _) rfl (by kernel_rfl) rfl (by first | (simp; done) | (simp [Act.put]; done)) (by intro wq hwq; go_wp2; exact ⟨rfl, rfl⟩) mkStepX ?_
    refine rg_two (i := 4) (j := 10) rfl rfl (by kernel_rfl) ?_ ?_
    · simp only [List.getElem_toArray, List.getElem_cons_succ, List.getElem_cons_zero]
      go_wp2_with (fail)
      refine ⟨mkStepX, ?_⟩
      refine rg_eff (i := 10) rfl (by kernel_rfl) ?_
      simp only [List.getElem_toArray, List.getElem_cons_succ, List.getElem_cons_zero]
      go_wp2_with (fail)
      refine ⟨mkStepX, ?_⟩
      refine rg_read (i := 17) (a1 := _) rfl (by kernel_rfl) rfl (by first | (simp; done) | (simp [Act.put]; done)) (by intro wq hwq; go_wp2; exact ⟨rfl, rfl⟩) mkStepX ?_
      refine rg_eff (i := 18) rfl (by kernel_rfl) ?_
      simp only [List.getElem_toArray, List.getElem_cons_succ, List.getElem_cons_zero]
      go_wp2_with (fail)
      refine ⟨mkStepX, ?_⟩
      refine rg_eff (i := 19) rfl (by kernel_rfl) ?_
      simp only [List.getElem_toArray, List.getElem_cons_succ, List.getElem_cons_zero]
      go_wp2_with (at_builtin; go_must (refine app_rowsB ifr 5 ifr_len ifr_one rfl (.tmp 25) (.tmp 39) 131 rfl 130 (.agg #[.int .i64 0, .int .i64 0, .bool false, .bool false, .bool false]) 24 Tryz.ifr_tab B (some ⟨g, 0, none⟩) (s.lo.length + 1) cap s.all ⟨2, a, s.h, false⟩ rfl (own_keep oA.out) (by simp; omega) A.heap.size 1 rfl (fun j u hj => ⟨((Box.new A _ _).cell_eq j).trans (by simpa [ifr] using hj), (Box.new A _ _).live j⟩) (by omega) ?_); intro ao1 cap1 w9 hown1 sx0 hb1; have sx1 : StepX [g] _ w9 := ⟨sx0.fr⟩; clear sx0; have b1 : BoxL w9 p (iv M sg loc s.h (.slice (some ⟨g, 0, none⟩) (s.lo.length + 1) cap)) := boxOf; have op1 : Old p w9 := b1.old)
      refine ⟨mkStepX, ?_⟩
      refine rg_read (i := 20) (a1 := _) rfl (by kernel_rfl) rfl (by first | (simp; done) | (simp [Act.put]; done)) (by intro wq hwq; go_wp2; exact ⟨rfl, rfl⟩) mkStepX ?_
      refine rg_read (i := 21) (a1 := _) rfl (by kernel_rfl) rfl (by first | (simp; done) | (simp [Act.put]; done)) (by intro wq hwq; go_wp2; exact ⟨rfl, rfl⟩) mkStepX ?_
      refine rg_eff (i := 22) rfl (by kernel_rfl) ?_
      simp only [List.getElem_toArray, List.getElem_cons_succ, List.getElem_cons_zero]
      go_wp2_with (fail)
      refine ⟨mkStepX, ?_⟩
      refine rg_done (by kernel_rfl) ?_
      obtain ⟨g1, rfl, hg1, hg2⟩ := own_addr hown1 (by omega)
      have n1 : g1 = g ∨ w.heap.size ≤ g1 := by have := hb1 g1 (by simp [blk]); simp [blk] at this; omega
      have nb1 : NeB p g1 := ⟨by omega⟩
      replace hown1 := hid hown1
      go_wp2
      go_ret
      refine ⟨g1, _, _, rr.out.trans (flow_23 (.inl rfl)), rfl, fun _ => ⟨⟨cap1, ?_, ?_⟩, nb1.ne.symm, hbp⟩, n1, mkStepX⟩
      · show BoxL _ _ (iv M sg loc s.h (.slice (some ⟨g1, 0, none⟩) ((s.lo ++ [s.t]).length + 1) cap1))
        rw [List.length_append]
        first | exact boxSet (iv_st ..) | exact boxSetD (iv_st ..)
      · show World.ownsRow _ _ _ _ (.slice _ ((s.lo ++ [s.t]).length + 1) _) ((s.lo ++ [s.t]).length + 1) _
        rw [List.length_append]
        exact ownsRow_fr hown1.out (FrX.fr (S := [p])) (by simp only [blk, List.mem_singleton]; rintro x rfl; exact nb1.ne.symm)
    · simp only [List.getElem_toArray, List.getElem_cons_succ, List.getElem_cons_zero]
      go_wp2_with (fail)
      refine ⟨mkStepX, ?_⟩
      refine rg_read (i := 17) (a1 := _) rfl (by kernel_rfl) rfl (by first | (simp; done) | (simp [Act.put]; done)) (by intro wq hwq; go_wp2; exact ⟨rfl, rfl⟩) mkStepX ?_
      refine rg_two (i := 4) (j := 18) rfl rfl (by kernel_rfl) ?_ ?_
      · simp only [List.getElem_toArray, List.getElem_cons_succ, List.getElem_cons_zero]
        go_wp2_with (fail)
        refine ⟨mkStepX, ?_⟩
        refine rg_eff (i := 18) rfl (by kernel_rfl) ?_
        simp only [List.getElem_toArray, List.getElem_cons_succ, List.getElem_cons_zero]
        go_wp2_with (fail)
        refine ⟨mkStepX, ?_⟩
        refine rg_eff (i := 19) rfl (by kernel_rfl) ?_
        simp only [List.getElem_toArray, List.getElem_cons_succ, List.getElem_cons_zero]
        go_wp2_with (at_builtin; go_must (refine app_rowsB ifr 5 ifr_len ifr_one rfl (.tmp 25) (.tmp 39) 131 rfl 130 (.agg #[.int .i64 0, .int .i64 0, .bool false, .bool false, .bool false]) 24 Tryz.ifr_tab B (some ⟨g, 0, none⟩) (s.lo.length + 1) cap s.all ⟨2, a, s.h, false⟩ rfl (own_keep oA.out) (by simp; omega) A.heap.size 1 rfl (fun j u hj => ⟨((Box.new A _ _).cell_eq j).trans (by simpa [ifr] using hj), (Box.new A _ _).live j⟩) (by omega) ?_); intro ao1 cap1 w9 hown1 sx0 hb1; have sx1 : StepX [g] _ w9 := ⟨sx0.fr⟩; clear sx0; have b1 : BoxL w9 p (iv M sg loc s.h (.slice (some ⟨g, 0, none⟩) (s.lo.length + 1) cap)) := boxOf; have op1 : Old p w9 := b1.old)
        refine ⟨mkStepX, ?_⟩
        refine rg_read (i := 20) (a1 := _) rfl (by kernel_rfl) rfl (by first | (simp; done) | (simp [Act.put]; done)) (by intro wq hwq; go_wp2; exact ⟨rfl, rfl⟩) mkStepX ?_
        refine rg_read (i := 21) (a1 := _) rfl (by kernel_rfl) rfl (by first | (simp; done) | (simp [Act.put]; done)) (by intro wq hwq; go_wp2; exact ⟨rfl, rfl⟩) mkStepX ?_
        refine rg_eff (i := 22) rfl (by kernel_rfl) ?_
        simp only [List.getElem_toArray, List.getElem_cons_succ, List.getElem_cons_zero]
        go_wp2_with (fail)
        refine ⟨mkStepX, ?_⟩
        refine rg_done (by kernel_rfl) ?_
        obtain ⟨g1, rfl, hg1, hg2⟩ := own_addr hown1 (by omega)
        have n1 : g1 = g ∨ w.heap.size ≤ g1 := by have := hb1 g1 (by simp [blk]); simp [blk] at this; omega
        have nb1 : NeB p g1 := ⟨by omega⟩
        replace hown1 := hid hown1
        go_wp2
        go_ret
        refine ⟨g1, _, _, rr.out.trans (flow_23 (.inl rfl)), rfl, fun _ => ⟨⟨cap1, ?_, ?_⟩, nb1.ne.symm, hbp⟩, n1, mkStepX⟩
        · show BoxL _ _ (iv M sg loc s.h (.slice (some ⟨g1, 0, none⟩) ((s.lo ++ [s.t]).length + 1) cap1))
          rw [List.length_append]
          first | exact boxSet (iv_st ..) | exact boxSetD (iv_st ..)
        · show World.ownsRow _ _ _ _ (.slice _ ((s.lo ++ [s.t]).length + 1) _) ((s.lo ++ [s.t]).length + 1) _
          rw [List.length_append]
          exact ownsRow_fr hown1.out (FrX.fr (S := [p])) (by simp only [blk, List.mem_singleton]; rintro x rfl; exact nb1.ne.symm)
      · simp only [List.getElem_toArray, List.getElem_cons_succ, List.getElem_cons_zero]
        go_wp2_with (fail)
        refine ⟨mkStepX, ?_⟩
        refine rg_eff (i := 4) rfl (by kernel_rfl) ?_
        simp only [List.getElem_toArray, List.getElem_cons_succ, List.getElem_cons_zero]
        go_wp2_with (fail)
        refine ⟨mkStepX, ?_⟩
        refine rg_eff (i := 19) rfl (by kernel_rfl) ?_
        simp only [List.getElem_toArray, List.getElem_cons_succ, List.getElem_cons_zero]
        go_wp2_with (at_builtin; go_must (refine app_rowsB ifr 5 ifr_len ifr_one rfl (.tmp 25) (.tmp 39) 131 rfl 130 (.agg #[.int .i64 0, .int .i64 0, .bool false, .bool false, .bool false]) 24 Tryz.ifr_tab B (some ⟨g, 0, none⟩) (s.lo.length + 1) cap s.all ⟨2, a, s.h, false⟩ rfl (own_keep oA.out) (by simp; omega) A.heap.size 1 rfl (fun j u hj => ⟨((Box.new A _ _).cell_eq j).trans (by simpa [ifr] using hj), (Box.new A _ _).live j⟩) (by omega) ?_); intro ao1 cap1 w9 hown1 sx0 hb1; have sx1 : StepX [g] _ w9 := ⟨sx0.fr⟩; clear sx0; have b1 : BoxL w9 p (iv M sg loc s.h (.slice (some ⟨g, 0, none⟩) (s.lo.length + 1) cap)) := boxOf; have op1 : Old p w9 := b1.old)
        refine ⟨mkStepX, ?_⟩
        refine rg_read (i := 20) (a1 := _) rfl (by kernel_rfl) rfl (by first | (simp; done) | (simp [Act.put]; done)) (by intro wq hwq; go_wp2; exact ⟨rfl, rfl⟩) mkStepX ?_
        refine rg_read (i := 21) (a1 := _) rfl (by kernel_rfl) rfl (by first | (simp; done) | (simp [Act.put]; done)) (by intro wq hwq; go_wp2; exact ⟨rfl, rfl⟩) mkStepX ?_
        refine rg_eff (i := 22) rfl (by kernel_rfl) ?_
        simp only [List.getElem_toArray, List.getElem_cons_succ, List.getElem_cons_zero]
        go_wp2_with (fail)
        refine ⟨mkStepX, ?_⟩
        refine rg_done (by kernel_rfl) ?_
        obtain ⟨g1, rfl, hg1, hg2⟩ := own_addr hown1 (by omega)
        have n1 : g1 = g ∨ w.heap.size ≤ g1 := by have := hb1 g1 (by simp [blk]); simp [blk] at this; omega
        have nb1 : NeB p g1 := ⟨by omega⟩
        replace hown1 := hid hown1
        go_wp2
        go_ret
        refine ⟨g1, _, _, rr.out.trans (flow_23 (.inl rfl)), rfl, fun _ => ⟨⟨cap1, ?_, ?_⟩, nb1.ne.symm, hbp⟩, n1, mkStepX⟩
        · show BoxL _ _ (iv M sg loc s.h (.slice (some ⟨g1, 0, none⟩) ((s.lo ++ [s.t]).length + 1) cap1))
          rw [List.length_append]
          first | exact boxSet (iv_st ..) | exact boxSetD (iv_st ..)
        · show World.ownsRow _ _ _ _ (.slice _ ((s.lo ++ [s.t]).length + 1) _) ((s.lo ++ [s.t]).length + 1) _
          rw [List.length_append]
          exact ownsRow_fr hown1.out (FrX.fr (S := [p])) (by simp only [blk, List.mem_singleton]; rintro x rfl; exact nb1.ne.symm)
  · obtain ⟨⟨cap, bx, own⟩, -, -⟩ := id hS
    have hcap := ib_size own
    replace own := hid own
    go_enter Tryz.func76, Tryz.ntmps76
    go_wp2_with fail
    refine wp_name ?_
    intro A sA
    have hAs : w.heap.size ≤ A.heap.size := (inferInstance : Grew w A).le
    have oA : A.ownsRow B 130 5 (.slice (some ⟨g, 0, none⟩) (s.lo.length + 1) cap) (s.lo.length + 1) (s.all.flatMap ifr) := own_keep own.out
    replace oA := hid oA
    have oAp : Old p A := inferInstance
    refine rg_beginX [p, g] (n := 23) (by kernel_rfl) rfl fun rg0 => ?_
    refine rg_read (i := 0) (a1 := _) rfl (by kernel_rfl) rfl (by first | (simp; done) | (simp [Act.put]; done)) (by intro wq hwq; go_wp2; exact ⟨rfl, rfl⟩) mkStepX ?_
    refine rg_read (i := 1) (a1 := _) rfl (by kernel_rfl) rfl (by first | (simp; done) | (simp [Act.put]; done)) (by intro wq hwq; go_wp2; exact ⟨rfl, rfl⟩) mkStepX ?_
    refine rg_read (i := 2) (a1 := _) rfl (by kernel_rfl) rfl (by first | (simp; done) | (simp [Act.put]; done)) (by intro wq hwq; go_wp2; exact ⟨rfl, rfl⟩) mkStepX ?_
    refine rg_read (i := 3) (a1 := _) rfl (by kernel_rfl) rfl (by first | (simp; done) | (simp [Act.put]; done)) (by intro wq hwq; go_wp2; exact ⟨rfl, rfl⟩) mkStepX ?_
    refine rg_read (i := 5) (a1 := _) rfl (by kernel_rfl) rfl (by first | (simp; done) | (simp [Act.put]; done)) (by intro wq hwq; go_wp2; exact ⟨rfl, rfl⟩) mkStepX ?_
    refine rg_read (i := 6) (a1 := _) rfl (by kernel_rfl) rfl (by first | (simp; done) | (simp [Act.put]; done)) (by intro wq hwq; go_wp2; exact ⟨rfl, rfl⟩) mkStepX ?_
    refine rg_read (i := 7) (a1 := _) rfl (by kernel_rfl) rfl (by first | (simp; done) | (simp [Act.put]; done)) (by intro wq hwq; go_wp2; exact ⟨rfl, rfl⟩) mkStepX ?_
    refine rg_read (i := 8) (a1 := _) rfl (by kernel_rfl) rfl (by first | (simp; done) | (simp [Act.put]; done)) (by intro wq hwq; go_wp2; exact ⟨rfl, rfl⟩) mkStepX ?_
    refine rg_read (i := 9) (a1 := _) rfl (by kernel_rfl) rfl (by first | (simp; done) | (simp [Act.put]; done)) (by intro wq hwq; go_wp2; exact ⟨rfl, rfl⟩) mkStepX ?_
    refine rg_read (i := 11) (a1 := _) rfl (by kernel_rfl) rfl (by first | (simp; done) | (simp [Act.put]; done)) (by intro wq hwq; go_wp2; exact ⟨rfl, rfl⟩) mkStepX ?_
    refine rg_read (i := 12) (a1 := _) rfl (by kernel_rfl) rfl (by first | (simp; done) | (simp [Act.put]; done)) (by intro wq hwq; go_wp2; exact ⟨rfl, rfl⟩) mkStepX ?_
    refine rg_read (i := 13) (a1 := _) rfl (by kernel_rfl) rfl (by first | (simp; done) | (simp [Act.put]; done)) (by intro wq hwq; go_wp2; exact ⟨rfl, rfl⟩) mkStepX ?_
    refine rg_read (i := 14) (a1 := _) rfl (by kernel_rfl) rfl (by first | (simp; done) | (simp [Act.put]; done)) (by intro wq hwq; go_wp2; exact ⟨rfl, rfl⟩) mkStepX ?_
    refine rg_read (i := 15) (a1 := _) rfl (by kernel_rfl) rfl (by first | (simp; done) | (simp [Act.put]; done)) (by intro wq hwq; go_wp2; exact ⟨rfl, rfl⟩) mkStepX ?_
    refine rg_read (i := 16) (a1 := _) rfl (by kernel_rfl) rfl (by first | (simp; done) | (simp [Act.put]; done)) (by intro wq hwq; go_wp2; exact ⟨rfl, rfl⟩) mkStepX ?_
    refine rg_two (i := 4) (j := 10) rfl rfl (by kernel_rfl) ?_ ?_
    · simp only [List.getElem_toArray, List.getElem_cons_succ, List.getElem_cons_zero]
      go_wp2_with (fail)
      refine ⟨mkStepX, ?_⟩
      refine rg_eff (i := 10) rfl (by kernel_rfl) ?_
      simp only [List.getElem_toArray, List.getElem_cons_succ, List.getElem_cons_zero]
      go_wp2_with (fail)
      refine ⟨mkStepX, ?_⟩
      refine rg_read (i := 17) (a1 := _) rfl (by kernel_rfl) rfl (by first | (simp; done) | (simp [Act.put]; done)) (by intro wq hwq; go_wp2; exact ⟨rfl, rfl⟩) mkStepX ?_
      refine rg_eff (i := 18) rfl (by kernel_rfl) ?_
      simp only [List.getElem_toArray, List.getElem_cons_succ, List.getElem_cons_zero]
      go_wp2_with (fail)
      refine ⟨mkStepX, ?_⟩
      refine rg_eff (i := 19) rfl (by kernel_rfl) ?_
      simp only [List.getElem_toArray, List.getElem_cons_succ, List.getElem_cons_zero]
      go_wp2_with (at_builtin; go_must (refine app_rowsB ifr 5 ifr_len ifr_one rfl (.tmp 25) (.tmp 39) 131 rfl 130 (.agg #[.int .i64 0, .int .i64 0, .bool false, .bool false, .bool false]) 24 Tryz.ifr_tab B (some ⟨g, 0, none⟩) (s.lo.length + 1) cap s.all ⟨3, a, s.h, false⟩ rfl (own_keep oA.out) (by simp; omega) A.heap.size 1 rfl (fun j u hj => ⟨((Box.new A _ _).cell_eq j).trans (by simpa [ifr] using hj), (Box.new A _ _).live j⟩) (by omega) ?_); intro ao1 cap1 w9 hown1 sx0 hb1; have sx1 : StepX [g] _ w9 := ⟨sx0.fr⟩; clear sx0; have b1 : BoxL w9 p (iv M sg loc s.h (.slice (some ⟨g, 0, none⟩) (s.lo.length + 1) cap)) := boxOf; have op1 : Old p w9 := b1.old)
      refine ⟨mkStepX, ?_⟩
      refine rg_read (i := 20) (a1 := _) rfl (by kernel_rfl) rfl (by first | (simp; done) | (simp [Act.put]; done)) (by intro wq hwq; go_wp2; exact ⟨rfl, rfl⟩) mkStepX ?_
      refine rg_read (i := 21) (a1 := _) rfl (by kernel_rfl) rfl (by first | (simp; done) | (simp [Act.put]; done)) (by intro wq hwq; go_wp2; exact ⟨rfl, rfl⟩) mkStepX ?_
      refine rg_eff (i := 22) rfl (by kernel_rfl) ?_
      simp only [List.getElem_toArray, List.getElem_cons_succ, List.getElem_cons_zero]
      go_wp2_with (fail)
      refine ⟨mkStepX, ?_⟩
      refine rg_done (by kernel_rfl) ?_
      obtain ⟨g1, rfl, hg1, hg2⟩ := own_addr hown1 (by omega)
      have n1 : g1 = g ∨ w.heap.size ≤ g1 := by have := hb1 g1 (by simp [blk]); simp [blk] at this; omega
      have nb1 : NeB p g1 := ⟨by omega⟩
      replace hown1 := hid hown1
      go_wp2
      go_ret
      refine ⟨g1, _, _, rr.out.trans (flow_23 (.inr rfl)), rfl, fun _ => ⟨⟨cap1, ?_, ?_⟩, nb1.ne.symm, hbp⟩, n1, mkStepX⟩
      · show BoxL _ _ (iv M sg loc s.h (.slice (some ⟨g1, 0, none⟩) ((s.lo ++ [s.t]).length + 1) cap1))
        rw [List.length_append]
        first | exact boxSet (iv_st ..) | exact boxSetD (iv_st ..)
      · show World.ownsRow _ _ _ _ (.slice _ ((s.lo ++ [s.t]).length + 1) _) ((s.lo ++ [s.t]).length + 1) _
        rw [List.length_append]
        exact ownsRow_fr hown1.out (FrX.fr (S := [p])) (by simp only [blk, List.mem_singleton]; rintro x rfl; exact nb1.ne.symm)
    · simp only [List.getElem_toArray, List.getElem_cons_succ, List.getElem_cons_zero]
      go_wp2_with (fail)
      refine ⟨mkStepX, ?_⟩
      refine rg_read (i := 17) (a1 := _) rfl (by kernel_rfl) rfl (by first | (simp; done) | (simp [Act.put]; done)) (by intro wq hwq; go_wp2; exact ⟨rfl, rfl⟩) mkStepX ?_
      refine rg_two (i := 4) (j := 18) rfl rfl (by kernel_rfl) ?_ ?_
      · simp only [List.getElem_toArray, List.getElem_cons_succ, List.getElem_cons_zero]
        go_wp2_with (fail)
        refine ⟨mkStepX, ?_⟩
        refine rg_eff (i := 18) rfl (by kernel_rfl) ?_
        simp only [List.getElem_toArray, List.getElem_cons_succ, List.getElem_cons_zero]
        go_wp2_with (fail)
        refine ⟨mkStepX, ?_⟩
        refine rg_eff (i := 19) rfl (by kernel_rfl) ?_
        simp only [List.getElem_toArray, List.getElem_cons_succ, List.getElem_cons_zero]
        go_wp2_with (at_builtin; go_must (refine app_rowsB ifr 5 ifr_len ifr_one rfl (.tmp 25) (.tmp 39) 131 rfl 130 (.agg #[.int .i64 0, .int .i64 0, .bool false, .bool false, .bool false]) 24 Tryz.ifr_tab B (some ⟨g, 0, none⟩) (s.lo.length + 1) cap s.all ⟨3, a, s.h, false⟩ rfl (own_keep oA.out) (by simp; omega) A.heap.size 1 rfl (fun j u hj => ⟨((Box.new A _ _).cell_eq j).trans (by simpa [ifr] using hj), (Box.new A _ _).live j⟩) (by omega) ?_); intro ao1 cap1 w9 hown1 sx0 hb1; have sx1 : StepX [g] _ w9 := ⟨sx0.fr⟩; clear sx0; have b1 : BoxL w9 p (iv M sg loc s.h (.slice (some ⟨g, 0, none⟩) (s.lo.length + 1) cap)) := boxOf; have op1 : Old p w9 := b1.old)
        refine ⟨mkStepX, ?_⟩
        refine rg_read (i := 20) (a1 := _) rfl (by kernel_rfl) rfl (by first | (simp; done) | (simp [Act.put]; done)) (by intro wq hwq; go_wp2; exact ⟨rfl, rfl⟩) mkStepX ?_
        refine rg_read (i := 21) (a1 := _) rfl (by kernel_rfl) rfl (by first | (simp; done) | (simp [Act.put]; done)) (by intro wq hwq; go_wp2; exact ⟨rfl, rfl⟩) mkStepX ?_
        refine rg_eff (i := 22) rfl (by kernel_rfl) ?_
        simp only [List.getElem_toArray, List.getElem_cons_succ, List.getElem_cons_zero]
        go_wp2_with (fail)
        refine ⟨mkStepX, ?_⟩
        refine rg_done (by kernel_rfl) ?_
        obtain ⟨g1, rfl, hg1, hg2⟩ := own_addr hown1 (by omega)
        have n1 : g1 = g ∨ w.heap.size ≤ g1 := by have := hb1 g1 (by simp [blk]); simp [blk] at this; omega
        have nb1 : NeB p g1 := ⟨by omega⟩
        replace hown1 := hid hown1
        go_wp2
        go_ret
        refine ⟨g1, _, _, rr.out.trans (flow_23 (.inr rfl)), rfl, fun _ => ⟨⟨cap1, ?_, ?_⟩, nb1.ne.symm, hbp⟩, n1, mkStepX⟩
        · show BoxL _ _ (iv M sg loc s.h (.slice (some ⟨g1, 0, none⟩) ((s.lo ++ [s.t]).length + 1) cap1))
          rw [List.length_append]
          first | exact boxSet (iv_st ..) | exact boxSetD (iv_st ..)
        · show World.ownsRow _ _ _ _ (.slice _ ((s.lo ++ [s.t]).length + 1) _) ((s.lo ++ [s.t]).length + 1) _
          rw [List.length_append]
          exact ownsRow_fr hown1.out (FrX.fr (S := [p])) (by simp only [blk, List.mem_singleton]; rintro x rfl; exact nb1.ne.symm)
      · simp only [List.getElem_toArray, List.getElem_cons_succ, List.getElem_cons_zero]
        go_wp2_with (fail)
        refine ⟨mkStepX, ?_⟩
        refine rg_eff (i := 4) rfl (by kernel_rfl) ?_
        simp only [List.getElem_toArray, List.getElem_cons_succ, List.getElem_cons_zero]
        go_wp2_with (fail)
        refine ⟨mkStepX, ?_⟩
        refine rg_eff (i := 19) rfl (by kernel_rfl) ?_
        simp only [List.getElem_toArray, List.getElem_cons_succ, List.getElem_cons_zero]
        go_wp2_with (at_builtin; go_must (refine app_rowsB ifr 5 ifr_len ifr_one rfl (.tmp 25) (.tmp 39) 131 rfl 130 (.agg #[.int .i64 0, .int .i64 0, .bool false, .bool false, .bool false]) 24 Tryz.ifr_tab B (some ⟨g, 0, none⟩) (s.lo.length + 1) cap s.all ⟨3, a, s.h, false⟩ rfl (own_keep oA.out) (by simp; omega) A.heap.size 1 rfl (fun j u hj => ⟨((Box.new A _ _).cell_eq j).trans (by simpa [ifr] using hj), (Box.new A _ _).live j⟩) (by omega) ?_); intro ao1 cap1 w9 hown1 sx0 hb1; have sx1 : StepX [g] _ w9 := ⟨sx0.fr⟩; clear sx0; have b1 : BoxL w9 p (iv M sg loc s.h (.slice (some ⟨g, 0, none⟩) (s.lo.length + 1) cap)) := boxOf; have op1 : Old p w9 := b1.old)
        refine ⟨mkStepX, ?_⟩
        refine rg_read (i := 20) (a1 := _) rfl (by kernel_rfl) rfl (by first | (simp; done) | (simp [Act.put]; done)) (by intro wq hwq; go_wp2; exact ⟨rfl, rfl⟩) mkStepX ?_
        refine rg_read (i := 21) (a1 := _) rfl (by kernel_rfl) rfl (by first | (simp; done) | (simp [Act.put]; done)) (by intro wq hwq; go_wp2; exact ⟨rfl, rfl⟩) mkStepX ?_
        refine rg_eff (i := 22) rfl (by kernel_rfl) ?_
        simp only [List.getElem_toArray, List.getElem_cons_succ, List.getElem_cons_zero]
        go_wp2_with (fail)
        refine ⟨mkStepX, ?_⟩
        refine rg_done (by kernel_rfl) ?_
        obtain ⟨g1, rfl, hg1, hg2⟩ := own_addr hown1 (by omega)
        have n1 : g1 = g ∨ w.heap.size ≤ g1 := by have := hb1 g1 (by simp [blk]); simp [blk] at this; omega
        have nb1 : NeB p g1 := ⟨by omega⟩
        replace hown1 := hid hown1
        go_wp2
        go_ret
        refine ⟨g1, _, _, rr.out.trans (flow_23 (.inr rfl)), rfl, fun _ => ⟨⟨cap1, ?_, ?_⟩, nb1.ne.symm, hbp⟩, n1, mkStepX⟩
        · show BoxL _ _ (iv M sg loc s.h (.slice (some ⟨g1, 0, none⟩) ((s.lo ++ [s.t]).length + 1) cap1))
          rw [List.length_append]
          first | exact boxSet (iv_st ..) | exact boxSetD (iv_st ..)
        · show World.ownsRow _ _ _ _ (.slice _ ((s.lo ++ [s.t]).length + 1) _) ((s.lo ++ [s.t]).length + 1) _
          rw [List.length_append]
          exact ownsRow_fr hown1.out (FrX.fr (S := [p])) (by simp only [blk, List.mem_singleton]; rintro x rfl; exact nb1.ne.symm)
  · have r := hid (flow_4 (R := sg.results) (s := s) (i := ⟨4, a, b⟩) rfl)
    go_enter Tryz.func76, Tryz.ntmps76
    go_wp2_with fail
    with_reducible refine Calls.mono (itake (s := s) 1 _ (by omega) hh hl) ?_
    rintro e w1 ⟨rfl, hS1, st1⟩
    have hgr := st1.fr.size
    cases hb : s.takeB 1
    · have r2 := hid (show flowC sg.results s ⟨4, a, b⟩ = (false, (s.take 1).push 4 a) by rw [r.out, hb])
      clear r
      go_wp2
      go_ret
      exact ⟨g, _, _, rr.out.trans r2.out, rfl, (fun h => by cases h), .inl rfl, mkStepX⟩
    · have r2 := hid (show flowC sg.results s ⟨4, a, b⟩ = (true, (s.take 1).push 4 a) by rw [r.out, hb])
      clear r
      have hop1 : Old p w1 := inferInstance
      obtain ⟨⟨cap, bx, own⟩, -, -⟩ := id hS1
      have hcap := ib_size own
      replace hcap : s.lo.length + 1 ≤ cap ∧ cap ≤ 9223372036854775807 := hcap
      replace bx : BoxL w1 p (iv M sg loc (s.take 1).h (.slice (some ⟨g, 0, none⟩) (s.lo.length + 1) cap)) := bx
      replace own : Hid (w1.ownsRow B 130 5 (.slice (some ⟨g, 0, none⟩) (s.lo.length + 1) cap) (s.lo.length + 1) (s.all.flatMap ifr)) := own
      go_wp2_with fail
      refine wp_name ?_
      intro A sA
      have hAs : w.heap.size ≤ A.heap.size := (inferInstance : Grew w A).le
      have oA : A.ownsRow B 130 5 (.slice (some ⟨g, 0, none⟩) (s.lo.length + 1) cap) (s.lo.length + 1) (s.all.flatMap ifr) := own_keep own.out
      replace oA := hid oA
      have oAp : Old p A := inferInstance
      refine rg_beginX [p, g] (n := 23) (by kernel_rfl) rfl fun rg0 => ?_
      refine rg_read (i := 0) (a1 := _) rfl (by kernel_rfl) rfl (by first | (simp; done) | (simp [Act.put]; done)) (by intro wq hwq; go_wp2; exact ⟨rfl, rfl⟩) mkStepX ?_
      refine rg_read (i := 1) (a1 := _) rfl (by kernel_rfl) rfl (by first | (simp; done) | (simp [Act.put]; done)) (by intro wq hwq; go_wp2; exact ⟨rfl, rfl⟩) mkStepX ?_
      refine rg_read (i := 2) (a1 := _) rfl (by kernel_rfl) rfl (by first | (simp; done) | (simp [Act.put]; done)) (by intro wq hwq; go_wp2; exact ⟨rfl, rfl⟩) mkStepX ?_
      refine rg_read (i := 3) (a1 := _) rfl (by kernel_rfl) rfl (by first | (simp; done) | (simp [Act.put]; done)) (by intro wq hwq; go_wp2; exact ⟨rfl, rfl⟩) mkStepX ?_
      refine rg_read (i := 5) (a1 := _) rfl (by kernel_rfl) rfl (by first | (simp; done) | (simp [Act.put]; done)) (by intro wq hwq; go_wp2; exact ⟨rfl, rfl⟩) mkStepX ?_
      refine rg_read (i := 6) (a1 := _) rfl (by kernel_rfl) rfl (by first | (simp; done) | (simp [Act.put]; done)) (by intro wq hwq; go_wp2; exact ⟨rfl, rfl⟩) mkStepX ?_
      refine rg_read (i := 7) (a1 := _) rfl (by kernel_rfl) rfl (by first | (simp; done) | (simp [Act.put]; done)) (by intro wq hwq; go_wp2; exact ⟨rfl, rfl⟩) mkStepX ?_
      refine rg_read (i := 8) (a1 := _) rfl (by kernel_rfl) rfl (by first | (simp; done) | (simp [Act.put]; done)) (by intro wq hwq; go_wp2; exact ⟨rfl, rfl⟩) mkStepX ?_
      refine rg_read (i := 9) (a1 := _) rfl (by kernel_rfl) rfl (by first | (simp; done) | (simp [Act.put]; done)) (by intro wq hwq; go_wp2; exact ⟨rfl, rfl⟩) mkStepX ?_
      refine rg_read (i := 11) (a1 := _) rfl (by kernel_rfl) rfl (by first | (simp; done) | (simp [Act.put]; done)) (by intro wq hwq; go_wp2; exact ⟨rfl, rfl⟩) mkStepX ?_
      refine rg_read (i := 12) (a1 := _) rfl (by kernel_rfl) rfl (by first | (simp; done) | (simp [Act.put]; done)) (by intro wq hwq; go_wp2; exact ⟨rfl, rfl⟩) mkStepX ?_
      refine rg_read (i := 13) (a1 := _) rfl (by kernel_rfl) rfl (by first | (simp; done) | (simp [Act.put]; done)) (by intro wq hwq; go_wp2; exact ⟨rfl, rfl⟩) mkStepX ?_
      refine rg_read (i := 14) (a1 := _) rfl (by kernel_rfl) rfl (by first | (simp; done) | (simp [Act.put]; done)) (by intro wq hwq; go_wp2; exact ⟨rfl, rfl⟩) mkStepX ?_
      refine rg_read (i := 15) (a1 := _) rfl (by kernel_rfl) rfl (by first | (simp; done) | (simp [Act.put]; done)) (by intro wq hwq; go_wp2; exact ⟨rfl, rfl⟩) mkStepX ?_
      refine rg_read (i := 16) (a1 := _) rfl (by kernel_rfl) rfl (by first | (simp; done) | (simp [Act.put]; done)) (by intro wq hwq; go_wp2; exact ⟨rfl, rfl⟩) mkStepX ?_
      refine rg_two (i := 4) (j := 10) rfl rfl (by kernel_rfl) ?_ ?_
      · simp only [List.getElem_toArray, List.getElem_cons_succ, List.getElem_cons_zero]
        go_wp2_with (fail)
        refine ⟨mkStepX, ?_⟩
        refine rg_eff (i := 10) rfl (by kernel_rfl) ?_
        simp only [List.getElem_toArray, List.getElem_cons_succ, List.getElem_cons_zero]
        go_wp2_with (fail)
        refine ⟨mkStepX, ?_⟩
        refine rg_read (i := 17) (a1 := _) rfl (by kernel_rfl) rfl (by first | (simp; done) | (simp [Act.put]; done)) (by intro wq hwq; go_wp2; exact ⟨rfl, rfl⟩) mkStepX ?_
        refine rg_eff (i := 18) rfl (by kernel_rfl) ?_
        simp only [List.getElem_toArray, List.getElem_cons_succ, List.getElem_cons_zero]
        go_wp2_with (fail)
        refine ⟨mkStepX, ?_⟩
        refine rg_eff (i := 19) rfl (by kernel_rfl) ?_
        simp only [List.getElem_toArray, List.getElem_cons_succ, List.getElem_cons_zero]
        go_wp2_with (at_builtin; go_must (refine app_rowsB ifr 5 ifr_len ifr_one rfl (.tmp 25) (.tmp 39) 131 rfl 130 (.agg #[.int .i64 0, .int .i64 0, .bool false, .bool false, .bool false]) 24 Tryz.ifr_tab B (some ⟨g, 0, none⟩) (s.lo.length + 1) cap s.all ⟨4, a, (s.take 1).h, false⟩ rfl (own_keep oA.out) (by simp; omega) A.heap.size 1 rfl (fun j u hj => ⟨((Box.new A _ _).cell_eq j).trans (by simpa [ifr] using hj), (Box.new A _ _).live j⟩) (by omega) ?_); intro ao1 cap1 w9 hown1 sx0 hb1; have sx1 : StepX [g] _ w9 := ⟨sx0.fr⟩; clear sx0; have b1 : BoxL w9 p (iv M sg loc (s.take 1).h (.slice (some ⟨g, 0, none⟩) (s.lo.length + 1) cap)) := boxOf; have op1 : Old p w9 := b1.old)
        refine ⟨mkStepX, ?_⟩
        refine rg_read (i := 20) (a1 := _) rfl (by kernel_rfl) rfl (by first | (simp; done) | (simp [Act.put]; done)) (by intro wq hwq; go_wp2; exact ⟨rfl, rfl⟩) mkStepX ?_
        refine rg_read (i := 21) (a1 := _) rfl (by kernel_rfl) rfl (by first | (simp; done) | (simp [Act.put]; done)) (by intro wq hwq; go_wp2; exact ⟨rfl, rfl⟩) mkStepX ?_
        refine rg_eff (i := 22) rfl (by kernel_rfl) ?_
        simp only [List.getElem_toArray, List.getElem_cons_succ, List.getElem_cons_zero]
        go_wp2_with (fail)
        refine ⟨mkStepX, ?_⟩
        refine rg_done (by kernel_rfl) ?_
        obtain ⟨g1, rfl, hg1, hg2⟩ := own_addr hown1 (by omega)
        have n1 : g1 = g ∨ w.heap.size ≤ g1 := by have := hb1 g1 (by simp [blk]); simp [blk] at this; omega
        have nb1 : NeB p g1 := ⟨by omega⟩
        replace hown1 := hid hown1
        go_wp2
        go_ret
        refine ⟨g1, _, _, rr.out.trans (r2.out), rfl, fun _ => ⟨⟨cap1, ?_, ?_⟩, nb1.ne.symm, hbp⟩, n1, mkStepX⟩
        · show BoxL _ _ (iv M sg loc (s.take 1).h (.slice (some ⟨g1, 0, none⟩) ((s.lo ++ [s.t]).length + 1) cap1))
          rw [List.length_append]
          first | exact boxSet (iv_st ..) | exact boxSetD (iv_st ..)
        · show World.ownsRow _ _ _ _ (.slice _ ((s.lo ++ [s.t]).length + 1) _) ((s.lo ++ [s.t]).length + 1) _
          rw [List.length_append]
          exact ownsRow_fr hown1.out (FrX.fr (S := [p])) (by simp only [blk, List.mem_singleton]; rintro x rfl; exact nb1.ne.symm)
      · simp only [List.getElem_toArray, List.getElem_cons_succ, List.getElem_cons_zero]
        go_wp2_with (fail)
        refine ⟨mkStepX, ?_⟩
        refine rg_read (i := 17) (a1 := _) rfl (by kernel_rfl) rfl (by first | (simp; done) | (simp [Act.put]; done)) (by intro wq hwq; go_wp2; exact ⟨rfl, rfl⟩) mkStepX ?_
        refine rg_two (i := 4) (j := 18) rfl rfl (by kernel_rfl) ?_ ?_
        · simp only [List.getElem_toArray, List.getElem_cons_succ, List.getElem_cons_zero]
          go_wp2_with (fail)
          refine ⟨mkStepX, ?_⟩
          refine rg_eff (i := 18) rfl (by kernel_rfl) ?_
          simp only [List.getElem_toArray, List.getElem_cons_succ, List.getElem_cons_zero]
          go_wp2_with (fail)
          refine ⟨mkStepX, ?_⟩
          refine rg_eff (i := 19) rfl (by kernel_rfl) ?_
          simp only [List.getElem_toArray, List.getElem_cons_succ, List.getElem_cons_zero]
          go_wp2_with (at_builtin; go_must (refine app_rowsB ifr 5 ifr_len ifr_one rfl (.tmp 25) (.tmp 39) 131 rfl 130 (.agg #[.int .i64 0, .int .i64 0, .bool false, .bool false, .bool false]) 24 Tryz.ifr_tab B (some ⟨g, 0, none⟩) (s.lo.length + 1) cap s.all ⟨4, a, (s.take 1).h, false⟩ rfl (own_keep oA.out) (by simp; omega) A.heap.size 1 rfl (fun j u hj => ⟨((Box.new A _ _).cell_eq j).trans (by simpa [ifr] using hj), (Box.new A _ _).live j⟩) (by omega) ?_); intro ao1 cap1 w9 hown1 sx0 hb1; have sx1 : StepX [g] _ w9 := ⟨sx0.fr⟩; clear sx0; have b1 : BoxL w9 p (iv M sg loc (s.take 1).h (.slice (some ⟨g, 0, none⟩) (s.lo.length + 1) cap)) := boxOf; have op1 : Old p w9 := b1.old)
          refine ⟨mkStepX, ?_⟩
          refine rg_read (i := 20) (a1 := _) rfl (by kernel_rfl) rfl (by first | (simp; done) | (simp [Act.put]; done)) (by intro wq hwq; go_wp2; exact ⟨rfl, rfl⟩) mkStepX ?_
          refine rg_read (i := 21) (a1 := _) rfl (by kernel_rfl) rfl (by first | (simp; done) | (simp [Act.put]; done)) (by intro wq hwq; go_wp2; exact ⟨rfl, rfl⟩) mkStepX ?_
          refine rg_eff (i := 22) rfl (by kernel_rfl) ?_
          simp only [List.getElem_toArray, List.getElem_cons_succ, List.getElem_cons_zero]
          go_wp2_with (fail)
          refine ⟨mkStepX, ?_⟩
          refine rg_done (by kernel_rfl) ?_
          obtain ⟨g1, rfl, hg1, hg2⟩ := own_addr hown1 (by omega)
          have n1 : g1 = g ∨ w.heap.size ≤ g1 := by have := hb1 g1 (by simp [blk]); simp [blk] at this; omega
          have nb1 : NeB p g1 := ⟨by omega⟩
          replace hown1 := hid hown1
          go_wp2
          go_ret
          refine ⟨g1, _, _, rr.out.trans (r2.out), rfl, fun _ => ⟨⟨cap1, ?_, ?_⟩, nb1.ne.symm, hbp⟩, n1, mkStepX⟩
          · show BoxL _ _ (iv M sg loc (s.take 1).h (.slice (some ⟨g1, 0, none⟩) ((s.lo ++ [s.t]).length + 1) cap1))
            rw [List.length_append]
            first | exact boxSet (iv_st ..) | exact boxSetD (iv_st ..)
          · show World.ownsRow _ _ _ _ (.slice _ ((s.lo ++ [s.t]).length + 1) _) ((s.lo ++ [s.t]).length + 1) _
            rw [List.length_append]
            exact ownsRow_fr hown1.out (FrX.fr (S := [p])) (by simp only [blk, List.mem_singleton]; rintro x rfl; exact nb1.ne.symm)
        · simp only [List.getElem_toArray, List.getElem_cons_succ, List.getElem_cons_zero]
          go_wp2_with (fail)
          refine ⟨mkStepX, ?_⟩
          refine rg_eff (i := 4) rfl (by kernel_rfl) ?_
          simp only [List.getElem_toArray, List.getElem_cons_succ, List.getElem_cons_zero]
          go_wp2_with (fail)
          refine ⟨mkStepX, ?_⟩
          refine rg_eff (i := 19) rfl (by kernel_rfl) ?_
          simp only [List.getElem_toArray, List.getElem_cons_succ, List.getElem_cons_zero]
          go_wp2_with (at_builtin; go_must (refine app_rowsB ifr 5 ifr_len ifr_one rfl (.tmp 25) (.tmp 39) 131 rfl 130 (.agg #[.int .i64 0, .int .i64 0, .bool false, .bool false, .bool false]) 24 Tryz.ifr_tab B (some ⟨g, 0, none⟩) (s.lo.length + 1) cap s.all ⟨4, a, (s.take 1).h, false⟩ rfl (own_keep oA.out) (by simp; omega) A.heap.size 1 rfl (fun j u hj => ⟨((Box.new A _ _).cell_eq j).trans (by simpa [ifr] using hj), (Box.new A _ _).live j⟩) (by omega) ?_); intro ao1 cap1 w9 hown1 sx0 hb1; have sx1 : StepX [g] _ w9 := ⟨sx0.fr⟩; clear sx0; have b1 : BoxL w9 p (iv M sg loc (s.take 1).h (.slice (some ⟨g, 0, none⟩) (s.lo.length + 1) cap)) := boxOf; have op1 : Old p w9 := b1.old)
          refine ⟨mkStepX, ?_⟩
          refine rg_read (i := 20) (a1 := _) rfl (by kernel_rfl) rfl (by first | (simp; done) | (simp [Act.put]; done)) (by intro wq hwq; go_wp2; exact ⟨rfl, rfl⟩) mkStepX ?_
          refine rg_read (i := 21) (a1 := _) rfl (by kernel_rfl) rfl (by first | (simp; done) | (simp [Act.put]; done)) (by intro wq hwq; go_wp2; exact ⟨rfl, rfl⟩) mkStepX ?_
          refine rg_eff (i := 22) rfl (by kernel_rfl) ?_
          simp only [List.getElem_toArray, List.getElem_cons_succ, List.getElem_cons_zero]
          go_wp2_with (fail)
          refine ⟨mkStepX, ?_⟩
          refine rg_done (by kernel_rfl) ?_
          obtain ⟨g1, rfl, hg1, hg2⟩ := own_addr hown1 (by omega)
          have n1 : g1 = g ∨ w.heap.size ≤ g1 := by have := hb1 g1 (by simp [blk]); simp [blk] at this; omega
          have nb1 : NeB p g1 := ⟨by omega⟩
          replace hown1 := hid hown1
          go_wp2
          go_ret
          refine ⟨g1, _, _, rr.out.trans (r2.out), rfl, fun _ => ⟨⟨cap1, ?_, ?_⟩, nb1.ne.symm, hbp⟩, n1, mkStepX⟩
          · show BoxL _ _ (iv M sg loc (s.take 1).h (.slice (some ⟨g1, 0, none⟩) ((s.lo ++ [s.t]).length + 1) cap1))
            rw [List.length_append]
            first | exact boxSet (iv_st ..) | exact boxSetD (iv_st ..)
          · show World.ownsRow _ _ _ _ (.slice _ ((s.lo ++ [s.t]).length + 1) _) ((s.lo ++ [s.t]).length + 1) _
            rw [List.length_append]
            exact ownsRow_fr hown1.out (FrX.fr (S := [p])) (by simp only [blk, List.mem_singleton]; rintro x rfl; exact nb1.ne.symm)
  · have r := hid (flow_5 (R := sg.results) (s := s) (i := ⟨5, a, b⟩) rfl)
    go_enter Tryz.func76, Tryz.ntmps76
    go_wp2_with fail
    with_reducible refine Calls.mono (ilast (s := s) _ hl) ?_
    rintro e w1 ⟨rfl, st1⟩
    go_wp2_with fail
    with_reducible refine Calls.mono (icloses (s := s) _ v hK) ?_
    rintro e w2 ⟨rfl, hS2, st2⟩
    obtain ⟨⟨cap, bx, own⟩, -, -⟩ := id hS2
    obtain ⟨⟨c0, c1, c2, c3, c4⟩, f3, f4⟩ := ib_top own
    replace c3 : w2.cell? ⟨g, s.lo.length * 5 + 3, none⟩ = some (.bool (decide (s.t.op = 4))) := c3
    replace c4 : w2.cell? ⟨g, s.lo.length * 5 + 4, none⟩ = some (.bool s.t.dead) := c4
    replace f3 : w2.frozen? ⟨g, s.lo.length * 5 + 3, none⟩ = false := f3
    replace f4 : w2.frozen? ⟨g, s.lo.length * 5 + 4, none⟩ = false := f4
    clear c0 c1 c2
    have og2 : Old g w2 := ⟨block_lt_of_cell c4⟩
    have own2 := own_setN (s.lo.length * 5 + 4) (.bool false) own
    have own3 := own_setN (s.lo.length * 5 + 3) (.bool false) own2
    obtain ⟨sh0, rfl, rfl⟩ := sh_else rfl hs
    have h4 : s.t.op = 4 := by
      have h1 := congrArg List.getLast? (InvL.ops v)
      rw [show (false :: (sh0 ++ [true])).getLast? = some true from last_snoc (false :: sh0) true] at h1
      simpa [key] using h1
    have e1 : ((s.all.flatMap ifr).set (s.lo.length * 5 + 4) (.bool false)).set (s.lo.length * 5 + 3) (.bool false) = s.els.all.flatMap ifr := by
      have h1 := row_top (t' := (⟨s.t.op, s.t.res, s.t.base, false⟩ : Frm)) ifr_len s.lo s.t 4 (.bool false) rfl
      rw [ChkS.all, h1]
      exact row_top (t' := s.els.t) ifr_len s.lo ⟨s.t.op, s.t.res, s.t.base, false⟩ 3 (.bool false) (by simp [ifr, h4, ChkS.els])
    replace own3 : World.ownsRow _ B 130 5 (.slice (some ⟨g, 0, none⟩) (s.lo.length + 1) cap) (s.lo.length + 1) (((s.all.flatMap ifr).set (s.lo.length * 5 + 4) (.bool false)).set (s.lo.length * 5 + 3) (.bool false)) := own3
    rw [e1] at own3
    replace own := hid own
    replace own2 := hid own2
    replace own3 := hid own3
    replace h4 := hid h4
    clear e1
    go_wp2
    go_ret
    refine ⟨g, _, _, rr.out.trans r.out, rfl, fun hc => ⟨⟨cap, ?_, own3.out⟩, hne, hbp⟩, .inl rfl, mkStepX⟩
    have e2 := close_h hc
    replace bx : BoxL w2 p (iv M sg loc (tkH s.h s.t.base s.t.res) (.slice (some ⟨g, 0, none⟩) (s.lo.length + 1) cap)) := bx
    rw [e2] at bx
    exact boxOf
  · obtain ⟨b0, rfl⟩ := sh_end rfl hs
    obtain ⟨h0, lo, t⟩ := s
    rcases nil_or_snoc lo with rfl | ⟨L, u, rfl⟩
    · have := v.len; simp at this
    have r := hid (flow_11 (R := sg.results) (s := ⟨h0, L ++ [u], t⟩) (i := ⟨11, a, b⟩) rfl)
    rw [ChkS.pop_snoc] at r
    have hE := fun w9 (h9 : IB w9 p B g M sg loc ⟨h0, L ++ [u], t⟩) => iend (h0 := h0) (L := L) (u := u) (t := t) w9 v hK (hS := h9)
    obtain ⟨q, hq⟩ : ∃ q, (ChkS.closeB ⟨h0, L ++ [u], t⟩ && !(decide (t.op = 4) && decide (0 < t.res))) = q := ⟨_, rfl⟩
    simp only [hq] at hE r
    replace hq := hid hq
    go_enter Tryz.func76, Tryz.ntmps76
    go_wp2_with fail
    with_reducible refine Calls.mono (hE _ inferInstance) ?_
    rintro e w1 ⟨rfl, hS1, st1⟩
    go_wp2
    go_ret
    exact ⟨g, _, _, rr.out.trans r.out, rfl, fun _ => inferInstance, .inl rfl, mkStepX⟩
end Go.Proofs.YtfddmelikahfbaaGreatDoor
namespace Go.Proofs.YtfddmelikahfbaaGreatDoor
attribute [local go_sem ↓] Go.wp_at_zero Go.wp_at_succ
open Go.RowKit
open Rep (Is sz)

theorem iv1_flat (l : List Int) (x : Int) : (l ++ [x]).flatMap iv1 = (l ++ [x]).map fun n => Value.int .i64 n := iv1_map _

set_option maxRecDepth 10000 in
set_option maxHeartbeats 4000000 in
theorem iheights {F : List Nat} {cs : List Value} (m : ModuleD) (i0 : Nat) (w : World) (pa : PartsP m) (hg0 : -1 ≤ m.pages) (hi2 : i0 < m.funcs.length) [hm : Shows w F m cs] :
    Calls Tryz.prog 40 #[.agg cs.toArray, .int .i64 (i0 : Int)] w fun e w' => ∃ v, e = .returned (.tuple #[v, .int .i64 (faultF m i0)]) ∧ Step w w' ∧ (faultF m i0 = -1 → ∃ a c, v = .slice a (heightsF m i0).length c ∧ w'.ownsRow w.heap.size 3 1 (.slice a (heightsF m i0).length c) (heightsF m i0).length ((heightsF m i0).map fun n => .int .i64 n)) := by
  have kk := hm.known
  obtain ⟨a1, k1, a2, k2, a3, k3, a4, k4, a5, k5, a6, k6, F1, F2, F3, F4, F5, F6, rfl, rfl, h1, h2, h3, h4, h5, h6, i3, i4⟩ := module_open hm.is
  clear hm
  obtain ⟨_, _, cl1, FF1, hv, _, hvw1, hr1, hml1⟩ := list_open h1
  cases hv
  unfold maxLen at hml1
  obtain ⟨_, _, cl3, FF3, hv, _, hvw3, hr3, hml3⟩ := list_open h3
  cases hv
  unfold maxLen at hml3
  have pf := pa.fns _ (List.getElem_mem hi2)
  obtain ⟨q, hq⟩ := Int.eq_ofNat_of_zero_le pf.s0
  have hq2 : q < m.sigs.length := by have := pf.s1; omega
  have ps := pa.sigs _ (List.getElem_mem hq2)
  have ef := fnC_at hi2
  have e1 : sgC m i0 = m.sigs[q] := by unfold sgC; rw [ef, hq, Int.toNat_natCast, getD_in _ hq2]
  have e2 : locC m i0 = m.sigs[q].params + m.funcs[i0].locals := by unfold locC; rw [e1, ef]
  have hb := bodyB_at pf.bd
  have b1 : 0 ≤ m.sigs[q].params ∧ m.sigs[q].params ≤ 60 := ⟨ps.p0, ps.p1⟩
  have b2 : 0 ≤ m.funcs[i0].locals ∧ m.funcs[i0].locals ≤ 60 := ⟨pf.l0, pf.l1⟩
  have hR1 : 0 ≤ m.sigs[q].results ∧ m.sigs[q].results ≤ 1 := ⟨ps.r0, ps.r1⟩
  obtain ⟨be, oe, Ge, cse, rfl, hGe, hIe, hce, hoe⟩ := hvw3.row hr3 rfl (by decide) i0 hi2
  have hI0e := hIe
  obtain ⟨a1e, k1e, F1e, rfl, rfl, h1e, i0e, i1e⟩ := func_open hI0e
  have kee : Known w _ m.funcs[i0] _ := ⟨hIe⟩
  have c0e := (hce 0 _ rfl).1
  replace c0e : w.cell? ⟨be, oe + i0 * 3, none⟩ = _ := c0e
  have c1e := (hce 1 _ rfl).1
  replace c1e : w.cell? ⟨be, oe + i0 * 3 + 1, none⟩ = _ := c1e
  have c2e := (hce 2 _ rfl).1
  replace c2e : w.cell? ⟨be, oe + i0 * 3 + 2, none⟩ = _ := c2e
  clear hce
  obtain ⟨bf, of, Gf, csf, rfl, hGf, hIf, hcf, hof⟩ := hvw1.row hr1 rfl (by decide) q hq2
  have hI0f := hIf
  obtain ⟨rfl, rfl, i0f, i1f⟩ := sig_open hI0f
  have kef : Known w _ m.sigs[q] _ := ⟨hIf⟩
  have c0f := (hcf 0 _ rfl).1
  replace c0f : w.cell? ⟨bf, of + q * 2, none⟩ = _ := c0f
  have c1f := (hcf 1 _ rfl).1
  replace c1f : w.cell? ⟨bf, of + q * 2 + 1, none⟩ = _ := c1f
  clear hcf
  obtain ⟨_, _, cl, FF, hv, _, hvw, hr, hml⟩ := list_open h1e
  cases hv
  unfold maxLen at hml
  obtain ⟨l, hl⟩ : ∃ l, m.funcs[i0].body = l := ⟨_, rfl⟩
  obtain ⟨sg, hsg⟩ : ∃ sg, m.sigs[q] = sg := ⟨_, rfl⟩
  obtain ⟨lo, hlo⟩ : ∃ lo, m.funcs[i0].locals = lo := ⟨_, rfl⟩
  obtain ⟨fF, hfF⟩ : ∃ x, faultF m i0 = x := ⟨_, rfl⟩
  obtain ⟨hF, hhF⟩ : ∃ x, heightsF m i0 = x := ⟨_, rfl⟩
  have hrun := hid (show fF = faultGo m (sg.params + lo) sg.results (startC sg.results) l 0 by rw [← hfF]; unfold faultF; rw [e2, e1, ef, hl, hsg, hlo])
  have hrun2 := hid (show hF = heightsGo m (sg.params + lo) sg.results (startC sg.results) l by rw [← hhF]; unfold heightsF; rw [e2, e1, ef, hl, hsg, hlo])
  rw [hfF, hhF]
  rw [hl] at hb c2e hvw hr hml
  rw [hsg] at b1 hR1 c0f c1f
  rw [hlo] at b2 c1e
  rw [hq] at c0e
  clear hfF hhF hl hsg hlo e1 e2 ef pf ps hq h1e hIe hI0e kee i0e i1e hIf hI0f kef i0f i1f
  go_enter Tryz.func40, Tryz.ntmps40
  go_wp2_with fail
  refine wp_name ?_
  intro A sA
  have ibA : IB A (w.heap.size + 1 + 1 + 1 + 1) w.heap.size (w.heap.size + 1 + 1 + 1) ⟨.slice (some ⟨bf, of, none⟩) m.sigs.length k1, .slice a2 m.imports.length k2, .slice (some ⟨be, oe, none⟩) m.funcs.length k3, m.pages, m.most, .slice a4 m.globals.length k4, .slice a5 m.exports.length k5, .slice a6 m.data.length k6⟩ sg (sg.params + lo) (startC sg.results) := by
    refine IB.frx ⟨⟨1, ⟨by apply Box.newAt; simp⟩, ?_⟩, by omega, by omega⟩ sA.fr (by simp) (by simp)
    exact ownsRow_fr (own_litAt (by simp) rfl (by simp; omega) (show 0 + 1 ≤ maxLen by unfold maxLen; omega) rfl) ((Fr.refl [] _).alloc _) (by simp)
  have bA : Box A (w.heap.size + 1) #[.int .i64 q, .int .i64 lo, .slice a1e l.length k1e] := by
    have bf1 := Box.fr0 (B := w.heap.size + 1) (by with_reducible repeat (first | assumption | (apply Box.newAt; simp; done) | apply Box.alloc | apply Box.drew | apply Box.set | (apply Box.other; focus omega))) sA.fr; (try simp only [List.setIfInBounds_toArray, List.set_cons_succ, List.set_cons_zero] at bf1); have bf1_c := bf1.cell_eq; have bf1_l := bf1.live; have bf1_t := bf1.lt
    exact bf1
  have bl : BoxL A (w.heap.size + 1) #[.int .i64 q, .int .i64 lo, .slice a1e l.length k1e] := ⟨bA⟩
  clear bA
  have np : NewB w (w.heap.size + 1 + 1 + 1 + 1) := ⟨by omega⟩
  obtain ⟨p, hp⟩ : ∃ p, w.heap.size + 1 + 1 + 1 + 1 = p := ⟨_, rfl⟩
  obtain ⟨g, hg⟩ : ∃ g, w.heap.size + 1 + 1 + 1 = g := ⟨_, rfl⟩
  rw [hp] at ibA np ⊢
  rw [hg] at ibA
  have hp9 : w.heap.size + 1 < p := by omega
  have hg9 : w.heap.size + 1 < g := by omega
  replace hp := hid hp
  replace hg := hid hg
  have sw : Step w A := mkStep
  clear sA
  go_loopw [9, 40] (fun o i wr => ∃ (k : Nat) (sh : List Bool) (s : ChkS) (g' : Nat) (hs : List Int) (ao : Option Addr) (co : Nat), k ≤ l.length ∧ i = .int .i64 k ∧ o = .slice ao hs.length co ∧ hs.length ≤ k ∧ Inv sg.results k sh s ∧ Hid (shGo sh (l.drop k) = true) ∧ IB wr p w.heap.size g' ⟨.slice (some ⟨bf, of, none⟩) m.sigs.length k1, .slice a2 m.imports.length k2, .slice (some ⟨be, oe, none⟩) m.funcs.length k3, m.pages, m.most, .slice a4 m.globals.length k4, .slice a5 m.exports.length k5, .slice a6 m.data.length k6⟩ sg (sg.params + lo) s ∧ wr.ownsRow w.heap.size 3 1 (.slice ao hs.length co) hs.length (hs.map fun n => .int .i64 n) ∧ (∀ x ∈ blk ao, x ≠ p ∧ x ≠ g' ∧ w.heap.size + 1 < x) ∧ w.heap.size + 1 < g' ∧ Step w wr ∧ BoxL wr (w.heap.size + 1) #[.int .i64 q, .int .i64 lo, .slice a1e l.length k1e] ∧ Hid (fF = faultGo m (sg.params + lo) sg.results s (l.drop k) k) ∧ Hid (hF = hs ++ heightsGo m (sg.params + lo) sg.results s (l.drop k))) (fun _ i _ => l.length - (intOf i).toNat)
  case atStart => exact ⟨0, [], startC sg.results, g, [], none, 0, by omega, rfl, rfl, by simp, Inv.start hR1, hid hb.2.2, ibA, ⟨rfl, .inl ⟨rfl, rfl⟩⟩, by simp [blk], by omega, sw, bl, hrun, hrun2⟩
  case round =>
    obtain ⟨k, sh, s, g', hs, ao, co, hk, rfl, rfl, hsl, v, hsh, hI, hown, hbl, hgg, st, bmr, heq, heq2⟩ := hrel
    have hlt9 := hI.lt
    have ng' : NewB w g' := ⟨by omega⟩
    have og' : Old g' wr := ⟨hlt9.2.1⟩
    have opr : Old p wr := ⟨hlt9.1⟩
    have ap9 : Arg p wr := ⟨hlt9.1⟩
    have obm := bmr.old
    have nq1 : NeB (w.heap.size + 1) p := ⟨by omega⟩
    have nq2 : NeB (w.heap.size + 1) g' := ⟨by omega⟩
    have hv := v.nums
    have hl9 : s.lo.length ≤ 10000 := by omega
    have hown9 := ownsRow_blk hown
    have aF : Apart (F1 ++ F2 ++ F3 ++ F4 ++ F5 ++ F6) [p] := ⟨fun x hx => by have := Rep.lt kk.is x hx; simp; omega⟩
    by_cases hlt : k < l.length
    · have hi := hb.1 k hlt
      obtain ⟨sh', hs1, hs2⟩ := shGo_step hlt hsh.out
      replace hs2 := hid hs2
      have v3 := Inv.step (loc := sg.params + lo) v pa.sigs hi hs1
      obtain ⟨bx, ox, Gx, csx, rfl, hGx, hIx, hcx, hox⟩ := hvw.row hr rfl (by decide) k hlt
      have hI0x := hIx
      obtain ⟨rfl, rfl, i0x, i1x, i2x⟩ := ins_open hI0x
      have kex : Known w _ l[k] _ := ⟨hIx⟩
      have c0x := (hcx 0 _ rfl).1
      replace c0x : w.cell? ⟨bx, ox + k * 3, none⟩ = _ := c0x
      have c1x := (hcx 1 _ rfl).1
      replace c1x : w.cell? ⟨bx, ox + k * 3 + 1, none⟩ = _ := c1x
      have c2x := (hcx 2 _ rfl).1
      replace c2x : w.cell? ⟨bx, ox + k * 3 + 2, none⟩ = _ := c2x
      clear hcx
      obtain ⟨⟨cap, bx, own⟩, hne, hbp⟩ := id hI
      obtain ⟨⟨c0, c1, c2, c3, c4⟩, -⟩ := ib_top own
      clear c0 c1 c2 c3
      replace own := hid own
      have nbx : NotIn p (blk ao) := ⟨fun hx => (hbl p hx).1 rfl⟩
      have nby : NotIn g' (blk ao) := ⟨fun hx => (hbl g' hx).2.1 rfl⟩
      have nbz : NotIn (w.heap.size + 1) (blk ao) := ⟨fun hx => by have := (hbl _ hx).2.2; omega⟩
      have nbi : NotIn wr.heap.size (blk ao) := ⟨fun hx => by have := (hown9 _ hx).2; omega⟩
      have sub1 : SubX w (blk ao) [] := ⟨fun x hx => .inr (by have := (hbl x hx).2.2; omega)⟩
      have el : (hs ++ [htC s]).length = hs.length + 1 := by simp
      have hb9 : w.heap.size ≤ wr.heap.size := st.fr.size
      have hq : ∃ x, htC s = x := ⟨_, rfl⟩
      obtain ⟨x, hx⟩ := hq
      rw [hx] at el
      cases hd : s.t.dead
      · skip
        have ex : htC s = s.h := by unfold htC; rw [hd]; rfl
        rw [ex] at hx
        subst hx
        replace ex := hid ex
        rw [hd] at c4
        replace hd := hid hd
        go_wp2_with fail
        with_reducible refine Calls.mono (ilast (s := s) _ hl9) ?_
        rintro e w1 ⟨rfl, st1⟩
        have hg9 := st1.fr.size
        simp at hg9
        go_wp2_with (at_builtin; go_must (refine app_rowsB iv1 1 (fun _ => rfl) iv1_one rfl (.tmp 54) (.tmp 56) 45 rfl 3 (.int .i64 0) 8 Tryz.ints_tab w.heap.size ao hs.length co hs s.h rfl (iv1_own (own_keep hown)) (by simp; omega) w1.heap.size 1 rfl (fun j u hj => by obtain ⟨rfl, rfl⟩ := iv1_at hj; exact ⟨by go_simp, by go_simp⟩) (by omega) ?_); intro ao1 co1 w2 hown1 sx1 hb1)
        have hg8 := sx1.fr.size
        simp at hg8
        have hown8 := ownsRow_blk hown1
        have hbl1 : ∀ y ∈ blk ao1, y ≠ p ∧ y ≠ g' ∧ w.heap.size + 1 < y := fun y hy => by
          rcases hb1 y hy with h1 | h1
          · exact hbl y h1
          · simp at h1; exact ⟨by omega, by omega, by omega⟩
        have op2 : Old p w2 := ⟨by omega⟩
        have kM : Known w (F1 ++ F2 ++ F3 ++ F4 ++ F5 ++ F6) m (MH.cells ⟨.slice (some ⟨bf, of, none⟩) m.sigs.length k1, .slice a2 m.imports.length k2, .slice (some ⟨be, oe, none⟩) m.funcs.length k3, m.pages, m.most, .slice a4 m.globals.length k4, .slice a5 m.exports.length k5, .slice a6 m.data.length k6⟩) := kk
        with_reducible refine Calls.mono (istep (s := s) m l[k] _ pa hg0 v (by omega) hR1 hi hs1) ?_
        rintro e w3 ⟨g3, b3, s3, e3, rfl, hI3, hg3, st3⟩
        rw [e3] at v3
        cases b3
        · have hz := hid (heq.out.trans (fault_no hlt (by rw [e3])))
          replace e3 := hid e3
          clear hI3
          go_wp2
          go_ret2
          exact ⟨_, by rw [hz.out]; rfl, mkStep, fun h => by rw [hz.out] at h; omega⟩
        · have hz := hid (heq.out.trans (fault_on hlt e3))
          have hz2 := hid (heq2.out.trans (show _ = (hs ++ [s.h]) ++ heightsGo m (sg.params + lo) sg.results s3 (l.drop (k + 1)) by rw [heights_on hlt, e3, ex.out]; simp))
          replace e3 := hid e3
          have hI4 := hI3 rfl
          clear hI3
          have own4 := hid (ownsRow_fr hown1 st3.fr (fun y hy => by have := hbl1 y hy; simp; omega))
          replace hown1 := hid hown1
          go_wp2
          go_roundw
          case rel =>
            refine ⟨k + 1, sh', s3, g3, hs ++ [s.h], ao1, co1, by omega, by go_num, by rw [el], by rw [el]; omega, v3, hs2, inferInstance, ?_, ?_, by omega, mkStep, boxOf, hz, hz2⟩
            · rw [el, ← iv1_map]; exact own4.out
            · intro y hy
              have h1 := hbl1 y hy
              have h2 := (hown8 y hy).2
              exact ⟨h1.1, by omega, h1.2.2⟩
          case measure => simp [intOf]; omega
      · skip
        have ex : htC s = (-1) := by unfold htC; rw [hd]; rfl
        rw [ex] at hx
        subst hx
        replace ex := hid ex
        rw [hd] at c4
        replace hd := hid hd
        go_wp2_with fail
        with_reducible refine Calls.mono (ilast (s := s) _ hl9) ?_
        rintro e w1 ⟨rfl, st1⟩
        have hg9 := st1.fr.size
        simp at hg9
        go_wp2_with (at_builtin; go_must (refine app_rowsB iv1 1 (fun _ => rfl) iv1_one rfl (.tmp 54) (.tmp 56) 45 rfl 3 (.int .i64 0) 8 Tryz.ints_tab w.heap.size ao hs.length co hs (-1) rfl (iv1_own (own_keep hown)) (by simp; omega) w1.heap.size 1 rfl (fun j u hj => by obtain ⟨rfl, rfl⟩ := iv1_at hj; exact ⟨by go_simp, by go_simp⟩) (by omega) ?_); intro ao1 co1 w2 hown1 sx1 hb1)
        have hg8 := sx1.fr.size
        simp at hg8
        have hown8 := ownsRow_blk hown1
        have hbl1 : ∀ y ∈ blk ao1, y ≠ p ∧ y ≠ g' ∧ w.heap.size + 1 < y := fun y hy => by
          rcases hb1 y hy with h1 | h1
          · exact hbl y h1
          · simp at h1; exact ⟨by omega, by omega, by omega⟩
        have op2 : Old p w2 := ⟨by omega⟩
        have kM : Known w (F1 ++ F2 ++ F3 ++ F4 ++ F5 ++ F6) m (MH.cells ⟨.slice (some ⟨bf, of, none⟩) m.sigs.length k1, .slice a2 m.imports.length k2, .slice (some ⟨be, oe, none⟩) m.funcs.length k3, m.pages, m.most, .slice a4 m.globals.length k4, .slice a5 m.exports.length k5, .slice a6 m.data.length k6⟩) := kk
        with_reducible refine Calls.mono (istep (s := s) m l[k] _ pa hg0 v (by omega) hR1 hi hs1) ?_
        rintro e w3 ⟨g3, b3, s3, e3, rfl, hI3, hg3, st3⟩
        rw [e3] at v3
        cases b3
        · have hz := hid (heq.out.trans (fault_no hlt (by rw [e3])))
          replace e3 := hid e3
          clear hI3
          go_wp2
          go_ret2
          exact ⟨_, by rw [hz.out]; rfl, mkStep, fun h => by rw [hz.out] at h; omega⟩
        · have hz := hid (heq.out.trans (fault_on hlt e3))
          have hz2 := hid (heq2.out.trans (show _ = (hs ++ [(-1)]) ++ heightsGo m (sg.params + lo) sg.results s3 (l.drop (k + 1)) by rw [heights_on hlt, e3, ex.out]; simp))
          replace e3 := hid e3
          have hI4 := hI3 rfl
          clear hI3
          have own4 := hid (ownsRow_fr hown1 st3.fr (fun y hy => by have := hbl1 y hy; simp; omega))
          replace hown1 := hid hown1
          go_wp2
          go_roundw
          case rel =>
            refine ⟨k + 1, sh', s3, g3, hs ++ [(-1)], ao1, co1, by omega, by go_num, by rw [el], by rw [el]; omega, v3, hs2, inferInstance, ?_, ?_, by omega, mkStep, boxOf, hz, hz2⟩
            · rw [el, ← iv1_map]; exact own4.out
            · intro y hy
              have h1 := hbl1 y hy
              have h2 := (hown8 y hy).2
              exact ⟨h1.1, by omega, h1.2.2⟩
          case measure => simp [intOf]; omega
    · have hz := hid (heq.out.trans (fault_end (by omega)))
      have hz2 := hid (heq2.out.trans (show _ = hs by rw [List.drop_of_length_le (by omega)]; exact List.append_nil _))
      have ek : k = l.length := by omega
      subst ek
      go_wp2_with fail
      with_reducible refine Calls.mono (icloses (s := s) _ v (by omega)) ?_
      rintro e w1 ⟨rfl, hI1, st1⟩
      cases hc : s.closeB
      · rw [hc] at hz
        go_wp2_with fail
        refine rg_begin0 (n := 5) (by kernel_rfl) rfl fun rg0 => ?_
        refine rg_read (i := 0) (a1 := _) rfl (by kernel_rfl) rfl (by simp) (by intro wq hwq; go_wp2; exact ⟨rfl, rfl⟩) mkStep ?_
        refine rg_read (i := 1) (a1 := _) rfl (by kernel_rfl) rfl (by simp) (by intro wq hwq; go_wp2; exact ⟨rfl, rfl⟩) mkStep ?_
        refine rg_read (i := 2) (a1 := _) rfl (by kernel_rfl) rfl (by simp) (by intro wq hwq; go_wp2; exact ⟨rfl, rfl⟩) mkStep ?_
        refine rg_read (i := 3) (a1 := _) rfl (by kernel_rfl) rfl (by simp) (by intro wq hwq; go_wp2; exact ⟨rfl, rfl⟩) mkStep ?_
        refine rg_read (i := 4) (a1 := _) rfl (by kernel_rfl) rfl (by simp) (by intro wq hwq; go_wp2; exact ⟨rfl, rfl⟩) mkStep ?_
        refine rg_done (by kernel_rfl) ?_
        go_wp2
        go_ret2
        exact ⟨_, by rw [hz.out]; rfl, mkStep, fun h => by rw [hz.out] at h; simp at h⟩
      · rw [hc] at hz
        have own4 := hid (ownsRow_fr hown st1.fr (fun y hy => by have := hbl y hy; simp; omega))
        replace hown := hid hown
        go_wp2
        go_ret2
        refine ⟨_, by rw [hz.out]; rfl, mkStep, fun _ => ⟨ao, co, ?_, ?_⟩⟩
        · rw [hz2.out]; rfl
        · rw [hz2.out]; exact own_keep own4.out
end Go.Proofs.YtfddmelikahfbaaGreatDoor
namespace Go.Proofs.YtfddmelikahfbaaGreatDoor
attribute [local go_sem ↓] Go.wp_at_zero Go.wp_at_succ
open Go.RowKit
open Rep (Is sz)

set_option maxRecDepth 10000 in
set_option maxHeartbeats 2000000 in
theorem ifault {F : List Nat} {cs : List Value} (m : ModuleD) (i : Int) (w : World) (hz : moduleCost m ≤ 1048576) [hm : Shows w F m cs] [hU : HasU8 w] :
    Calls Tryz.prog 10 #[.agg cs.toArray, .int .i64 i] w fun e w' => e = .returned (.int .i64 (faultAt m i)) ∧ Step w w' := by
  have kk := hm.known
  have ku := hU.known
  have hH0 := fun (pa : PartsP m) (g0 : -1 ≤ m.pages) (i0 : Nat) (h : i0 < m.funcs.length) (w' : World) (hh : Shows w' F m cs) => iheights m i0 w' pa g0 h (hm := hh)
  obtain ⟨a1, k1, a2, k2, a3, k3, a4, k4, a5, k5, a6, k6, F1, F2, F3, F4, F5, F6, rfl, rfl, h1, h2, h3, h4, h5, h6, i3, i4⟩ := module_open hm.is
  clear hm hU
  obtain ⟨_, _, cl3, FF3, hv, _, hvw3, hr3, hml3⟩ := list_open h3
  cases hv
  unfold maxLen at hml3
  cases hF : pB (FormP m)
  · have r := hid (faultAt_no (m := m) (i := i) (.inl fun h => by rw [pB_yes h] at hF; cases hF))
    go_enter Tryz.func10, Tryz.ntmps10
    go_wp2_with fail
    with_reducible refine Calls.mono (iform m _ hz) ?_
    rintro e w1 ⟨rfl, st1⟩
    rw [hF]
    go_wp2
    go_ret
    exact ⟨by rw [r.out]; rfl, mkStep⟩
  have fo : FormP m := pB_iff.1 hF
  by_cases hi : i < 0 ∨ (m.funcs.length : Int) ≤ i
  · have r := hid (faultAt_no (m := m) (.inr hi))
    have e1 : ¬ (0 ≤ i ∧ i ≤ (m.funcs.length : Int) - 1) := by omega
    clear hi
    go_enter Tryz.func10, Tryz.ntmps10
    go_wp2_with fail
    with_reducible refine Calls.mono (iform m _ hz) ?_
    rintro e w1 ⟨rfl, st1⟩
    rw [hF]
    go_wp2_with (first | (go_at_call 39; (with_reducible refine Calls.mono (within_any ..) ?_); rintro e wk ⟨rfl, rfl⟩))
    go_ret
    exact ⟨by rw [r.out]; rfl, mkStep⟩
  obtain ⟨i0, rfl⟩ := Int.eq_ofNat_of_zero_le (a := i) (by omega)
  have hi2 : i0 < m.funcs.length := by omega
  have e1 : 0 ≤ (i0 : Int) ∧ (i0 : Int) ≤ (m.funcs.length : Int) - 1 := by omega
  clear hi
  have r := hid (faultAt_yes fo hi2)
  have hH := hH0 fo.pa fo.g0 i0 hi2
  clear hH0
  go_enter Tryz.func10, Tryz.ntmps10
  go_wp2_with fail
  with_reducible refine Calls.mono (iform m _ hz) ?_
  rintro e w1 ⟨rfl, st1⟩
  rw [hF]
  go_wp2_with (first | (go_at_call 39; (with_reducible refine Calls.mono (within_any ..) ?_); rintro e wk ⟨rfl, rfl⟩))
  with_reducible refine Calls.mono (hH _ inferInstance) ?_
  rintro e w2 ⟨v, rfl, st2, hv2⟩
  replace hv2 := hid hv2
  go_wp2
  go_ret
  exact ⟨by rw [r.out]; rfl, mkStep⟩
end Go.Proofs.YtfddmelikahfbaaGreatDoor
namespace Go.Proofs.YtfddmelikahfbaaGreatDoor
open Go.RowKit Go.ChangeShapes Go.WideShapes
open Rep (Is sz)

theorem Opens.args {P : Program} {t e : TypeId} {α : Type} [Rep α] (h : Opens P t (List α)) (ht : P.underlying t = some (.slice e)) {H : Type} {enc : TypeId × Value → H} {W : World} {base : Nat} {d0 : DataW H} {p0 : List MemPlace} {v0 : Value}
    (k0 : Value.okWide P W .any base t v0) (h0 : DataW.Trod enc P W 0 (fun _ => true) true t v0 d0 p0) (n0 : W.noneFrozen p0) : ∃ (x : List α) (F : List Nat), Known W F x [v0] := by
  obtain ⟨a, len, cap, rfl⟩ := okWide_slice ht k0
  obtain ⟨fuel, h0⟩ := h0
  obtain ⟨x, F, hI⟩ := h.2 enc W fuel _ _ _ h0 n0
  exact ⟨x, F, ⟨hI⟩⟩

/-- A law's argument that is a struct, as plain data. -/
theorem Opens.argR {P : Program} {t : TypeId} {fs : Array Field} {α : Type} [Rep α] (h : Opens P t α) (ht : P.underlying t = some (.struct fs)) {H : Type} {enc : TypeId × Value → H} {W : World} {base : Nat} {d0 : DataW H} {p0 : List MemPlace} {v0 : Value}
    (k0 : Value.okWide P W .any base t v0) (h0 : DataW.Trod enc P W 0 (fun _ => true) true t v0 d0 p0) (n0 : W.noneFrozen p0) : ∃ (x : α) (F : List Nat) (cs : List Value), v0 = .agg cs.toArray ∧ Is W F x cs := by
  unfold Value.okWide at k0
  rw [ht] at k0
  obtain ⟨cs, rfl, _⟩ := k0
  obtain ⟨fuel, h0⟩ := h0
  obtain ⟨x, F, hI⟩ := h.2 enc W fuel _ _ _ h0 n0
  exact ⟨x, F, cs.toList, by simp, hI⟩
end Go.Proofs.YtfddmelikahfbaaGreatDoor
namespace Go.Proofs.YtfddmelikahfbaaGreatDoor
open Go.RowKit Go.ChangeShapes Go.WideShapes
open Rep (Is sz)

theorem u8_of {W : World} (h3 : Lib.VarReads Tryz.prog W "unicode/utf8.first" Lib.firstData) (h4 : Lib.VarReads Tryz.prog W "unicode/utf8.acceptRanges" Lib.acceptData) : U8 W :=
  utf8Tabs_of_readsT (U8Types.of196 Tryz.laysValid) ⟨by kernel_rfl, by kernel_rfl, by kernel_rfl, by kernel_rfl, by kernel_rfl, by kernel_rfl, by kernel_rfl⟩ h3 h4
end Go.Proofs.YtfddmelikahfbaaGreatDoor
