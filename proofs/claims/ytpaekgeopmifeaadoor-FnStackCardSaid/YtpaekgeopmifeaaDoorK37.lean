/- Contracts: what goes through a body, impl's side: an instruction. -/
import Derived.Test.YtpaekgeopmifeaaDoorK36
namespace Go.Proofs.YtpaekgeopmifeaaDoor
attribute [local go_sem ↓] Go.wp_at_zero Go.wp_at_succ
open Go.RowKit
open Rep (Is sz)

theorem close_h {s : ChkS} (h : s.closeB = true) : tkH s.h s.t.base s.t.res = s.t.base := by
  unfold ChkS.closeB at h
  simp only [Bool.and_eq_true, decide_eq_true_eq] at h
  exact h.2

theorem last_snoc {α : Type} (l : List α) (x : α) : (l ++ [x]).getLast? = some x := by simp

set_option maxRecDepth 10000 in
set_option maxHeartbeats 4000000 in
theorem istep {p B g : Nat} {F : List Nat} {M : MH} {sg : SigD} {loc : Int} {K : Nat} {sh sh' : List Bool} {s : ChkS} (m : ModuleD) (i : InsD) (w : World) (pa : PartsP m) (hg : -1 ≤ m.pages) (v : Inv sg.results K sh s) (hK : K ≤ 9000) (hR : 0 ≤ sg.results ∧ sg.results ≤ 1) (hi : insOk i = true) (hs : shStep sh i.op = some sh') [hS : IB w p B g M sg loc s] [hm : Shows w F m M.cells] [apf : Apart F [p]] :
    Calls Tryd.prog 24 #[.pointer (some ⟨p, 0, none⟩), .agg #[.int .i64 i.op, .int .i64 i.a, .int .i64 i.b]] w fun e w' => ∃ g' b' s', stepC m loc sg.results s i = (b', s') ∧ e = .returned (.bool b') ∧ (b' = true → IB w' p B g' M sg loc s') ∧ (g' = g ∨ w.heap.size ≤ g') ∧ StepX [p, g] w w' := by
  have hv := v.nums
  have hlt := hS.lt
  have hne := hS.ne
  have hbp := hS.bp
  have nb : NeB g p := ⟨hne⟩
  have nb' : NeB p g := ⟨hne.symm⟩
  have ag : Arg g w := ⟨hlt.2.1⟩
  have ap : Arg p w := ⟨hlt.1⟩
  have og : Old g w := ⟨hlt.2.1⟩
  have opp : Old p w := ⟨hlt.1⟩
  have kk := hm.known
  have hl : s.lo.length ≤ 10000 := by omega
  have hh : 0 ≤ s.t.base ∧ s.t.base ≤ s.h ∧ s.h ≤ 10000 := by omega
  cases hf : flowOp i.op
  · have r := hid (step_plain (m := m) (loc := loc) (R := sg.results) (s := s) hf)
    have hP := fun w9 (h9 : IB w9 p B g M sg loc s) (h8 : Shows w9 F m M.cells) => iplain (sg := sg) (R := sg.results) (s := s) m i w9 pa hg v hK hi hf (hS := h9) (hm := h8) (apf := apf)
    have n : ¬ flowOp i.op = true := by rw [hf]; simp
    simp only [flowOp, decide_eq_true_eq] at n
    have n0 : (i.op == 0) = false := beq_eq_false_iff_ne.2 (by omega)
    have n2 : (i.op == 2) = false := beq_eq_false_iff_ne.2 (by omega)
    have n3 : (i.op == 3) = false := beq_eq_false_iff_ne.2 (by omega)
    have n4 : (i.op == 4) = false := beq_eq_false_iff_ne.2 (by omega)
    have n5 : (i.op == 5) = false := beq_eq_false_iff_ne.2 (by omega)
    have n11 : (i.op == 11) = false := beq_eq_false_iff_ne.2 (by omega)
    have n12 : (i.op == 12) = false := beq_eq_false_iff_ne.2 (by omega)
    have n13 : (i.op == 13) = false := beq_eq_false_iff_ne.2 (by omega)
    have n15 : (i.op == 15) = false := beq_eq_false_iff_ne.2 (by omega)
    clear n
    obtain ⟨q, hq⟩ : ∃ q, plainC m loc s i = q := ⟨_, rfl⟩
    simp only [hq] at r hP
    obtain ⟨b', s'⟩ := q
    replace hq := hid hq
    go_enter Tryd.func24, Tryd.ntmps24
    go_wp2_with fail
    with_reducible refine Calls.mono (hP _ inferInstance inferInstance) ?_
    rintro e w1 ⟨rfl, hS1, st1⟩
    go_wp2
    go_ret
    exact ⟨g, b', s', r.out, rfl, fun _ => inferInstance, .inl rfl, mkStepX⟩
  have rr := hid (step_flow (m := m) (loc := loc) (R := sg.results) (s := s) hf)
  simp only [flowOp, decide_eq_true_eq] at hf
  by_cases hbr : i.op = 0 ∨ i.op = 15 ∨ i.op = 12 ∨ i.op = 13
  · have hB := fun w9 (h9 : IB w9 p B g M sg loc s) => ibranch (s := s) i w9 v hK hR hi hbr (hS := h9)
    obtain ⟨op, a, b⟩ := i
    simp only at hbr hB
    clear hf
    rcases hbr with rfl | rfl | rfl | rfl
    all_goals
      go_enter Tryd.func24, Tryd.ntmps24
      go_wp2_with fail
      with_reducible refine Calls.mono (hB _ inferInstance) ?_
      rintro e w1 ⟨b', s', e1, rfl, hS1, st1⟩
      replace e1 := hid e1
      replace hS1 := hid hS1
      go_wp2
      go_ret
      exact ⟨g, b', s', rr.out.trans e1.out, rfl, fun h => hS1.out h, .inl rfl, mkStepX⟩
  have ho : i.op = 2 ∨ i.op = 3 ∨ i.op = 4 ∨ i.op = 5 ∨ i.op = 11 := by omega
  clear hf hbr
  obtain ⟨op, a, b⟩ := i
  simp only at ho
  rcases ho with rfl | rfl | rfl | rfl | rfl
  · obtain ⟨⟨cap, bx, own⟩, -, -⟩ := id hS
    have hcap := ib_size own
    replace own := hid own
    go_enter Tryd.func24, Tryd.ntmps24
    go_wp2_with fail
    refine wp_name ?_
    intro A sA
    have hAs : w.heap.size ≤ A.heap.size := (inferInstance : Grew w A).le
    have oA : A.ownsRow B 72 5 (.slice (some ⟨g, 0, none⟩) (s.lo.length + 1) cap) (s.lo.length + 1) (s.all.flatMap ifr) := own_keep own.out
    replace oA := hid oA
    have oAp : Old p A := inferInstance
    refine rg_beginX [p, g] (n := 23) (by kernel_rfl) rfl fun rg0 => ?_
    refine rg_read (i := 0) (a1 := _) rfl (by kernel_rfl) rfl (by first | (simp; done) | (simp [Act.put]; done)) (by intro wq hwq; go_wp2; exact ⟨rfl, rfl⟩) mkStepX ?_
    refine rg_read (i := 1) (a1 := _) rfl (by kernel_rfl) rfl (by first | (simp; done) | (simp [Act.put]; done)) (by intro wq hwq; go_wp2; exact ⟨rfl, rfl⟩) mkStepX ?_
    refine rg_read (i := 2) (a1 := _) rfl (by kernel_rfl) rfl (by first | (simp; done) | (simp [Act.put]; done)) (by intro wq hwq; go_wp2; exact ⟨rfl, rfl⟩) mkStepX ?_
    refine rg_read (i := 3) (a1 := _) rfl (by kernel_rfl) rfl (by first | (simp; done) | (simp [Act.put]; done)) (by intro wq hwq; go_wp2; exact ⟨rfl, rfl⟩) mkStepX ?_
    refine rg_read (i := 5) (a1 := _) rfl (by kernel_rfl) rfl (by first | (simp; done) | (simp [Act.put]; done)) (by intro wq hwq; go_wp2; exact ⟨rfl, rfl⟩) mkStepX ?_
    refine rg_read (i := 6) (a1 := _) rfl (by kernel_rfl) rfl (by first | (simp; done) | (simp [Act.put]; done)) (by intro wq hwq; go_wp2; exact ⟨rfl, rfl⟩) mkStepX ?_
    refine rg_read (i := 7) (a1 := _) rfl (by kernel_rfl) rfl (by first | (simp; done) | (simp [Act.put]; done)) (by intro wq hwq; go_wp2; exact ⟨rfl, rfl⟩) mkStepX ?_
    refine rg_read (i := 8) (a1 := _) rfl (by kernel_rfl) rfl (by first | (simp; done) | (simp [Act.put]; done)) (by intro wq hwq; go_wp2; exact ⟨rfl, rfl⟩) mkStepX ?_
    refine rg_read (i := 9) (a1 := _) rfl (by kernel_rfl) rfl (by first | (simp; done) | (simp [Act.put]; done)) (by intro wq hwq; go_wp2; exact ⟨rfl, rfl⟩) mkStepX ?_
    refine rg_read (i := 11) (a1 := _) rfl (by kernel_rfl) rfl (by first | (simp; done) | (simp [Act.put]; done)) (by intro wq hwq; go_wp2; exact ⟨rfl, rfl⟩) mkStepX ?_
    refine rg_read (i := 12) (a1 := _) rfl (by kernel_rfl) rfl (by first | (simp; done) | (simp [Act.put]; done)) (by intro wq hwq; go_wp2; exact ⟨rfl, rfl⟩) mkStepX ?_
    refine rg_read (i := 13) (a1 := _) rfl (by kernel_rfl) rfl (by first | (simp; done) | (simp [Act.put]; done)) (by intro wq hwq; go_wp2; exact ⟨rfl, rfl⟩) mkStepX ?_
    refine rg_read (i := 14) (a1 := _) rfl (by kernel_rfl) rfl (by first | (simp; done) | (simp [Act.put]; done)) (by intro wq hwq; go_wp2; exact ⟨rfl, rfl⟩) mkStepX ?_
    refine rg_read (i := 15) (a1 := _) rfl (by kernel_rfl) rfl (by first | (simp; done) | (simp [Act.put]; done)) (by intro wq hwq; go_wp2; exact ⟨rfl, rfl⟩) mkStepX ?_
    refine rg_read (i := 16) (a1 := _) rfl (by kernel_rfl) rfl (by first | (simp; done) | (simp [Act.put]; done)) (by intro wq hwq; go_wp2; exact ⟨rfl, rfl⟩) mkStepX ?_
    refine rg_two (i := 4) (j := 10) rfl rfl (by kernel_rfl) ?_ ?_
    · simp only [List.getElem_toArray, List.getElem_cons_succ, List.getElem_cons_zero]
      go_wp2_with (fail)
      refine ⟨mkStepX, ?_⟩
      refine rg_eff (i := 10) rfl (by kernel_rfl) ?_
      simp only [List.getElem_toArray, List.getElem_cons_succ, List.getElem_cons_zero]
      go_wp2_with (fail)
      refine ⟨mkStepX, ?_⟩
      refine rg_read (i := 17) (a1 := _) rfl (by kernel_rfl) rfl (by first | (simp; done) | (simp [Act.put]; done)) (by intro wq hwq; go_wp2; exact ⟨rfl, rfl⟩) mkStepX ?_
      refine rg_eff (i := 18) rfl (by kernel_rfl) ?_
      simp only [List.getElem_toArray, List.getElem_cons_succ, List.getElem_cons_zero]
      go_wp2_with (fail)
      refine ⟨mkStepX, ?_⟩
      refine rg_eff (i := 19) rfl (by kernel_rfl) ?_
      simp only [List.getElem_toArray, List.getElem_cons_succ, List.getElem_cons_zero]
      go_wp2_with (at_builtin; go_must (refine app_rowsB ifr 5 ifr_len ifr_one rfl (.tmp 25) (.tmp 39) 73 rfl 72 (.agg #[.int .i64 0, .int .i64 0, .bool false, .bool false, .bool false]) 24 Tryd.ifr_tab B (some ⟨g, 0, none⟩) (s.lo.length + 1) cap s.all ⟨2, a, s.h, false⟩ rfl (own_keep oA.out) (by simp; omega) A.heap.size 1 rfl (fun j u hj => ⟨((Box.new A _ _).cell_eq j).trans (by simpa [ifr] using hj), (Box.new A _ _).live j⟩) (by omega) ?_); intro ao1 cap1 w9 hown1 sx0 hb1; have sx1 : StepX [g] _ w9 := ⟨sx0.fr⟩; clear sx0; have b1 : BoxL w9 p (iv M sg loc s.h (.slice (some ⟨g, 0, none⟩) (s.lo.length + 1) cap)) := boxOf; have op1 : Old p w9 := b1.old)
      refine ⟨mkStepX, ?_⟩
      refine rg_read (i := 20) (a1 := _) rfl (by kernel_rfl) rfl (by first | (simp; done) | (simp [Act.put]; done)) (by intro wq hwq; go_wp2; exact ⟨rfl, rfl⟩) mkStepX ?_
      refine rg_read (i := 21) (a1 := _) rfl (by kernel_rfl) rfl (by first | (simp; done) | (simp [Act.put]; done)) (by intro wq hwq; go_wp2; exact ⟨rfl, rfl⟩) mkStepX ?_
      refine rg_eff (i := 22) rfl (by kernel_rfl) ?_
      simp only [List.getElem_toArray, List.getElem_cons_succ, List.getElem_cons_zero]
      go_wp2_with (fail)
      refine ⟨mkStepX, ?_⟩
      refine rg_done (by kernel_rfl) ?_
      obtain ⟨g1, rfl, hg1, hg2⟩ := own_addr hown1 (by omega)
      have n1 : g1 = g ∨ w.heap.size ≤ g1 := by have := hb1 g1 (by simp [blk]); simp [blk] at this; omega
      have nb1 : NeB p g1 := ⟨by omega⟩
      replace hown1 := hid hown1
      go_wp2
      go_ret
      refine ⟨g1, _, _, rr.out.trans (flow_23 (.inl rfl)), rfl, fun _ => ⟨⟨cap1, ?_, ?_⟩, nb1.ne.symm, hbp⟩, n1, mkStepX⟩
      · show BoxL _ _ (iv M sg loc s.h (.slice (some ⟨g1, 0, none⟩) ((s.lo ++ [s.t]).length + 1) cap1))
        rw [List.length_append]
        first | exact boxSet (iv_st ..) | exact boxSetD (iv_st ..)
      · show World.ownsRow _ _ _ _ (.slice _ ((s.lo ++ [s.t]).length + 1) _) ((s.lo ++ [s.t]).length + 1) _
        rw [List.length_append]
        exact ownsRow_fr hown1.out (FrX.fr (S := [p])) (by simp only [blk, List.mem_singleton]; rintro x rfl; exact nb1.ne.symm)
    · simp only [List.getElem_toArray, List.getElem_cons_succ, List.getElem_cons_zero]
      go_wp2_with (fail)
      refine ⟨mkStepX, ?_⟩
      refine rg_read (i := 17) (a1 := _) rfl (by kernel_rfl) rfl (by first | (simp; done) | (simp [Act.put]; done)) (by intro wq hwq; go_wp2; exact ⟨rfl, rfl⟩) mkStepX ?_
      refine rg_two (i := 4) (j := 18) rfl rfl (by kernel_rfl) ?_ ?_
      · simp only [List.getElem_toArray, List.getElem_cons_succ, List.getElem_cons_zero]
        go_wp2_with (fail)
        refine ⟨mkStepX, ?_⟩
        refine rg_eff (i := 18) rfl (by kernel_rfl) ?_
        simp only [List.getElem_toArray, List.getElem_cons_succ, List.getElem_cons_zero]
        go_wp2_with (fail)
        refine ⟨mkStepX, ?_⟩
        refine rg_eff (i := 19) rfl (by kernel_rfl) ?_
        simp only [List.getElem_toArray, List.getElem_cons_succ, List.getElem_cons_zero]
        go_wp2_with (at_builtin; go_must (refine app_rowsB ifr 5 ifr_len ifr_one rfl (.tmp 25) (.tmp 39) 73 rfl 72 (.agg #[.int .i64 0, .int .i64 0, .bool false, .bool false, .bool false]) 24 Tryd.ifr_tab B (some ⟨g, 0, none⟩) (s.lo.length + 1) cap s.all ⟨2, a, s.h, false⟩ rfl (own_keep oA.out) (by simp; omega) A.heap.size 1 rfl (fun j u hj => ⟨((Box.new A _ _).cell_eq j).trans (by simpa [ifr] using hj), (Box.new A _ _).live j⟩) (by omega) ?_); intro ao1 cap1 w9 hown1 sx0 hb1; have sx1 : StepX [g] _ w9 := ⟨sx0.fr⟩; clear sx0; have b1 : BoxL w9 p (iv M sg loc s.h (.slice (some ⟨g, 0, none⟩) (s.lo.length + 1) cap)) := boxOf; have op1 : Old p w9 := b1.old)
        refine ⟨mkStepX, ?_⟩
        refine rg_read (i := 20) (a1 := _) rfl (by kernel_rfl) rfl (by first | (simp; done) | (simp [Act.put]; done)) (by intro wq hwq; go_wp2; exact ⟨rfl, rfl⟩) mkStepX ?_
        refine rg_read (i := 21) (a1 := _) rfl (by kernel_rfl) rfl (by first | (simp; done) | (simp [Act.put]; done)) (by intro wq hwq; go_wp2; exact ⟨rfl, rfl⟩) mkStepX ?_
        refine rg_eff (i := 22) rfl (by kernel_rfl) ?_
        simp only [List.getElem_toArray, List.getElem_cons_succ, List.getElem_cons_zero]
        go_wp2_with (fail)
        refine ⟨mkStepX, ?_⟩
        refine rg_done (by kernel_rfl) ?_
        obtain ⟨g1, rfl, hg1, hg2⟩ := own_addr hown1 (by omega)
        have n1 : g1 = g ∨ w.heap.size ≤ g1 := by have := hb1 g1 (by simp [blk]); simp [blk] at this; omega
        have nb1 : NeB p g1 := ⟨by omega⟩
        replace hown1 := hid hown1
        go_wp2
        go_ret
        refine ⟨g1, _, _, rr.out.trans (flow_23 (.inl rfl)), rfl, fun _ => ⟨⟨cap1, ?_, ?_⟩, nb1.ne.symm, hbp⟩, n1, mkStepX⟩
        · show BoxL _ _ (iv M sg loc s.h (.slice (some ⟨g1, 0, none⟩) ((s.lo ++ [s.t]).length + 1) cap1))
          rw [List.length_append]
          first | exact boxSet (iv_st ..) | exact boxSetD (iv_st ..)
        · show World.ownsRow _ _ _ _ (.slice _ ((s.lo ++ [s.t]).length + 1) _) ((s.lo ++ [s.t]).length + 1) _
          rw [List.length_append]
          exact ownsRow_fr hown1.out (FrX.fr (S := [p])) (by simp only [blk, List.mem_singleton]; rintro x rfl; exact nb1.ne.symm)
      · simp only [List.getElem_toArray, List.getElem_cons_succ, List.getElem_cons_zero]
        go_wp2_with (fail)
        refine ⟨mkStepX, ?_⟩
        refine rg_eff (i := 4) rfl (by kernel_rfl) ?_
        simp only [List.getElem_toArray, List.getElem_cons_succ, List.getElem_cons_zero]
        go_wp2_with (fail)
        refine ⟨mkStepX, ?_⟩
        refine rg_eff (i := 19) rfl (by kernel_rfl) ?_
        simp only [List.getElem_toArray, List.getElem_cons_succ, List.getElem_cons_zero]
        go_wp2_with (at_builtin; go_must (refine app_rowsB ifr 5 ifr_len ifr_one rfl (.tmp 25) (.tmp 39) 73 rfl 72 (.agg #[.int .i64 0, .int .i64 0, .bool false, .bool false, .bool false]) 24 Tryd.ifr_tab B (some ⟨g, 0, none⟩) (s.lo.length + 1) cap s.all ⟨2, a, s.h, false⟩ rfl (own_keep oA.out) (by simp; omega) A.heap.size 1 rfl (fun j u hj => ⟨((Box.new A _ _).cell_eq j).trans (by simpa [ifr] using hj), (Box.new A _ _).live j⟩) (by omega) ?_); intro ao1 cap1 w9 hown1 sx0 hb1; have sx1 : StepX [g] _ w9 := ⟨sx0.fr⟩; clear sx0; have b1 : BoxL w9 p (iv M sg loc s.h (.slice (some ⟨g, 0, none⟩) (s.lo.length + 1) cap)) := boxOf; have op1 : Old p w9 := b1.old)
        refine ⟨mkStepX, ?_⟩
        refine rg_read (i := 20) (a1 := _) rfl (by kernel_rfl) rfl (by first | (simp; done) | (simp [Act.put]; done)) (by intro wq hwq; go_wp2; exact ⟨rfl, rfl⟩) mkStepX ?_
        refine rg_read (i := 21) (a1 := _) rfl (by kernel_rfl) rfl (by first | (simp; done) | (simp [Act.put]; done)) (by intro wq hwq; go_wp2; exact ⟨rfl, rfl⟩) mkStepX ?_
        refine rg_eff (i := 22) rfl (by kernel_rfl) ?_
        simp only [List.getElem_toArray, List.getElem_cons_succ, List.getElem_cons_zero]
        go_wp2_with (fail)
        refine ⟨mkStepX, ?_⟩
        refine rg_done (by kernel_rfl) ?_
        obtain ⟨g1, rfl, hg1, hg2⟩ := own_addr hown1 (by omega)
        have n1 : g1 = g ∨ w.heap.size ≤ g1 := by have := hb1 g1 (by simp [blk]); simp [blk] at this; omega
        have nb1 : NeB p g1 := ⟨by omega⟩
        replace hown1 := hid hown1
        go_wp2
        go_ret
        refine ⟨g1, _, _, rr.out.trans (flow_23 (.inl rfl)), rfl, fun _ => ⟨⟨cap1, ?_, ?_⟩, nb1.ne.symm, hbp⟩, n1, mkStepX⟩
        · show BoxL _ _ (iv M sg loc s.h (.slice (some ⟨g1, 0, none⟩) ((s.lo ++ [s.t]).length + 1) cap1))
          rw [List.length_append]
          first | exact boxSet (iv_st ..) | exact boxSetD (iv_st ..)
        · show World.ownsRow _ _ _ _ (.slice _ ((s.lo ++ [s.t]).length + 1) _) ((s.lo ++ [s.t]).length + 1) _
          rw [List.length_append]
          exact ownsRow_fr hown1.out (FrX.fr (S := [p])) (by simp only [blk, List.mem_singleton]; rintro x rfl; exact nb1.ne.symm)
  · obtain ⟨⟨cap, bx, own⟩, -, -⟩ := id hS
    have hcap := ib_size own
    replace own := hid own
    go_enter Tryd.func24, Tryd.ntmps24
    go_wp2_with fail
    refine wp_name ?_
    intro A sA
    have hAs : w.heap.size ≤ A.heap.size := (inferInstance : Grew w A).le
    have oA : A.ownsRow B 72 5 (.slice (some ⟨g, 0, none⟩) (s.lo.length + 1) cap) (s.lo.length + 1) (s.all.flatMap ifr) := own_keep own.out
    replace oA := hid oA
    have oAp : Old p A := inferInstance
    refine rg_beginX [p, g] (n := 23) (by kernel_rfl) rfl fun rg0 => ?_
    refine rg_read (i := 0) (a1 := _) rfl (by kernel_rfl) rfl (by first | (simp; done) | (simp [Act.put]; done)) (by intro wq hwq; go_wp2; exact ⟨rfl, rfl⟩) mkStepX ?_
    refine rg_read (i := 1) (a1 := _) rfl (by kernel_rfl) rfl (by first | (simp; done) | (simp [Act.put]; done)) (by intro wq hwq; go_wp2; exact ⟨rfl, rfl⟩) mkStepX ?_
    refine rg_read (i := 2) (a1 := _) rfl (by kernel_rfl) rfl (by first | (simp; done) | (simp [Act.put]; done)) (by intro wq hwq; go_wp2; exact ⟨rfl, rfl⟩) mkStepX ?_
    refine rg_read (i := 3) (a1 := _) rfl (by kernel_rfl) rfl (by first | (simp; done) | (simp [Act.put]; done)) (by intro wq hwq; go_wp2; exact ⟨rfl, rfl⟩) mkStepX ?_
    refine rg_read (i := 5) (a1 := _) rfl (by kernel_rfl) rfl (by first | (simp; done) | (simp [Act.put]; done)) (by intro wq hwq; go_wp2; exact ⟨rfl, rfl⟩) mkStepX ?_
    refine rg_read (i := 6) (a1 := _) rfl (by kernel_rfl) rfl (by first | (simp; done) | (simp [Act.put]; done)) (by intro wq hwq; go_wp2; exact ⟨rfl, rfl⟩) mkStepX ?_
    refine rg_read (i := 7) (a1 := _) rfl (by kernel_rfl) rfl (by first | (simp; done) | (simp [Act.put]; done)) (by intro wq hwq; go_wp2; exact ⟨rfl, rfl⟩) mkStepX ?_
    refine rg_read (i := 8) (a1 := _) rfl (by kernel_rfl) rfl (by first | (simp; done) | (simp [Act.put]; done)) (by intro wq hwq; go_wp2; exact ⟨rfl, rfl⟩) mkStepX ?_
    refine rg_read (i := 9) (a1 := _) rfl (by kernel_rfl) rfl (by first | (simp; done) | (simp [Act.put]; done)) (by intro wq hwq; go_wp2; exact ⟨rfl, rfl⟩) mkStepX ?_
    refine rg_read (i := 11) (a1 := _) rfl (by kernel_rfl) rfl (by first | (simp; done) | (simp [Act.put]; done)) (by intro wq hwq; go_wp2; exact ⟨rfl, rfl⟩) mkStepX ?_
    refine rg_read (i := 12) (a1 := _) rfl (by kernel_rfl) rfl (by first | (simp; done) | (simp [Act.put]; done)) (by intro wq hwq; go_wp2; exact ⟨rfl, rfl⟩) mkStepX ?_
    refine rg_read (i := 13) (a1 := _) rfl (by kernel_rfl) rfl (by first | (simp; done) | (simp [Act.put]; done)) (by intro wq hwq; go_wp2; exact ⟨rfl, rfl⟩) mkStepX ?_
    refine rg_read (i := 14) (a1 := _) rfl (by kernel_rfl) rfl (by first | (simp; done) | (simp [Act.put]; done)) (by intro wq hwq; go_wp2; exact ⟨rfl, rfl⟩) mkStepX ?_
    refine rg_read (i := 15) (a1 := _) rfl (by kernel_rfl) rfl (by first | (simp; done) | (simp [Act.put]; done)) (by intro wq hwq; go_wp2; exact ⟨rfl, rfl⟩) mkStepX ?_
    refine rg_read (i := 16) (a1 := _) rfl (by kernel_rfl) rfl (by first | (simp; done) | (simp [Act.put]; done)) (by intro wq hwq; go_wp2; exact ⟨rfl, rfl⟩) mkStepX ?_
    refine rg_two (i := 4) (j := 10) rfl rfl (by kernel_rfl) ?_ ?_
    · simp only [List.getElem_toArray, List.getElem_cons_succ, List.getElem_cons_zero]
      go_wp2_with (fail)
      refine ⟨mkStepX, ?_⟩
      refine rg_eff (i := 10) rfl (by kernel_rfl) ?_
      simp only [List.getElem_toArray, List.getElem_cons_succ, List.getElem_cons_zero]
      go_wp2_with (fail)
      refine ⟨mkStepX, ?_⟩
      refine rg_read (i := 17) (a1 := _) rfl (by kernel_rfl) rfl (by first | (simp; done) | (simp [Act.put]; done)) (by intro wq hwq; go_wp2; exact ⟨rfl, rfl⟩) mkStepX ?_
      refine rg_eff (i := 18) rfl (by kernel_rfl) ?_
      simp only [List.getElem_toArray, List.getElem_cons_succ, List.getElem_cons_zero]
      go_wp2_with (fail)
      refine ⟨mkStepX, ?_⟩
      refine rg_eff (i := 19) rfl (by kernel_rfl) ?_
      simp only [List.getElem_toArray, List.getElem_cons_succ, List.getElem_cons_zero]
      go_wp2_with (at_builtin; go_must (refine app_rowsB ifr 5 ifr_len ifr_one rfl (.tmp 25) (.tmp 39) 73 rfl 72 (.agg #[.int .i64 0, .int .i64 0, .bool false, .bool false, .bool false]) 24 Tryd.ifr_tab B (some ⟨g, 0, none⟩) (s.lo.length + 1) cap s.all ⟨3, a, s.h, false⟩ rfl (own_keep oA.out) (by simp; omega) A.heap.size 1 rfl (fun j u hj => ⟨((Box.new A _ _).cell_eq j).trans (by simpa [ifr] using hj), (Box.new A _ _).live j⟩) (by omega) ?_); intro ao1 cap1 w9 hown1 sx0 hb1; have sx1 : StepX [g] _ w9 := ⟨sx0.fr⟩; clear sx0; have b1 : BoxL w9 p (iv M sg loc s.h (.slice (some ⟨g, 0, none⟩) (s.lo.length + 1) cap)) := boxOf; have op1 : Old p w9 := b1.old)
      refine ⟨mkStepX, ?_⟩
      refine rg_read (i := 20) (a1 := _) rfl (by kernel_rfl) rfl (by first | (simp; done) | (simp [Act.put]; done)) (by intro wq hwq; go_wp2; exact ⟨rfl, rfl⟩) mkStepX ?_
      refine rg_read (i := 21) (a1 := _) rfl (by kernel_rfl) rfl (by first | (simp; done) | (simp [Act.put]; done)) (by intro wq hwq; go_wp2; exact ⟨rfl, rfl⟩) mkStepX ?_
      refine rg_eff (i := 22) rfl (by kernel_rfl) ?_
      simp only [List.getElem_toArray, List.getElem_cons_succ, List.getElem_cons_zero]
      go_wp2_with (fail)
      refine ⟨mkStepX, ?_⟩
      refine rg_done (by kernel_rfl) ?_
      obtain ⟨g1, rfl, hg1, hg2⟩ := own_addr hown1 (by omega)
      have n1 : g1 = g ∨ w.heap.size ≤ g1 := by have := hb1 g1 (by simp [blk]); simp [blk] at this; omega
      have nb1 : NeB p g1 := ⟨by omega⟩
      replace hown1 := hid hown1
      go_wp2
      go_ret
      refine ⟨g1, _, _, rr.out.trans (flow_23 (.inr rfl)), rfl, fun _ => ⟨⟨cap1, ?_, ?_⟩, nb1.ne.symm, hbp⟩, n1, mkStepX⟩
      · show BoxL _ _ (iv M sg loc s.h (.slice (some ⟨g1, 0, none⟩) ((s.lo ++ [s.t]).length + 1) cap1))
        rw [List.length_append]
        first | exact boxSet (iv_st ..) | exact boxSetD (iv_st ..)
      · show World.ownsRow _ _ _ _ (.slice _ ((s.lo ++ [s.t]).length + 1) _) ((s.lo ++ [s.t]).length + 1) _
        rw [List.length_append]
        exact ownsRow_fr hown1.out (FrX.fr (S := [p])) (by simp only [blk, List.mem_singleton]; rintro x rfl; exact nb1.ne.symm)
    · simp only [List.getElem_toArray, List.getElem_cons_succ, List.getElem_cons_zero]
      go_wp2_with (fail)
      refine ⟨mkStepX, ?_⟩
      refine rg_read (i := 17) (a1 := _) rfl (by kernel_rfl) rfl (by first | (simp; done) | (simp [Act.put]; done)) (by intro wq hwq; go_wp2; exact ⟨rfl, rfl⟩) mkStepX ?_
      refine rg_two (i := 4) (j := 18) rfl rfl (by kernel_rfl) ?_ ?_
      · simp only [List.getElem_toArray, List.getElem_cons_succ, List.getElem_cons_zero]
        go_wp2_with (fail)
        refine ⟨mkStepX, ?_⟩
        refine rg_eff (i := 18) rfl (by kernel_rfl) ?_
        simp only [List.getElem_toArray, List.getElem_cons_succ, List.getElem_cons_zero]
        go_wp2_with (fail)
        refine ⟨mkStepX, ?_⟩
        refine rg_eff (i := 19) rfl (by kernel_rfl) ?_
        simp only [List.getElem_toArray, List.getElem_cons_succ, List.getElem_cons_zero]
        go_wp2_with (at_builtin; go_must (refine app_rowsB ifr 5 ifr_len ifr_one rfl (.tmp 25) (.tmp 39) 73 rfl 72 (.agg #[.int .i64 0, .int .i64 0, .bool false, .bool false, .bool false]) 24 Tryd.ifr_tab B (some ⟨g, 0, none⟩) (s.lo.length + 1) cap s.all ⟨3, a, s.h, false⟩ rfl (own_keep oA.out) (by simp; omega) A.heap.size 1 rfl (fun j u hj => ⟨((Box.new A _ _).cell_eq j).trans (by simpa [ifr] using hj), (Box.new A _ _).live j⟩) (by omega) ?_); intro ao1 cap1 w9 hown1 sx0 hb1; have sx1 : StepX [g] _ w9 := ⟨sx0.fr⟩; clear sx0; have b1 : BoxL w9 p (iv M sg loc s.h (.slice (some ⟨g, 0, none⟩) (s.lo.length + 1) cap)) := boxOf; have op1 : Old p w9 := b1.old)
        refine ⟨mkStepX, ?_⟩
        refine rg_read (i := 20) (a1 := _) rfl (by kernel_rfl) rfl (by first | (simp; done) | (simp [Act.put]; done)) (by intro wq hwq; go_wp2; exact ⟨rfl, rfl⟩) mkStepX ?_
        refine rg_read (i := 21) (a1 := _) rfl (by kernel_rfl) rfl (by first | (simp; done) | (simp [Act.put]; done)) (by intro wq hwq; go_wp2; exact ⟨rfl, rfl⟩) mkStepX ?_
        refine rg_eff (i := 22) rfl (by kernel_rfl) ?_
        simp only [List.getElem_toArray, List.getElem_cons_succ, List.getElem_cons_zero]
        go_wp2_with (fail)
        refine ⟨mkStepX, ?_⟩
        refine rg_done (by kernel_rfl) ?_
        obtain ⟨g1, rfl, hg1, hg2⟩ := own_addr hown1 (by omega)
        have n1 : g1 = g ∨ w.heap.size ≤ g1 := by have := hb1 g1 (by simp [blk]); simp [blk] at this; omega
        have nb1 : NeB p g1 := ⟨by omega⟩
        replace hown1 := hid hown1
        go_wp2
        go_ret
        refine ⟨g1, _, _, rr.out.trans (flow_23 (.inr rfl)), rfl, fun _ => ⟨⟨cap1, ?_, ?_⟩, nb1.ne.symm, hbp⟩, n1, mkStepX⟩
        · show BoxL _ _ (iv M sg loc s.h (.slice (some ⟨g1, 0, none⟩) ((s.lo ++ [s.t]).length + 1) cap1))
          rw [List.length_append]
          first | exact boxSet (iv_st ..) | exact boxSetD (iv_st ..)
        · show World.ownsRow _ _ _ _ (.slice _ ((s.lo ++ [s.t]).length + 1) _) ((s.lo ++ [s.t]).length + 1) _
          rw [List.length_append]
          exact ownsRow_fr hown1.out (FrX.fr (S := [p])) (by simp only [blk, List.mem_singleton]; rintro x rfl; exact nb1.ne.symm)
      · simp only [List.getElem_toArray, List.getElem_cons_succ, List.getElem_cons_zero]
        go_wp2_with (fail)
        refine ⟨mkStepX, ?_⟩
        refine rg_eff (i := 4) rfl (by kernel_rfl) ?_
        simp only [List.getElem_toArray, List.getElem_cons_succ, List.getElem_cons_zero]
        go_wp2_with (fail)
        refine ⟨mkStepX, ?_⟩
        refine rg_eff (i := 19) rfl (by kernel_rfl) ?_
        simp only [List.getElem_toArray, List.getElem_cons_succ, List.getElem_cons_zero]
        go_wp2_with (at_builtin; go_must (refine app_rowsB ifr 5 ifr_len ifr_one rfl (.tmp 25) (.tmp 39) 73 rfl 72 (.agg #[.int .i64 0, .int .i64 0, .bool false, .bool false, .bool false]) 24 Tryd.ifr_tab B (some ⟨g, 0, none⟩) (s.lo.length + 1) cap s.all ⟨3, a, s.h, false⟩ rfl (own_keep oA.out) (by simp; omega) A.heap.size 1 rfl (fun j u hj => ⟨((Box.new A _ _).cell_eq j).trans (by simpa [ifr] using hj), (Box.new A _ _).live j⟩) (by omega) ?_); intro ao1 cap1 w9 hown1 sx0 hb1; have sx1 : StepX [g] _ w9 := ⟨sx0.fr⟩; clear sx0; have b1 : BoxL w9 p (iv M sg loc s.h (.slice (some ⟨g, 0, none⟩) (s.lo.length + 1) cap)) := boxOf; have op1 : Old p w9 := b1.old)
        refine ⟨mkStepX, ?_⟩
        refine rg_read (i := 20) (a1 := _) rfl (by kernel_rfl) rfl (by first | (simp; done) | (simp [Act.put]; done)) (by intro wq hwq; go_wp2; exact ⟨rfl, rfl⟩) mkStepX ?_
        refine rg_read (i := 21) (a1 := _) rfl (by kernel_rfl) rfl (by first | (simp; done) | (simp [Act.put]; done)) (by intro wq hwq; go_wp2; exact ⟨rfl, rfl⟩) mkStepX ?_
        refine rg_eff (i := 22) rfl (by kernel_rfl) ?_
        simp only [List.getElem_toArray, List.getElem_cons_succ, List.getElem_cons_zero]
        go_wp2_with (fail)
        refine ⟨mkStepX, ?_⟩
        refine rg_done (by kernel_rfl) ?_
        obtain ⟨g1, rfl, hg1, hg2⟩ := own_addr hown1 (by omega)
        have n1 : g1 = g ∨ w.heap.size ≤ g1 := by have := hb1 g1 (by simp [blk]); simp [blk] at this; omega
        have nb1 : NeB p g1 := ⟨by omega⟩
        replace hown1 := hid hown1
        go_wp2
        go_ret
        refine ⟨g1, _, _, rr.out.trans (flow_23 (.inr rfl)), rfl, fun _ => ⟨⟨cap1, ?_, ?_⟩, nb1.ne.symm, hbp⟩, n1, mkStepX⟩
        · show BoxL _ _ (iv M sg loc s.h (.slice (some ⟨g1, 0, none⟩) ((s.lo ++ [s.t]).length + 1) cap1))
          rw [List.length_append]
          first | exact boxSet (iv_st ..) | exact boxSetD (iv_st ..)
        · show World.ownsRow _ _ _ _ (.slice _ ((s.lo ++ [s.t]).length + 1) _) ((s.lo ++ [s.t]).length + 1) _
          rw [List.length_append]
          exact ownsRow_fr hown1.out (FrX.fr (S := [p])) (by simp only [blk, List.mem_singleton]; rintro x rfl; exact nb1.ne.symm)
  · have r := hid (flow_4 (R := sg.results) (s := s) (i := ⟨4, a, b⟩) rfl)
    go_enter Tryd.func24, Tryd.ntmps24
    go_wp2_with fail
    with_reducible refine Calls.mono (itake (s := s) 1 _ (by omega) hh hl) ?_
    rintro e w1 ⟨rfl, hS1, st1⟩
    have hgr := st1.fr.size
    cases hb : s.takeB 1
    · have r2 := hid (show flowC sg.results s ⟨4, a, b⟩ = (false, (s.take 1).push 4 a) by rw [r.out, hb])
      clear r
      go_wp2
      go_ret
      exact ⟨g, _, _, rr.out.trans r2.out, rfl, (fun h => by cases h), .inl rfl, mkStepX⟩
    · have r2 := hid (show flowC sg.results s ⟨4, a, b⟩ = (true, (s.take 1).push 4 a) by rw [r.out, hb])
      clear r
      have hop1 : Old p w1 := inferInstance
      obtain ⟨⟨cap, bx, own⟩, -, -⟩ := id hS1
      have hcap := ib_size own
      replace hcap : s.lo.length + 1 ≤ cap ∧ cap ≤ 9223372036854775807 := hcap
      replace bx : BoxL w1 p (iv M sg loc (s.take 1).h (.slice (some ⟨g, 0, none⟩) (s.lo.length + 1) cap)) := bx
      replace own : Hid (w1.ownsRow B 72 5 (.slice (some ⟨g, 0, none⟩) (s.lo.length + 1) cap) (s.lo.length + 1) (s.all.flatMap ifr)) := own
      go_wp2_with fail
      refine wp_name ?_
      intro A sA
      have hAs : w.heap.size ≤ A.heap.size := (inferInstance : Grew w A).le
      have oA : A.ownsRow B 72 5 (.slice (some ⟨g, 0, none⟩) (s.lo.length + 1) cap) (s.lo.length + 1) (s.all.flatMap ifr) := own_keep own.out
      replace oA := hid oA
      have oAp : Old p A := inferInstance
      refine rg_beginX [p, g] (n := 23) (by kernel_rfl) rfl fun rg0 => ?_
      refine rg_read (i := 0) (a1 := _) rfl (by kernel_rfl) rfl (by first | (simp; done) | (simp [Act.put]; done)) (by intro wq hwq; go_wp2; exact ⟨rfl, rfl⟩) mkStepX ?_
      refine rg_read (i := 1) (a1 := _) rfl (by kernel_rfl) rfl (by first | (simp; done) | (simp [Act.put]; done)) (by intro wq hwq; go_wp2; exact ⟨rfl, rfl⟩) mkStepX ?_
      refine rg_read (i := 2) (a1 := _) rfl (by kernel_rfl) rfl (by first | (simp; done) | (simp [Act.put]; done)) (by intro wq hwq; go_wp2; exact ⟨rfl, rfl⟩) mkStepX ?_
      refine rg_read (i := 3) (a1 := _) rfl (by kernel_rfl) rfl (by first | (simp; done) | (simp [Act.put]; done)) (by intro wq hwq; go_wp2; exact ⟨rfl, rfl⟩) mkStepX ?_
      refine rg_read (i := 5) (a1 := _) rfl (by kernel_rfl) rfl (by first | (simp; done) | (simp [Act.put]; done)) (by intro wq hwq; go_wp2; exact ⟨rfl, rfl⟩) mkStepX ?_
      refine rg_read (i := 6) (a1 := _) rfl (by kernel_rfl) rfl (by first | (simp; done) | (simp [Act.put]; done)) (by intro wq hwq; go_wp2; exact ⟨rfl, rfl⟩) mkStepX ?_
      refine rg_read (i := 7) (a1 := _) rfl (by kernel_rfl) rfl (by first | (simp; done) | (simp [Act.put]; done)) (by intro wq hwq; go_wp2; exact ⟨rfl, rfl⟩) mkStepX ?_
      refine rg_read (i := 8) (a1 := _) rfl (by kernel_rfl) rfl (by first | (simp; done) | (simp [Act.put]; done)) (by intro wq hwq; go_wp2; exact ⟨rfl, rfl⟩) mkStepX ?_
      refine rg_read (i := 9) (a1 := _) rfl (by kernel_rfl) rfl (by first | (simp; done) | (simp [Act.put]; done)) (by intro wq hwq; go_wp2; exact ⟨rfl, rfl⟩) mkStepX ?_
      refine rg_read (i := 11) (a1 := _) rfl (by kernel_rfl) rfl (by first | (simp; done) | (simp [Act.put]; done)) (by intro wq hwq; go_wp2; exact ⟨rfl, rfl⟩) mkStepX ?_
      refine rg_read (i := 12) (a1 := _) rfl (by kernel_rfl) rfl (by first | (simp; done) | (simp [Act.put]; done)) (by intro wq hwq; go_wp2; exact ⟨rfl, rfl⟩) mkStepX ?_
      refine rg_read (i := 13) (a1 := _) rfl (by kernel_rfl) rfl (by first | (simp; done) | (simp [Act.put]; done)) (by intro wq hwq; go_wp2; exact ⟨rfl, rfl⟩) mkStepX ?_
      refine rg_read (i := 14) (a1 := _) rfl (by kernel_rfl) rfl (by first | (simp; done) | (simp [Act.put]; done)) (by intro wq hwq; go_wp2; exact ⟨rfl, rfl⟩) mkStepX ?_
      refine rg_read (i := 15) (a1 := _) rfl (by kernel_rfl) rfl (by first | (simp; done) | (simp [Act.put]; done)) (by intro wq hwq; go_wp2; exact ⟨rfl, rfl⟩) mkStepX ?_
      refine rg_read (i := 16) (a1 := _) rfl (by kernel_rfl) rfl (by first | (simp; done) | (simp [Act.put]; done)) (by intro wq hwq; go_wp2; exact ⟨rfl, rfl⟩) mkStepX ?_
      refine rg_two (i := 4) (j := 10) rfl rfl (by kernel_rfl) ?_ ?_
      · simp only [List.getElem_toArray, List.getElem_cons_succ, List.getElem_cons_zero]
        go_wp2_with (fail)
        refine ⟨mkStepX, ?_⟩
        refine rg_eff (i := 10) rfl (by kernel_rfl) ?_
        simp only [List.getElem_toArray, List.getElem_cons_succ, List.getElem_cons_zero]
        go_wp2_with (fail)
        refine ⟨mkStepX, ?_⟩
        refine rg_read (i := 17) (a1 := _) rfl (by kernel_rfl) rfl (by first | (simp; done) | (simp [Act.put]; done)) (by intro wq hwq; go_wp2; exact ⟨rfl, rfl⟩) mkStepX ?_
        refine rg_eff (i := 18) rfl (by kernel_rfl) ?_
        simp only [List.getElem_toArray, List.getElem_cons_succ, List.getElem_cons_zero]
        go_wp2_with (fail)
        refine ⟨mkStepX, ?_⟩
        refine rg_eff (i := 19) rfl (by kernel_rfl) ?_
        simp only [List.getElem_toArray, List.getElem_cons_succ, List.getElem_cons_zero]
        go_wp2_with (at_builtin; go_must (refine app_rowsB ifr 5 ifr_len ifr_one rfl (.tmp 25) (.tmp 39) 73 rfl 72 (.agg #[.int .i64 0, .int .i64 0, .bool false, .bool false, .bool false]) 24 Tryd.ifr_tab B (some ⟨g, 0, none⟩) (s.lo.length + 1) cap s.all ⟨4, a, (s.take 1).h, false⟩ rfl (own_keep oA.out) (by simp; omega) A.heap.size 1 rfl (fun j u hj => ⟨((Box.new A _ _).cell_eq j).trans (by simpa [ifr] using hj), (Box.new A _ _).live j⟩) (by omega) ?_); intro ao1 cap1 w9 hown1 sx0 hb1; have sx1 : StepX [g] _ w9 := ⟨sx0.fr⟩; clear sx0; have b1 : BoxL w9 p (iv M sg loc (s.take 1).h (.slice (some ⟨g, 0, none⟩) (s.lo.length + 1) cap)) := boxOf; have op1 : Old p w9 := b1.old)
        refine ⟨mkStepX, ?_⟩
        refine rg_read (i := 20) (a1 := _) rfl (by kernel_rfl) rfl (by first | (simp; done) | (simp [Act.put]; done)) (by intro wq hwq; go_wp2; exact ⟨rfl, rfl⟩) mkStepX ?_
        refine rg_read (i := 21) (a1 := _) rfl (by kernel_rfl) rfl (by first | (simp; done) | (simp [Act.put]; done)) (by intro wq hwq; go_wp2; exact ⟨rfl, rfl⟩) mkStepX ?_
        refine rg_eff (i := 22) rfl (by kernel_rfl) ?_
        simp only [List.getElem_toArray, List.getElem_cons_succ, List.getElem_cons_zero]
        go_wp2_with (fail)
        refine ⟨mkStepX, ?_⟩
        refine rg_done (by kernel_rfl) ?_
        obtain ⟨g1, rfl, hg1, hg2⟩ := own_addr hown1 (by omega)
        have n1 : g1 = g ∨ w.heap.size ≤ g1 := by have := hb1 g1 (by simp [blk]); simp [blk] at this; omega
        have nb1 : NeB p g1 := ⟨by omega⟩
        replace hown1 := hid hown1
        go_wp2
        go_ret
        refine ⟨g1, _, _, rr.out.trans (r2.out), rfl, fun _ => ⟨⟨cap1, ?_, ?_⟩, nb1.ne.symm, hbp⟩, n1, mkStepX⟩
        · show BoxL _ _ (iv M sg loc (s.take 1).h (.slice (some ⟨g1, 0, none⟩) ((s.lo ++ [s.t]).length + 1) cap1))
          rw [List.length_append]
          first | exact boxSet (iv_st ..) | exact boxSetD (iv_st ..)
        · show World.ownsRow _ _ _ _ (.slice _ ((s.lo ++ [s.t]).length + 1) _) ((s.lo ++ [s.t]).length + 1) _
          rw [List.length_append]
          exact ownsRow_fr hown1.out (FrX.fr (S := [p])) (by simp only [blk, List.mem_singleton]; rintro x rfl; exact nb1.ne.symm)
      · simp only [List.getElem_toArray, List.getElem_cons_succ, List.getElem_cons_zero]
        go_wp2_with (fail)
        refine ⟨mkStepX, ?_⟩
        refine rg_read (i := 17) (a1 := _) rfl (by kernel_rfl) rfl (by first | (simp; done) | (simp [Act.put]; done)) (by intro wq hwq; go_wp2; exact ⟨rfl, rfl⟩) mkStepX ?_
        refine rg_two (i := 4) (j := 18) rfl rfl (by kernel_rfl) ?_ ?_
        · simp only [List.getElem_toArray, List.getElem_cons_succ, List.getElem_cons_zero]
          go_wp2_with (fail)
          refine ⟨mkStepX, ?_⟩
          refine rg_eff (i := 18) rfl (by kernel_rfl) ?_
          simp only [List.getElem_toArray, List.getElem_cons_succ, List.getElem_cons_zero]
          go_wp2_with (fail)
          refine ⟨mkStepX, ?_⟩
          refine rg_eff (i := 19) rfl (by kernel_rfl) ?_
          simp only [List.getElem_toArray, List.getElem_cons_succ, List.getElem_cons_zero]
          go_wp2_with (at_builtin; go_must (refine app_rowsB ifr 5 ifr_len ifr_one rfl (.tmp 25) (.tmp 39) 73 rfl 72 (.agg #[.int .i64 0, .int .i64 0, .bool false, .bool false, .bool false]) 24 Tryd.ifr_tab B (some ⟨g, 0, none⟩) (s.lo.length + 1) cap s.all ⟨4, a, (s.take 1).h, false⟩ rfl (own_keep oA.out) (by simp; omega) A.heap.size 1 rfl (fun j u hj => ⟨((Box.new A _ _).cell_eq j).trans (by simpa [ifr] using hj), (Box.new A _ _).live j⟩) (by omega) ?_); intro ao1 cap1 w9 hown1 sx0 hb1; have sx1 : StepX [g] _ w9 := ⟨sx0.fr⟩; clear sx0; have b1 : BoxL w9 p (iv M sg loc (s.take 1).h (.slice (some ⟨g, 0, none⟩) (s.lo.length + 1) cap)) := boxOf; have op1 : Old p w9 := b1.old)
          refine ⟨mkStepX, ?_⟩
          refine rg_read (i := 20) (a1 := _) rfl (by kernel_rfl) rfl (by first | (simp; done) | (simp [Act.put]; done)) (by intro wq hwq; go_wp2; exact ⟨rfl, rfl⟩) mkStepX ?_
          refine rg_read (i := 21) (a1 := _) rfl (by kernel_rfl) rfl (by first | (simp; done) | (simp [Act.put]; done)) (by intro wq hwq; go_wp2; exact ⟨rfl, rfl⟩) mkStepX ?_
          refine rg_eff (i := 22) rfl (by kernel_rfl) ?_
          simp only [List.getElem_toArray, List.getElem_cons_succ, List.getElem_cons_zero]
          go_wp2_with (fail)
          refine ⟨mkStepX, ?_⟩
          refine rg_done (by kernel_rfl) ?_
          obtain ⟨g1, rfl, hg1, hg2⟩ := own_addr hown1 (by omega)
          have n1 : g1 = g ∨ w.heap.size ≤ g1 := by have := hb1 g1 (by simp [blk]); simp [blk] at this; omega
          have nb1 : NeB p g1 := ⟨by omega⟩
          replace hown1 := hid hown1
          go_wp2
          go_ret
          refine ⟨g1, _, _, rr.out.trans (r2.out), rfl, fun _ => ⟨⟨cap1, ?_, ?_⟩, nb1.ne.symm, hbp⟩, n1, mkStepX⟩
          · show BoxL _ _ (iv M sg loc (s.take 1).h (.slice (some ⟨g1, 0, none⟩) ((s.lo ++ [s.t]).length + 1) cap1))
            rw [List.length_append]
            first | exact boxSet (iv_st ..) | exact boxSetD (iv_st ..)
          · show World.ownsRow _ _ _ _ (.slice _ ((s.lo ++ [s.t]).length + 1) _) ((s.lo ++ [s.t]).length + 1) _
            rw [List.length_append]
            exact ownsRow_fr hown1.out (FrX.fr (S := [p])) (by simp only [blk, List.mem_singleton]; rintro x rfl; exact nb1.ne.symm)
        · simp only [List.getElem_toArray, List.getElem_cons_succ, List.getElem_cons_zero]
          go_wp2_with (fail)
          refine ⟨mkStepX, ?_⟩
          refine rg_eff (i := 4) rfl (by kernel_rfl) ?_
          simp only [List.getElem_toArray, List.getElem_cons_succ, List.getElem_cons_zero]
          go_wp2_with (fail)
          refine ⟨mkStepX, ?_⟩
          refine rg_eff (i := 19) rfl (by kernel_rfl) ?_
          simp only [List.getElem_toArray, List.getElem_cons_succ, List.getElem_cons_zero]
          go_wp2_with (at_builtin; go_must (refine app_rowsB ifr 5 ifr_len ifr_one rfl (.tmp 25) (.tmp 39) 73 rfl 72 (.agg #[.int .i64 0, .int .i64 0, .bool false, .bool false, .bool false]) 24 Tryd.ifr_tab B (some ⟨g, 0, none⟩) (s.lo.length + 1) cap s.all ⟨4, a, (s.take 1).h, false⟩ rfl (own_keep oA.out) (by simp; omega) A.heap.size 1 rfl (fun j u hj => ⟨((Box.new A _ _).cell_eq j).trans (by simpa [ifr] using hj), (Box.new A _ _).live j⟩) (by omega) ?_); intro ao1 cap1 w9 hown1 sx0 hb1; have sx1 : StepX [g] _ w9 := ⟨sx0.fr⟩; clear sx0; have b1 : BoxL w9 p (iv M sg loc (s.take 1).h (.slice (some ⟨g, 0, none⟩) (s.lo.length + 1) cap)) := boxOf; have op1 : Old p w9 := b1.old)
          refine ⟨mkStepX, ?_⟩
          refine rg_read (i := 20) (a1 := _) rfl (by kernel_rfl) rfl (by first | (simp; done) | (simp [Act.put]; done)) (by intro wq hwq; go_wp2; exact ⟨rfl, rfl⟩) mkStepX ?_
          refine rg_read (i := 21) (a1 := _) rfl (by kernel_rfl) rfl (by first | (simp; done) | (simp [Act.put]; done)) (by intro wq hwq; go_wp2; exact ⟨rfl, rfl⟩) mkStepX ?_
          refine rg_eff (i := 22) rfl (by kernel_rfl) ?_
          simp only [List.getElem_toArray, List.getElem_cons_succ, List.getElem_cons_zero]
          go_wp2_with (fail)
          refine ⟨mkStepX, ?_⟩
          refine rg_done (by kernel_rfl) ?_
          obtain ⟨g1, rfl, hg1, hg2⟩ := own_addr hown1 (by omega)
          have n1 : g1 = g ∨ w.heap.size ≤ g1 := by have := hb1 g1 (by simp [blk]); simp [blk] at this; omega
          have nb1 : NeB p g1 := ⟨by omega⟩
          replace hown1 := hid hown1
          go_wp2
          go_ret
          refine ⟨g1, _, _, rr.out.trans (r2.out), rfl, fun _ => ⟨⟨cap1, ?_, ?_⟩, nb1.ne.symm, hbp⟩, n1, mkStepX⟩
          · show BoxL _ _ (iv M sg loc (s.take 1).h (.slice (some ⟨g1, 0, none⟩) ((s.lo ++ [s.t]).length + 1) cap1))
            rw [List.length_append]
            first | exact boxSet (iv_st ..) | exact boxSetD (iv_st ..)
          · show World.ownsRow _ _ _ _ (.slice _ ((s.lo ++ [s.t]).length + 1) _) ((s.lo ++ [s.t]).length + 1) _
            rw [List.length_append]
            exact ownsRow_fr hown1.out (FrX.fr (S := [p])) (by simp only [blk, List.mem_singleton]; rintro x rfl; exact nb1.ne.symm)
  · have r := hid (flow_5 (R := sg.results) (s := s) (i := ⟨5, a, b⟩) rfl)
    go_enter Tryd.func24, Tryd.ntmps24
    go_wp2_with fail
    with_reducible refine Calls.mono (ilast (s := s) _ hl) ?_
    rintro e w1 ⟨rfl, st1⟩
    go_wp2_with fail
    with_reducible refine Calls.mono (icloses (s := s) _ v hK) ?_
    rintro e w2 ⟨rfl, hS2, st2⟩
    obtain ⟨⟨cap, bx, own⟩, -, -⟩ := id hS2
    obtain ⟨⟨c0, c1, c2, c3, c4⟩, f3, f4⟩ := ib_top own
    replace c3 : w2.cell? ⟨g, s.lo.length * 5 + 3, none⟩ = some (.bool (decide (s.t.op = 4))) := c3
    replace c4 : w2.cell? ⟨g, s.lo.length * 5 + 4, none⟩ = some (.bool s.t.dead) := c4
    replace f3 : w2.frozen? ⟨g, s.lo.length * 5 + 3, none⟩ = false := f3
    replace f4 : w2.frozen? ⟨g, s.lo.length * 5 + 4, none⟩ = false := f4
    clear c0 c1 c2
    have og2 : Old g w2 := ⟨block_lt_of_cell c4⟩
    have own2 := own_setN (s.lo.length * 5 + 4) (.bool false) own
    have own3 := own_setN (s.lo.length * 5 + 3) (.bool false) own2
    obtain ⟨sh0, rfl, rfl⟩ := sh_else rfl hs
    have h4 : s.t.op = 4 := by
      have h1 := congrArg List.getLast? (InvL.ops v)
      rw [show (false :: (sh0 ++ [true])).getLast? = some true from last_snoc (false :: sh0) true] at h1
      simpa [key] using h1
    have e1 : ((s.all.flatMap ifr).set (s.lo.length * 5 + 4) (.bool false)).set (s.lo.length * 5 + 3) (.bool false) = s.els.all.flatMap ifr := by
      have h1 := row_top (t' := (⟨s.t.op, s.t.res, s.t.base, false⟩ : Frm)) ifr_len s.lo s.t 4 (.bool false) rfl
      rw [ChkS.all, h1]
      exact row_top (t' := s.els.t) ifr_len s.lo ⟨s.t.op, s.t.res, s.t.base, false⟩ 3 (.bool false) (by simp [ifr, h4, ChkS.els])
    replace own3 : World.ownsRow _ B 72 5 (.slice (some ⟨g, 0, none⟩) (s.lo.length + 1) cap) (s.lo.length + 1) (((s.all.flatMap ifr).set (s.lo.length * 5 + 4) (.bool false)).set (s.lo.length * 5 + 3) (.bool false)) := own3
    rw [e1] at own3
    replace own := hid own
    replace own2 := hid own2
    replace own3 := hid own3
    replace h4 := hid h4
    clear e1
    go_wp2
    go_ret
    refine ⟨g, _, _, rr.out.trans r.out, rfl, fun hc => ⟨⟨cap, ?_, own3.out⟩, hne, hbp⟩, .inl rfl, mkStepX⟩
    have e2 := close_h hc
    replace bx : BoxL w2 p (iv M sg loc (tkH s.h s.t.base s.t.res) (.slice (some ⟨g, 0, none⟩) (s.lo.length + 1) cap)) := bx
    rw [e2] at bx
    exact boxOf
  · obtain ⟨b0, rfl⟩ := sh_end rfl hs
    obtain ⟨h0, lo, t⟩ := s
    rcases nil_or_snoc lo with rfl | ⟨L, u, rfl⟩
    · have := v.len; simp at this
    have r := hid (flow_11 (R := sg.results) (s := ⟨h0, L ++ [u], t⟩) (i := ⟨11, a, b⟩) rfl)
    rw [ChkS.pop_snoc] at r
    have hE := fun w9 (h9 : IB w9 p B g M sg loc ⟨h0, L ++ [u], t⟩) => iend (h0 := h0) (L := L) (u := u) (t := t) w9 v hK (hS := h9)
    obtain ⟨q, hq⟩ : ∃ q, (ChkS.closeB ⟨h0, L ++ [u], t⟩ && !(decide (t.op = 4) && decide (0 < t.res))) = q := ⟨_, rfl⟩
    simp only [hq] at hE r
    replace hq := hid hq
    go_enter Tryd.func24, Tryd.ntmps24
    go_wp2_with fail
    with_reducible refine Calls.mono (hE _ inferInstance) ?_
    rintro e w1 ⟨rfl, hS1, st1⟩
    go_wp2
    go_ret
    exact ⟨g, _, _, rr.out.trans r.out, rfl, fun _ => inferInstance, .inl rfl, mkStepX⟩
end Go.Proofs.YtpaekgeopmifeaaDoor
