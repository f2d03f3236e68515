/- Contracts: what goes through a body, spec's side: what opens, closes and leaves. Contracts: what goes through a body, spec's side: signatures; what is named; what is taken and put. -/
import Derived.Test.YtpaekgeopmifeaaDoorK15
namespace Go.Proofs.YtpaekgeopmifeaaDoor
attribute [local go_sem ↓] Go.wp_at_zero Go.wp_at_succ
open Go.RowKit
open Rep (Is sz)

set_option maxRecDepth 10000 in
theorem sflow_no {p : Nat} (i : InsD) (w : World) (h : flowOp i.op = false) :
    Calls Tryd.prog 28 #[.pointer (some ⟨p, 0, none⟩), .agg #[.int .i64 i.op, .int .i64 i.a, .int .i64 i.b]] w fun e w' => e = .returned (.bool false) ∧ Step w w' := by
  simp only [flowOp, decide_eq_false_iff_not] at h
  have n0 : (i.op == 0) = false := beq_eq_false_iff_ne.2 (by omega)
  have n2 : (i.op == 2) = false := beq_eq_false_iff_ne.2 (by omega)
  have n3 : (i.op == 3) = false := beq_eq_false_iff_ne.2 (by omega)
  have n4 : (i.op == 4) = false := beq_eq_false_iff_ne.2 (by omega)
  have n5 : (i.op == 5) = false := beq_eq_false_iff_ne.2 (by omega)
  have n11 : (i.op == 11) = false := beq_eq_false_iff_ne.2 (by omega)
  have n12 : (i.op == 12) = false := beq_eq_false_iff_ne.2 (by omega)
  have n13 : (i.op == 13) = false := beq_eq_false_iff_ne.2 (by omega)
  have n15 : (i.op == 15) = false := beq_eq_false_iff_ne.2 (by omega)
  clear h
  go_enter Tryd.func28, Tryd.ntmps28
  go_wp2
  go_ret
  exact ⟨rfl, mkStep⟩

theorem stake0 {p B g : Nat} {M : MH} {loc : Int} {s : ChkS} (n : Int) (w : World) (hn : 0 ≤ n ∧ n ≤ 1000) (hh : 0 ≤ s.t.base ∧ s.t.base ≤ s.h ∧ s.h ≤ 10000) [hS : SB w p B g M loc s false] :
    Calls Tryd.prog 31 #[.pointer (some ⟨p, 0, none⟩), .int .i64 n] w fun e w' => e = .returned (.tuple #[]) ∧ SB w' p B g M loc (s.take n) (!s.takeB n) ∧ StepX [p] w w' :=
  (stakeI (s := s) (bad := false) n w hn hh).mono fun _ _ h => by simpa using h
theorem sclose0 {p B g : Nat} {M : MH} {loc R : Int} {K : Nat} {sh : List Bool} {s : ChkS} (w : World) (v : Inv R K sh s) (hK : K ≤ 9000) [hS : SB w p B g M loc s false] :
    Calls Tryd.prog 27 #[.pointer (some ⟨p, 0, none⟩)] w fun e w' => e = .returned (.tuple #[]) ∧ SB w' p B g M loc (s.take s.t.res) (!s.closeB) ∧ StepX [p] w w' :=
  (sclose (bad := false) w v hK).mono fun _ _ h => by simpa using h

set_option maxRecDepth 10000 in
set_option maxHeartbeats 2000000 in
theorem sflow {p B g : Nat} {M : MH} {loc R : Int} {K : Nat} {sh sh' : List Bool} {s : ChkS} (i : InsD) (w : World) (h : flowOp i.op = true) (v : Inv R K sh s) (hK : K ≤ 9000) (hR : 0 ≤ R ∧ R ≤ 1) (hi : insOk i = true) (hs : shStep sh i.op = some sh') [hS : SB w p B g M loc s false] :
    Calls Tryd.prog 28 #[.pointer (some ⟨p, 0, none⟩), .agg #[.int .i64 i.op, .int .i64 i.a, .int .i64 i.b]] w fun e w' => e = .returned (.bool true) ∧ ∃ g' b' s', flowC R s i = (b', s') ∧ SB w' p B g' M loc s' (!b') ∧ (g' = g ∨ w.heap.size ≤ g') ∧ StepX [p, g] w w' := by
  simp only [flowOp, decide_eq_true_eq] at h
  have hv := v.nums
  have hlt := hS.lt
  have hne := hS.ne
  have nb : NeB g p := ⟨hne⟩
  have nb' : NeB p g := ⟨hne.symm⟩
  have ag : Arg g w := ⟨hlt.2.1⟩
  have ap : Arg p w := ⟨hlt.1⟩
  have og : Old g w := ⟨hlt.2.1⟩
  have opp : Old p w := ⟨hlt.1⟩
  have hk1 := ins_kind1 hi
  have hk2 := ins_kind2 hi
  obtain ⟨op, a, b⟩ := i
  simp only at h hk1 hk2
  rcases h with rfl | rfl | rfl | rfl | rfl | rfl | rfl | rfl | rfl
  · clear hk1 hk2
    have r := hid (flow_0 (R := R) (s := s) (i := ⟨0, a, b⟩) rfl)
    go_enter Tryd.func28, Tryd.ntmps28
    go_wp2_with fail
    with_reducible refine Calls.mono (sdie (s := s) (bad := false) _ (by omega)) ?_
    rintro e w1 ⟨rfl, hS1, st1⟩
    go_wp2
    go_ret
    exact ⟨rfl, g, _, _, r.out, hS1, .inl rfl, mkStepX⟩
  · clear hk1 hk2
    have r := hid (flow_23 (R := R) (s := s) (i := ⟨2, a, b⟩) (.inl rfl))
    go_enter Tryd.func28, Tryd.ntmps28
    go_wp2_with fail
    with_reducible refine Calls.mono (sopen (s := s) (bad := false) 2 a _ (by omega)) ?_
    rintro e w1 ⟨rfl, g1, hS1, hg1, st1⟩
    go_wp2
    go_ret
    exact ⟨rfl, g1, _, _, r.out, hS1, by simp at hg1; omega, mkStepX⟩
  · clear hk1 hk2
    have r := hid (flow_23 (R := R) (s := s) (i := ⟨3, a, b⟩) (.inr rfl))
    go_enter Tryd.func28, Tryd.ntmps28
    go_wp2_with fail
    with_reducible refine Calls.mono (sopen (s := s) (bad := false) 3 a _ (by omega)) ?_
    rintro e w1 ⟨rfl, g1, hS1, hg1, st1⟩
    go_wp2
    go_ret
    exact ⟨rfl, g1, _, _, r.out, hS1, by simp at hg1; omega, mkStepX⟩
  · clear hk1 hk2
    have r := hid (flow_4 (R := R) (s := s) (i := ⟨4, a, b⟩) rfl)
    go_enter Tryd.func28, Tryd.ntmps28
    go_wp2_with fail
    with_reducible refine Calls.mono (stake0 (s := s) 1 _ (by omega) (by omega)) ?_
    rintro e w1 ⟨rfl, hS1, st1⟩
    have hgr := st1.fr.size
    go_wp2_with fail
    with_reducible refine Calls.mono (sopen (s := s.take 1) (bad := !s.takeB 1) 4 a _ (by simp only [ChkS.take]; omega)) ?_
    rintro e w2 ⟨rfl, g1, hS2, hg1, st2⟩
    go_wp2
    go_ret
    exact ⟨rfl, g1, _, _, r.out, hS2, by simp at hgr; omega, mkStepX⟩
  · clear hk1 hk2
    have r := hid (flow_5 (R := R) (s := s) (i := ⟨5, a, b⟩) rfl)
    go_enter Tryd.func28, Tryd.ntmps28
    go_wp2_with fail
    with_reducible refine Calls.mono (sclose0 (s := s) _ v hK) ?_
    rintro e w1 ⟨rfl, hS1, st1⟩
    obtain ⟨⟨cap, bx, own⟩, -, bp⟩ := hS1
    obtain ⟨⟨c0, c1, c2, c3⟩, f0, f1, f2, f3⟩ := sb_top own
    have hcap := sb_size own
    replace c0 : w1.cell? ⟨g, s.lo.length * 4, none⟩ = some (.int .i64 s.t.op) := c0
    replace c2 : w1.cell? ⟨g, s.lo.length * 4 + 2, none⟩ = some (.int .i64 s.t.base) := c2
    replace c3 : w1.cell? ⟨g, s.lo.length * 4 + 3, none⟩ = some (.bool s.t.dead) := c3
    replace f0 : w1.frozen? ⟨g, s.lo.length * 4, none⟩ = false := f0
    replace f3 : w1.frozen? ⟨g, s.lo.length * 4 + 3, none⟩ = false := f3
    replace bx : BoxL w1 p (sv M loc (tkH s.h s.t.base s.t.res) (.slice (some ⟨g, 0, none⟩) (s.lo.length + 1) cap) (!s.closeB)) := bx
    replace hcap : s.lo.length + 1 ≤ cap ∧ cap ≤ 9223372036854775807 := hcap
    have og1 : Old g w1 := ⟨block_lt_of_cell c0⟩
    have op1 := bx.old
    have own2 := own_setN (s.lo.length * 4) (.int .i64 5) (ownsRow_fr own ((Fr.refl [p] w1).setCell (p := ⟨p, 9, none⟩) (.inl (by simp)) (.int .i64 s.t.base)) (by simp only [blk, List.mem_singleton]; rintro x rfl; exact hne))
    have own3 := own_setN (s.lo.length * 4 + 3) (.bool false) own2
    have e1 : ((s.all.flatMap sfr).set (s.lo.length * 4) (.int .i64 5)).set (s.lo.length * 4 + 3) (.bool false) = s.els.all.flatMap sfr := by
      have h1 := row_top (t' := (⟨5, s.t.res, s.t.base, s.t.dead⟩ : Frm)) sfr_len s.lo s.t 0 (.int .i64 5) rfl
      rw [Nat.add_zero] at h1
      rw [ChkS.all, h1]
      exact row_top (t' := s.els.t) sfr_len s.lo ⟨5, s.t.res, s.t.base, s.t.dead⟩ 3 (.bool false) rfl
    replace own3 : World.ownsRow _ B 52 4 (.slice (some ⟨g, 0, none⟩) (s.lo.length + 1) cap) (s.lo.length + 1) (((s.all.flatMap sfr).set (s.lo.length * 4) (.int .i64 5)).set (s.lo.length * 4 + 3) (.bool false)) := own3
    rw [e1] at own3
    replace own := hid own
    replace own2 := hid own2
    replace own3 := hid own3
    clear e1
    go_wp2
    go_ret
    have b1 : BoxL (w1.setCell ⟨p, 9, none⟩ (.int .i64 s.t.base)) p (sv M loc s.t.base (.slice (some ⟨g, 0, none⟩) (s.lo.length + 1) cap) (!s.closeB)) := boxSet (sv_h ..)
    exact ⟨rfl, g, _, _, r.out, ⟨⟨cap, boxOf, own3.out⟩, hne, bp⟩, .inl rfl, mkStepX⟩
  · clear hk1 hk2
    obtain ⟨b0, rfl⟩ := sh_end rfl hs
    obtain ⟨h0, lo, t⟩ := s
    rcases nil_or_snoc lo with rfl | ⟨L, u, rfl⟩
    · have := v.len; simp at this
    have r := hid (flow_11 (R := R) (s := ⟨h0, L ++ [u], t⟩) (i := ⟨11, a, b⟩) rfl)
    rw [ChkS.pop_snoc] at r
    go_enter Tryd.func28, Tryd.ntmps28
    go_wp2_with fail
    with_reducible refine Calls.mono (sclose0 (s := ⟨h0, L ++ [u], t⟩) _ v hK) ?_
    rintro e w1 ⟨rfl, hS1, st1⟩
    obtain ⟨⟨cap, bx, own⟩, -, bp⟩ := hS1
    obtain ⟨⟨c0, c1, c2, c3⟩, f0, f1, f2, f3⟩ := sb_top own
    have hcap := sb_size own
    have el : (L ++ [u]).length = L.length + 1 := by simp
    simp only [ChkS.take, el] at c0 c1 c2 c3 hcap bx own
    have og1 : Old g w1 := ⟨block_lt_of_cell c0⟩
    have op1 := bx.old
    have own2 := own_pre (L.length + 1) own (by omega)
    have e1 : ((ChkS.all ⟨tkH h0 t.base t.res, L ++ [u], t⟩).flatMap sfr).take ((L.length + 1) * 4) = (L ++ [u]).flatMap sfr := by
      have h1 := flat_len sfr 4 sfr_len (L ++ [u])
      rw [el] at h1
      show (((L ++ [u]) ++ [t]).flatMap sfr).take _ = _
      rw [List.flatMap_append, List.take_append_of_le_length (by omega), ← h1, List.take_length]
    rw [e1] at own2
    have hL : L.length ≤ 9000 := by have := hv.2.2.2.1; simp at this; omega
    have hv2 : 0 ≤ t.base ∧ t.base ≤ h0 ∧ h0 ≤ K ∧ 0 ≤ t.res ∧ t.res ≤ 1 := ⟨hv.1, hv.2.1, hv.2.2.1, hv.2.2.2.2.1, hv.2.2.2.2.2⟩
    clear e1 el own hv v hs
    obtain ⟨cl, hcl⟩ : ∃ cl, ChkS.closeB ⟨h0, L ++ [u], t⟩ = cl := ⟨_, rfl⟩
    simp only [hcl] at bx r
    by_cases h4 : t.op = 4
    · have h4b : (t.op == 4) = true := beq_iff_eq.2 h4
      have d4 := hid (decide_eq_true h4)
      replace h4 := hid h4
      by_cases hr : 0 < t.res
      · have r3 := hid (show flowC R ⟨h0, L ++ [u], t⟩ ⟨11, a, b⟩ = (false, ⟨t.base + t.res, L, u⟩) by rw [r.out, d4.out, decide_eq_true hr]; cases cl <;> rfl)
        replace own2 := hid own2
        go_wp2
        go_ret
        have b1 : BoxL (w1.setCell ⟨p, 11, none⟩ (.bool true)) p (sv M loc (tkH h0 t.base t.res) (.slice (some ⟨g, 0, none⟩) (L.length + 1 + 1) cap) true) := boxSet (sv_bad ..)
        have b2 : BoxL ((w1.setCell ⟨p, 11, none⟩ (.bool true)).setCell ⟨p, 10, none⟩ (.slice (some ⟨g, 0, none⟩) (L.length + 1) cap)) p (sv M loc (tkH h0 t.base t.res) (.slice (some ⟨g, 0, none⟩) (L.length + 1) cap) true) := boxSet (sv_st ..)
        have b3 : BoxL (((w1.setCell ⟨p, 11, none⟩ (.bool true)).setCell ⟨p, 10, none⟩ (.slice (some ⟨g, 0, none⟩) (L.length + 1) cap)).setCell ⟨p, 9, none⟩ (.int .i64 (t.base + t.res))) p (sv M loc (t.base + t.res) (.slice (some ⟨g, 0, none⟩) (L.length + 1) cap) true) := boxSet (sv_h ..)
        exact ⟨rfl, g, _, _, r3.out, ⟨⟨cap, boxOf, ownsRow_fr own2.out (FrX.fr (S := [p])) (by simp only [blk, List.mem_singleton]; rintro x rfl; exact hne)⟩, hne, bp⟩, .inl rfl, mkStepX⟩
      · have r3 := hid (show flowC R ⟨h0, L ++ [u], t⟩ ⟨11, a, b⟩ = (cl, ⟨t.base + t.res, L, u⟩) by rw [r.out, d4.out, decide_eq_false hr]; cases cl <;> rfl)
        replace own2 := hid own2
        go_wp2
        go_ret
        have b2 : BoxL (w1.setCell ⟨p, 10, none⟩ (.slice (some ⟨g, 0, none⟩) (L.length + 1) cap)) p (sv M loc (tkH h0 t.base t.res) (.slice (some ⟨g, 0, none⟩) (L.length + 1) cap) (!cl)) := boxSet (sv_st ..)
        have b3 : BoxL ((w1.setCell ⟨p, 10, none⟩ (.slice (some ⟨g, 0, none⟩) (L.length + 1) cap)).setCell ⟨p, 9, none⟩ (.int .i64 (t.base + t.res))) p (sv M loc (t.base + t.res) (.slice (some ⟨g, 0, none⟩) (L.length + 1) cap) (!cl)) := boxSet (sv_h ..)
        exact ⟨rfl, g, _, _, r3.out, ⟨⟨cap, boxOf, ownsRow_fr own2.out (FrX.fr (S := [p])) (by simp only [blk, List.mem_singleton]; rintro x rfl; exact hne)⟩, hne, bp⟩, .inl rfl, mkStepX⟩
    · have h4b : (t.op == 4) = false := beq_eq_false_iff_ne.2 h4
      have r3 := hid (show flowC R ⟨h0, L ++ [u], t⟩ ⟨11, a, b⟩ = (cl, ⟨t.base + t.res, L, u⟩) by rw [r.out, decide_eq_false h4]; cases cl <;> rfl)
      replace h4 := hid h4
      replace own2 := hid own2
      go_wp2
      go_ret
      have b2 : BoxL (w1.setCell ⟨p, 10, none⟩ (.slice (some ⟨g, 0, none⟩) (L.length + 1) cap)) p (sv M loc (tkH h0 t.base t.res) (.slice (some ⟨g, 0, none⟩) (L.length + 1) cap) (!cl)) := boxSet (sv_st ..)
      have b3 : BoxL ((w1.setCell ⟨p, 10, none⟩ (.slice (some ⟨g, 0, none⟩) (L.length + 1) cap)).setCell ⟨p, 9, none⟩ (.int .i64 (t.base + t.res))) p (sv M loc (t.base + t.res) (.slice (some ⟨g, 0, none⟩) (L.length + 1) cap) (!cl)) := boxSet (sv_h ..)
      exact ⟨rfl, g, _, _, r3.out, ⟨⟨cap, boxOf, ownsRow_fr own2.out (FrX.fr (S := [p])) (by simp only [blk, List.mem_singleton]; rintro x rfl; exact hne)⟩, hne, bp⟩, .inl rfl, mkStepX⟩
  · clear hk1
    have hk := hk2 (.inl rfl)
    clear hk2
    have hlb := labelC_le (a := a) v.res
    have r := hid (flow_12 (R := R) (s := s) (i := ⟨12, a, b⟩) rfl)
    obtain ⟨k, hkk⟩ : ∃ k, labelC s.all a = k := ⟨_, rfl⟩
    simp only [hkk] at r hlb
    go_enter Tryd.func28, Tryd.ntmps28
    go_wp2_with fail
    with_reducible refine Calls.mono (slabel (s := s) (bad := false) a _ hk (by omega)) ?_
    rintro e w1 ⟨rfl, st1⟩
    rw [hkk]
    replace hkk := hid hkk
    by_cases hk0 : k < 0
    · have r2 := hid (r.out.trans (if_pos hk0))
      clear r
      obtain ⟨⟨cap, bx, own⟩, -, bp⟩ := id hS
      have own1 : w1.ownsRow B 52 4 (.slice (some ⟨g, 0, none⟩) (s.lo.length + 1) cap) (s.lo.length + 1) (s.all.flatMap sfr) := own_keep own
      have own3 := hid (ownsRow_fr own1 ((Fr.refl [p] w1).setCell (p := ⟨p, 11, none⟩) (.inl (by simp)) (.bool true)) (by simp only [blk, List.mem_singleton]; rintro x rfl; exact hne))
      replace own := hid own
      replace own1 := hid own1
      go_wp2
      go_ret
      exact ⟨rfl, g, _, _, r2.out, ⟨⟨cap, boxSet (sv_bad ..), own3.out⟩, hne, bp⟩, .inl rfl, mkStepX⟩
    · have r2 := hid (r.out.trans (if_neg hk0))
      clear r
      go_wp2_with fail
      with_reducible refine Calls.mono (stake0 (s := s) k _ (by omega) (by omega)) ?_
      rintro e w2 ⟨rfl, hS2, st2⟩
      go_wp2_with fail
      with_reducible refine Calls.mono (sdie (s := s.take k) (bad := !s.takeB k) _ (by simp only [ChkS.take]; omega)) ?_
      rintro e w3 ⟨rfl, hS3, st3⟩
      go_wp2
      go_ret
      exact ⟨rfl, g, _, _, r2.out, hS3, .inl rfl, mkStepX⟩
  · clear hk1
    have hk := hk2 (.inr (.inl rfl))
    clear hk2
    have hlb := labelC_le (a := a) v.res
    have r := hid (flow_13 (R := R) (s := s) (i := ⟨13, a, b⟩) rfl)
    obtain ⟨k, hkk⟩ : ∃ k, labelC s.all a = k := ⟨_, rfl⟩
    simp only [hkk] at r hlb
    go_enter Tryd.func28, Tryd.ntmps28
    go_wp2_with fail
    with_reducible refine Calls.mono (slabel (s := s) (bad := false) a _ hk (by omega)) ?_
    rintro e w1 ⟨rfl, st1⟩
    rw [hkk]
    replace hkk := hid hkk
    by_cases hk0 : k < 0
    · have r2 := hid (r.out.trans (if_pos hk0))
      clear r
      obtain ⟨⟨cap, bx, own⟩, -, bp⟩ := id hS
      have own1 : w1.ownsRow B 52 4 (.slice (some ⟨g, 0, none⟩) (s.lo.length + 1) cap) (s.lo.length + 1) (s.all.flatMap sfr) := own_keep own
      have own3 := hid (ownsRow_fr own1 ((Fr.refl [p] w1).setCell (p := ⟨p, 11, none⟩) (.inl (by simp)) (.bool true)) (by simp only [blk, List.mem_singleton]; rintro x rfl; exact hne))
      replace own := hid own
      replace own1 := hid own1
      go_wp2
      go_ret
      exact ⟨rfl, g, _, _, r2.out, ⟨⟨cap, boxSet (sv_bad ..), own3.out⟩, hne, bp⟩, .inl rfl, mkStepX⟩
    · have r2 := hid (r.out.trans (if_neg hk0))
      clear r
      have t1 := tkH_ge (h := s.h) (b := s.t.base) (n := 1 + k)
      have t2 := tkH_le (h := s.h) (b := s.t.base) (n := 1 + k) (by omega) (by omega)
      go_wp2_with fail
      with_reducible refine Calls.mono (stake0 (s := s) (1 + k) _ (by omega) (by omega)) ?_
      rintro e w2 ⟨rfl, hS2, st2⟩
      obtain ⟨⟨cap, bx, own⟩, -, bp⟩ := hS2
      replace bx : BoxL w2 p (sv M loc (tkH s.h s.t.base (1 + k)) (.slice (some ⟨g, 0, none⟩) (s.lo.length + 1) cap) (!s.takeB (1 + k))) := bx
      have own3 := hid (ownsRow_fr own ((Fr.refl [p] w2).setCell (p := ⟨p, 9, none⟩) (.inl (by simp)) (.int .i64 (tkH s.h s.t.base (1 + k) + k))) (by simp only [blk, List.mem_singleton]; rintro x rfl; exact hne))
      replace own := hid own
      have op2 := bx.old
      go_wp2
      go_ret
      exact ⟨rfl, g, _, _, r2.out, ⟨⟨cap, boxSet (sv_h ..), own3.out⟩, hne, bp⟩, .inl rfl, mkStepX⟩
  · clear hk1 hk2
    have r := hid (flow_15 (R := R) (s := s) (i := ⟨15, a, b⟩) rfl)
    obtain ⟨⟨cap, bx, own⟩, -, bp⟩ := id hS
    have hz : 0 < s.all.length := by rw [all_len]; omega
    have c1 := (own_row_at sfr_len own 0 hz 1 _ rfl).1
    have hz2 : s.all[0].res = R := by
      have := v.ret
      rw [List.head?_eq_getElem?, List.getElem?_eq_getElem hz] at this
      simpa using this
    rw [hz2] at c1
    replace c1 : w.cell? ⟨g, 1, none⟩ = some (.int .i64 R) := by simpa using c1
    have hcap := sb_size own
    clear hz2
    replace own := hid own
    go_enter Tryd.func28, Tryd.ntmps28
    go_wp2_with fail
    with_reducible refine Calls.mono (stake0 (s := s) R _ (by omega) (by omega)) ?_
    rintro e w2 ⟨rfl, hS2, st2⟩
    go_wp2_with fail
    with_reducible refine Calls.mono (sdie (s := s.take R) (bad := !s.takeB R) _ (by simp only [ChkS.take]; omega)) ?_
    rintro e w3 ⟨rfl, hS3, st3⟩
    go_wp2
    go_ret
    exact ⟨rfl, g, _, _, r.out, hS3, .inl rfl, mkStepX⟩
end Go.Proofs.YtpaekgeopmifeaaDoor
namespace Go.Proofs.YtpaekgeopmifeaaDoor
attribute [local go_sem ↓] Go.wp_at_zero Go.wp_at_succ
open Go.RowKit
open Rep (Is sz)

theorem sigC_no {m : ModuleD} {a : Int} (h : a < 0 ∨ (m.imports.length : Int) + m.funcs.length ≤ a) : sigC m a = none := if_pos h
theorem sigC_imp {m : ModuleD} {k q : Nat} (h : k < m.imports.length) (hq : q < m.sigs.length) (e : m.imports[k].sig = (q : Int)) : sigC m (k : Int) = some m.sigs[q] := by
  unfold sigC
  rw [if_neg (by omega), if_pos (by omega), Int.toNat_natCast, List.getElem?_eq_getElem h]
  show m.sigs[m.imports[k].sig.toNat]? = _
  rw [e, Int.toNat_natCast, List.getElem?_eq_getElem hq]
theorem sigC_fun {m : ModuleD} {a k q : Nat} (ha : a = m.imports.length + k) (h : k < m.funcs.length) (hq : q < m.sigs.length) (e : m.funcs[k].sig = (q : Int)) : sigC m (a : Int) = some m.sigs[q] := by
  unfold sigC
  rw [if_neg (by omega), if_neg (by omega), show ((a : Int) - (m.imports.length : Int)).toNat = k by omega, List.getElem?_eq_getElem h]
  show m.sigs[m.funcs[k].sig.toNat]? = _
  rw [e, Int.toNat_natCast, List.getElem?_eq_getElem hq]

/-- Signatures that are named are there. -/
structure SigIn (m : ModuleD) : Prop where
  z1 : (m.imports.length : Int) + m.funcs.length ≤ 60
  imps : ∀ x ∈ m.imports, 0 ≤ x.sig ∧ x.sig < m.sigs.length
  fns : ∀ x ∈ m.funcs, 0 ≤ x.sig ∧ x.sig < m.sigs.length
theorem PartsP.sigIn {m : ModuleD} (pa : PartsP m) : SigIn m := ⟨pa.z1, fun x hx => ⟨(pa.imps x hx).s0, (pa.imps x hx).s1⟩, fun x hx => ⟨(pa.fns x hx).s0, (pa.fns x hx).s1⟩⟩

set_option maxHeartbeats 1000000 in
theorem ssig {F : List Nat} {cs : List Value} (m : ModuleD) (a : Int) (w : World) (pa : SigIn m) [h : Shows w F m cs] :
    Calls Tryd.prog 50 #[.agg cs.toArray, .int .i64 a] w fun e w' => e = .returned (.tuple #[.agg #[.int .i64 ((sigC m a).getD ⟨0, 0⟩).params, .int .i64 ((sigC m a).getD ⟨0, 0⟩).results], .bool (sigC m a).isSome]) ∧ Step w w' := by
  have kk := h.known
  obtain ⟨a1, k1, a2, k2, a3, k3, a4, k4, a5, k5, a6, k6, F1, F2, F3, F4, F5, F6, rfl, rfl, h1, h2, h3, h4, h5, h6, i3, i4⟩ := module_open h.is
  clear h
  obtain ⟨_, _, cl1, FF1, hv, _, hvw1, hr1, hml1⟩ := list_open h1
  cases hv
  unfold maxLen at hml1
  obtain ⟨_, _, cl2, FF2, hv, _, hvw2, hr2, hml2⟩ := list_open h2
  cases hv
  unfold maxLen at hml2
  obtain ⟨_, _, cl3, FF3, hv, _, hvw3, hr3, hml3⟩ := list_open h3
  cases hv
  unfold maxLen at hml3
  have z1 := pa.z1
  by_cases ha : a < 0 ∨ (m.imports.length : Int) + m.funcs.length ≤ a
  · have r := hid (sigC_no ha)
    go_enter Tryd.func50, Tryd.ntmps50
    by_cases h0 : a < 0
    · clear ha
      go_wp2
      refine bodyPost_ret (v := .tuple #[.agg #[.int .i64 0, .int .i64 0], .bool false]) (by simp [results, Tryd.results50, go_sem]) rfl ?_
      exact ⟨by rw [r.out]; rfl, mkStep⟩
    · have h1 : (m.imports.length : Int) + m.funcs.length ≤ a := by omega
      clear ha
      go_wp2
      refine bodyPost_ret (v := .tuple #[.agg #[.int .i64 0, .int .i64 0], .bool false]) (by simp [results, Tryd.results50, go_sem]) rfl ?_
      exact ⟨by rw [r.out]; rfl, mkStep⟩
  · obtain ⟨k, rfl⟩ := Int.eq_ofNat_of_zero_le (a := a) (by omega)
    by_cases hk : k < m.imports.length
    · obtain ⟨q, hq⟩ := Int.eq_ofNat_of_zero_le (pa.imps _ (List.getElem_mem hk)).1
      have hq2 : q < m.sigs.length := by have := (pa.imps _ (List.getElem_mem hk)).2; omega
      have r := hid (sigC_imp hk hq2 hq)
      obtain ⟨be, oe, Ge, cse, rfl, hGe, hIe, hce, hoe⟩ := hvw2.row hr2 rfl (by decide) k hk
      have hI0e := hIe
      obtain ⟨rfl, rfl, i0e, i1e, i2e⟩ := import_open hI0e
      have kee : Known w _ m.imports[k] _ := ⟨hIe⟩
      have c0e := (hce 0 _ rfl).1
      replace c0e : w.cell? ⟨be, oe + k * 3, none⟩ = _ := c0e
      have c1e := (hce 1 _ rfl).1
      replace c1e : w.cell? ⟨be, oe + k * 3 + 1, none⟩ = _ := c1e
      have c2e := (hce 2 _ rfl).1
      replace c2e : w.cell? ⟨be, oe + k * 3 + 2, none⟩ = _ := c2e
      clear hce
      obtain ⟨bf, of, Gf, csf, rfl, hGf, hIf, hcf, hof⟩ := hvw1.row hr1 rfl (by decide) q hq2
      have hI0f := hIf
      obtain ⟨rfl, rfl, i0f, i1f⟩ := sig_open hI0f
      have kef : Known w _ m.sigs[q] _ := ⟨hIf⟩
      have c0f := (hcf 0 _ rfl).1
      replace c0f : w.cell? ⟨bf, of + q * 2, none⟩ = _ := c0f
      have c1f := (hcf 1 _ rfl).1
      replace c1f : w.cell? ⟨bf, of + q * 2 + 1, none⟩ = _ := c1f
      clear hcf
      have ha2 : (k : Int) < (m.imports.length : Int) + m.funcs.length := by omega
      clear ha
      rw [hq] at c2e
      replace hq := hid hq
      have nb1 : NeB bf (w.heap.size + 1) := ⟨by have := hof.lt; omega⟩
      have nb2 : NeB be (w.heap.size + 1) := ⟨by have := hoe.lt; omega⟩
      have nb3 : NeB w.heap.size (w.heap.size + 1) := ⟨by omega⟩
      go_enter Tryd.func50, Tryd.ntmps50
      go_wp2_with fail
      refine wp_name ?_
      intro A sA
      refine rg_beginX [w.heap.size + 1] (n := 12) (by kernel_rfl) rfl fun rg0 => ?_
      refine rg_read (i := 0) (a1 := _) rfl (by kernel_rfl) rfl (by simp) (by intro wq hwq; go_wp2; exact ⟨rfl, rfl⟩) mkStepX ?_
      refine rg_read (i := 1) (a1 := _) rfl (by kernel_rfl) rfl (by simp) (by intro wq hwq; go_wp2; exact ⟨rfl, rfl⟩) mkStepX ?_
      refine rg_read (i := 2) (a1 := _) rfl (by kernel_rfl) rfl (by simp) (by intro wq hwq; go_wp2; exact ⟨rfl, rfl⟩) mkStepX ?_
      refine rg_read (i := 3) (a1 := _) rfl (by kernel_rfl) rfl (by simp) (by intro wq hwq; go_wp2; exact ⟨rfl, rfl⟩) mkStepX ?_
      refine rg_read (i := 4) (a1 := _) rfl (by kernel_rfl) rfl (by simp) (by intro wq hwq; go_wp2; exact ⟨rfl, rfl⟩) mkStepX ?_
      refine rg_read (i := 5) (a1 := _) rfl (by kernel_rfl) rfl (by simp) (by intro wq hwq; go_wp2; exact ⟨rfl, rfl⟩) mkStepX ?_
      refine rg_read (i := 6) (a1 := _) rfl (by kernel_rfl) rfl (by simp) (by intro wq hwq; go_wp2; exact ⟨rfl, rfl⟩) mkStepX ?_
      refine rg_read (i := 7) (a1 := _) rfl (by kernel_rfl) rfl (by simp) (by intro wq hwq; go_wp2; exact ⟨rfl, rfl⟩) mkStepX ?_
      refine rg_read (i := 8) (a1 := _) rfl (by kernel_rfl) rfl (by simp) (by intro wq hwq; go_wp2; exact ⟨rfl, rfl⟩) mkStepX ?_
      refine rg_read (i := 9) (a1 := _) rfl (by kernel_rfl) rfl (by simp) (by intro wq hwq; go_wp2; exact ⟨rfl, rfl⟩) mkStepX ?_
      refine rg_eff (i := 10) rfl (by kernel_rfl) ?_
      simp only [List.getElem_toArray, List.getElem_cons_succ, List.getElem_cons_zero]
      go_wp2_with (fail)
      refine ⟨mkStepX, ?_⟩
      refine rg_read (i := 11) (a1 := _) rfl (by kernel_rfl) rfl (by simp) (by intro wq hwq; go_wp2; exact ⟨rfl, rfl⟩) mkStepX ?_
      refine rg_done (by kernel_rfl) ?_
      go_wp2
      refine bodyPost_ret (v := .tuple #[.agg #[.int .i64 m.sigs[q].params, .int .i64 m.sigs[q].results], .bool true]) (by simp [results, Tryd.results50, go_sem]) rfl ?_
      exact ⟨by rw [r.out]; rfl, mkStep⟩
    · obtain ⟨j, hj⟩ : ∃ j, k - m.imports.length = j := ⟨_, rfl⟩
      have hj2 : j < m.funcs.length := by omega
      have hkj : k = m.imports.length + j := by omega
      obtain ⟨q, hq⟩ := Int.eq_ofNat_of_zero_le (pa.fns _ (List.getElem_mem hj2)).1
      have hq2 : q < m.sigs.length := by have := (pa.fns _ (List.getElem_mem hj2)).2; omega
      have r := hid (sigC_fun hkj hj2 hq2 hq)
      obtain ⟨be, oe, Ge, cse, rfl, hGe, hIe, hce, hoe⟩ := hvw3.row hr3 rfl (by decide) j hj2
      have hI0e := hIe
      obtain ⟨a1e, k1e, F1e, rfl, rfl, h1e, i0e, i1e⟩ := func_open hI0e
      have kee : Known w _ m.funcs[j] _ := ⟨hIe⟩
      have c0e := (hce 0 _ rfl).1
      replace c0e : w.cell? ⟨be, oe + j * 3, none⟩ = _ := c0e
      have c1e := (hce 1 _ rfl).1
      replace c1e : w.cell? ⟨be, oe + j * 3 + 1, none⟩ = _ := c1e
      have c2e := (hce 2 _ rfl).1
      replace c2e : w.cell? ⟨be, oe + j * 3 + 2, none⟩ = _ := c2e
      clear hce
      obtain ⟨bf, of, Gf, csf, rfl, hGf, hIf, hcf, hof⟩ := hvw1.row hr1 rfl (by decide) q hq2
      have hI0f := hIf
      obtain ⟨rfl, rfl, i0f, i1f⟩ := sig_open hI0f
      have kef : Known w _ m.sigs[q] _ := ⟨hIf⟩
      have c0f := (hcf 0 _ rfl).1
      replace c0f : w.cell? ⟨bf, of + q * 2, none⟩ = _ := c0f
      have c1f := (hcf 1 _ rfl).1
      replace c1f : w.cell? ⟨bf, of + q * 2 + 1, none⟩ = _ := c1f
      clear hcf
      have ha2 : (k : Int) < (m.imports.length : Int) + m.funcs.length := by omega
      have ej : (k : Int) - (m.imports.length : Int) = (j : Int) := by omega
      clear ha
      rw [hq] at c0e
      replace hq := hid hq
      replace hkj := hid hkj
      clear hj
      have nb1 : NeB bf (w.heap.size + 1) := ⟨by have := hof.lt; omega⟩
      have nb2 : NeB be (w.heap.size + 1) := ⟨by have := hoe.lt; omega⟩
      have nb3 : NeB w.heap.size (w.heap.size + 1) := ⟨by omega⟩
      go_enter Tryd.func50, Tryd.ntmps50
      go_wp2_with fail
      refine wp_name ?_
      intro A sA
      refine rg_beginX [w.heap.size + 1] (n := 14) (by kernel_rfl) rfl fun rg0 => ?_
      refine rg_read (i := 0) (a1 := _) rfl (by kernel_rfl) rfl (by simp) (by intro wq hwq; go_wp2; exact ⟨rfl, rfl⟩) mkStepX ?_
      refine rg_read (i := 1) (a1 := _) rfl (by kernel_rfl) rfl (by simp) (by intro wq hwq; go_wp2; exact ⟨rfl, rfl⟩) mkStepX ?_
      refine rg_read (i := 2) (a1 := _) rfl (by kernel_rfl) rfl (by simp) (by intro wq hwq; go_wp2; exact ⟨rfl, rfl⟩) mkStepX ?_
      refine rg_read (i := 3) (a1 := _) rfl (by kernel_rfl) rfl (by simp) (by intro wq hwq; go_wp2; exact ⟨rfl, rfl⟩) mkStepX ?_
      refine rg_read (i := 4) (a1 := _) rfl (by kernel_rfl) rfl (by simp) (by intro wq hwq; go_wp2; exact ⟨rfl, rfl⟩) mkStepX ?_
      refine rg_read (i := 5) (a1 := _) rfl (by kernel_rfl) rfl (by simp) (by intro wq hwq; go_wp2; exact ⟨rfl, rfl⟩) mkStepX ?_
      refine rg_read (i := 6) (a1 := _) rfl (by kernel_rfl) rfl (by simp) (by intro wq hwq; go_wp2; exact ⟨rfl, rfl⟩) mkStepX ?_
      refine rg_read (i := 7) (a1 := _) rfl (by kernel_rfl) rfl (by simp) (by intro wq hwq; go_wp2; exact ⟨rfl, rfl⟩) mkStepX ?_
      refine rg_read (i := 8) (a1 := _) rfl (by kernel_rfl) rfl (by simp) (by intro wq hwq; go_wp2; exact ⟨rfl, rfl⟩) mkStepX ?_
      refine rg_read (i := 9) (a1 := _) rfl (by kernel_rfl) rfl (by simp) (by intro wq hwq; go_wp2; exact ⟨rfl, rfl⟩) mkStepX ?_
      refine rg_read (i := 10) (a1 := _) rfl (by kernel_rfl) rfl (by simp) (by intro wq hwq; go_wp2; exact ⟨rfl, rfl⟩) mkStepX ?_
      refine rg_read (i := 11) (a1 := _) rfl (by kernel_rfl) rfl (by simp) (by intro wq hwq; go_wp2; exact ⟨rfl, rfl⟩) mkStepX ?_
      refine rg_eff (i := 12) rfl (by kernel_rfl) ?_
      simp only [List.getElem_toArray, List.getElem_cons_succ, List.getElem_cons_zero]
      go_wp2_with (fail)
      refine ⟨mkStepX, ?_⟩
      refine rg_read (i := 13) (a1 := _) rfl (by kernel_rfl) rfl (by simp) (by intro wq hwq; go_wp2; exact ⟨rfl, rfl⟩) mkStepX ?_
      refine rg_done (by kernel_rfl) ?_
      go_wp2
      refine bodyPost_ret (v := .tuple #[.agg #[.int .i64 m.sigs[q].params, .int .i64 m.sigs[q].results], .bool true]) (by simp [results, Tryd.results50, go_sem]) rfl ?_
      exact ⟨by rw [r.out]; rfl, mkStep⟩
end Go.Proofs.YtpaekgeopmifeaaDoor
