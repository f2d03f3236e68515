/- Contracts: what goes through a body, spec's side: a step, the begin, FaultAt. Contracts: what goes through a body, impl's side: taking, closing. -/
import Derived.Test.YtfddmelikahfbaaGreatDoorKa
import Derived.Test.YtfddmelikahfbaaGreatDoorFormT
namespace Go.Proofs.YtfddmelikahfbaaGreatDoor
attribute [local go_sem ↓] Go.wp_at_zero Go.wp_at_succ
open Go.RowKit
open Rep (Is sz)

instance (priority := 95) box_newI {w : World} {C : Array Value} {e : TypeId} : BoxAt (w.alloc (.cells C e)) w.heap.size C := ⟨Box.new w C e⟩
theorem plain_no {m : ModuleD} {loc : Int} {s : ChkS} {i : InsD} (h : hasC m loc i = false) : plainC m loc s i = (false, s) := by unfold plainC; rw [h]; rfl
theorem plain_on {m : ModuleD} {loc : Int} {s : ChkS} {i : InsD} (h : hasC m loc i = true) : plainC m loc s i = (s.takeB (takesC m i).1, (s.take (takesC m i).1).add (takesC m i).2) := by unfold plainC; rw [h]; rfl

set_option maxRecDepth 10000 in
set_option maxHeartbeats 2000000 in
theorem sstep {p B g : Nat} {F : List Nat} {M : MH} {loc R : Int} {K : Nat} {sh sh' : List Bool} {s : ChkS} (m : ModuleD) (i : InsD) (w : World) (pa : PartsP m) (v : Inv R K sh s) (hK : K ≤ 9000) (hR : 0 ≤ R ∧ R ≤ 1) (hi : insOk i = true) (hs : shStep sh i.op = some sh') [hS : SB w p B g M loc s false] [hm : Shows w F m M.cells] :
    Calls Tryz.prog 30 #[.pointer (some ⟨p, 0, none⟩), .agg #[.int .i64 i.op, .int .i64 i.a, .int .i64 i.b]] w fun e w' => e = .returned (.tuple #[]) ∧ ∃ g' b' s', stepC m loc R s i = (b', s') ∧ SB w' p B g' M loc s' (!b') ∧ (g' = g ∨ w.heap.size ≤ g') ∧ StepX [p, g] w w' := by
  have hv := v.nums
  have hlt := hS.lt
  have hne := hS.ne
  have nb : NeB g p := ⟨hne⟩
  have nb' : NeB p g := ⟨hne.symm⟩
  have ag : Arg g w := ⟨hlt.2.1⟩
  have ap : Arg p w := ⟨hlt.1⟩
  have og : Old g w := ⟨hlt.2.1⟩
  have opp : Old p w := ⟨hlt.1⟩
  have kk := hm.known
  cases hf : flowOp i.op
  rotate_left
  · have r := hid (step_flow (m := m) (loc := loc) (R := R) (s := s) hf)
    go_enter Tryz.func30, Tryz.ntmps30
    go_wp2_with fail
    with_reducible refine Calls.mono (sflow (s := s) i _ hf v hK hR hi hs) ?_
    rintro e w1 ⟨rfl, g1, b1, s1, e1, hS1, hg1, st1⟩
    replace e1 := hid e1
    go_wp2
    (try simp only [Exit.inBlock, Exit.then]); refine bodyPost_ret (results_none rfl _ _ _) rfl ?_
    exact ⟨rfl, g1, b1, s1, r.out.trans e1.out, hS1, by simp at hg1; omega, mkStepX⟩
  · have r := hid (step_plain (m := m) (loc := loc) (R := R) (s := s) hf)
    go_enter Tryz.func30, Tryz.ntmps30
    go_wp2_with fail
    with_reducible refine Calls.mono (sflow_no i _ hf) ?_
    rintro e w1 ⟨rfl, st1⟩
    go_wp2_with fail
    with_reducible refine Calls.mono (shas (s := s) (bad := false) m i _ pa hi) ?_
    rintro e w2 ⟨rfl, st2⟩
    cases hh : hasC m loc i
    · have r2 := hid (r.out.trans (plain_no hh))
      clear r
      obtain ⟨⟨cap, bx, own⟩, -, bp⟩ := id hS
      have own1 : w2.ownsRow B 87 4 (.slice (some ⟨g, 0, none⟩) (s.lo.length + 1) cap) (s.lo.length + 1) (s.all.flatMap sfr) := own_keep own
      have own3 := hid (ownsRow_fr own1 ((Fr.refl [p] w2).setCell (p := ⟨p, 11, none⟩) (.inl (by simp)) (.bool true)) (by simp only [blk, List.mem_singleton]; rintro x rfl; exact hne))
      replace own := hid own
      replace own1 := hid own1
      go_wp2
      (try simp only [Exit.inBlock, Exit.then]); refine bodyPost_ret (results_none rfl _ _ _) rfl ?_
      exact ⟨rfl, g, _, _, r2.out, ⟨⟨cap, boxSet (sv_bad ..), own3.out⟩, hne, bp⟩, .inl rfl, mkStepX⟩
    · have r2 := hid (r.out.trans (plain_on hh))
      clear r
      have hb := takesC_le pa.sigs i
      obtain ⟨t, ht⟩ : ∃ t, takesC m i = t := ⟨_, rfl⟩
      rw [ht] at r2 hb
      obtain ⟨t1, t2⟩ := t
      simp only at hb r2
      obtain ⟨⟨cap0, bx0, own0⟩, -, bp⟩ := id hS
      replace own0 := hid own0
      go_wp2_with fail
      refine rg_begin (n := 11) (Step w2) (by kernel_rfl) rfl ?_
      have rg0 := (show (Step w2) (World.drew _) from ⟨(Fr.refl [] _).drew⟩)
      refine rg_read (i := 0) (a1 := _) rfl (by kernel_rfl) rfl (by simp) (by intro wq hwq; go_wp2; exact ⟨rfl, rfl⟩) rg0 ?_
      refine rg_read (i := 1) (a1 := _) rfl (by kernel_rfl) rfl (by simp) (by intro wq hwq; go_wp2; exact ⟨rfl, rfl⟩) rg0 ?_
      refine rg_read (i := 2) (a1 := _) rfl (by kernel_rfl) rfl (by simp) (by intro wq hwq; go_wp2; exact ⟨rfl, rfl⟩) rg0 ?_
      refine rg_read (i := 3) (a1 := _) rfl (by kernel_rfl) rfl (by simp) (by intro wq hwq; go_wp2; exact ⟨rfl, rfl⟩) rg0 ?_
      refine rg_read (i := 4) (a1 := _) rfl (by kernel_rfl) rfl (by simp) (by intro wq hwq; go_wp2; exact ⟨rfl, rfl⟩) rg0 ?_
      refine rg_eff (i := 5) rfl (by kernel_rfl) ?_
      simp only [List.getElem_toArray, List.getElem_cons_succ, List.getElem_cons_zero]
      go_wp2_with fail
      with_reducible refine Calls.mono (stakes m i _ pa) ?_
      rintro e w3 ⟨rfl, st3⟩
      rw [ht]
      have st5 : Step w2 w3 := mkStep
      go_wp2
      refine ⟨st5, ?_⟩
      refine rg_read (i := 6) (a1 := _) rfl (by kernel_rfl) rfl (by simp) (by intro wq hwq; go_wp2; exact ⟨rfl, rfl⟩) st5 ?_
      refine rg_read (i := 7) (a1 := _) rfl (by kernel_rfl) rfl (by simp) (by intro wq hwq; go_wp2; exact ⟨rfl, rfl⟩) st5 ?_
      refine rg_read (i := 8) (a1 := _) rfl (by kernel_rfl) rfl (by simp) (by intro wq hwq; go_wp2; exact ⟨rfl, rfl⟩) st5 ?_
      refine rg_read (i := 9) (a1 := _) rfl (by kernel_rfl) rfl (by simp) (by intro wq hwq; go_wp2; exact ⟨rfl, rfl⟩) st5 ?_
      refine rg_read (i := 10) (a1 := _) rfl (by kernel_rfl) rfl (by simp) (by intro wq hwq; go_wp2; exact ⟨rfl, rfl⟩) st5 ?_
      refine rg_done (by kernel_rfl) ?_
      have hS3 : SB w3 p B g M loc s false := inferInstance
      go_wp2_with fail
      with_reducible refine Calls.mono (stake0 (s := s) t1 _ (by omega) (by omega)) ?_
      rintro e w4 ⟨rfl, hS4, st4⟩
      obtain ⟨⟨cap, bx, own⟩, -, -⟩ := hS4
      have own3 := hid (ownsRow_fr own ((Fr.refl [p] w4).setCell (p := ⟨p, 9, none⟩) (.inl (by simp)) (.int .i64 (tkH s.h s.t.base t1 + t2))) (by simp only [blk, List.mem_singleton]; rintro x rfl; exact hne))
      replace own := hid own
      have h1 := tkH_ge (h := s.h) (b := s.t.base) (n := t1)
      have h2 := tkH_le (h := s.h) (b := s.t.base) (n := t1) (by omega) (by omega)
      replace bx : BoxL w4 p (sv M loc (tkH s.h s.t.base t1) (.slice (some ⟨g, 0, none⟩) (s.lo.length + 1) cap) (!s.takeB t1)) := bx
      go_wp2
      go_end0
      exact ⟨rfl, g, _, _, r2.out, ⟨⟨cap, boxSet (sv_h ..), own3.out⟩, hne, bp⟩, .inl rfl, mkStepX⟩

set_option maxRecDepth 10000 in
set_option maxHeartbeats 1000000 in
theorem sbegin {F : List Nat} {cs : List Value} (m : ModuleD) (i : Nat) (w : World) (pa : PartsP m) (hi : i < m.funcs.length) [hm : Shows w F m cs] :
    Calls Tryz.prog 29 #[.agg cs.toArray, .int .i64 (i : Int)] w fun e w' => ∃ p g M, e = .returned (.pointer (some ⟨p, 0, none⟩)) ∧ cs = MH.cells M ∧ SB w' p w.heap.size g M (locC m i) (startC (sgC m i).results) false ∧ Step w w' := by
  have kk := hm.known
  obtain ⟨M, hM⟩ := mh_of hm.is
  have hm2 : Is w F m M.cells := hM ▸ hm.is
  obtain ⟨a1, k1, a2, k2, a3, k3, a4, k4, a5, k5, a6, k6, F1, F2, F3, F4, F5, F6, rfl, rfl, h1, h2, h3, h4, h5, h6, i3, i4⟩ := mh_open hm2
  clear hm hm2
  subst hM
  obtain ⟨_, _, cl1, FF1, hv, _, hvw1, hr1, hml1⟩ := list_open h1
  cases hv
  unfold maxLen at hml1
  obtain ⟨_, _, cl3, FF3, hv, _, hvw3, hr3, hml3⟩ := list_open h3
  cases hv
  unfold maxLen at hml3
  have pf := pa.fns _ (List.getElem_mem hi)
  obtain ⟨q, hq⟩ := Int.eq_ofNat_of_zero_le pf.s0
  have hq2 : q < m.sigs.length := by have := pf.s1; omega
  have ps := pa.sigs _ (List.getElem_mem hq2)
  have e1 : sgC m i = m.sigs[q] := by unfold sgC; rw [fnC_at hi, hq, Int.toNat_natCast, getD_in _ hq2]
  have e2 : locC m i = m.sigs[q].params + m.funcs[i].locals := by unfold locC; rw [e1, fnC_at hi]
  rw [e1, e2]
  have b1 : 0 ≤ m.sigs[q].params ∧ m.sigs[q].params ≤ 60 := ⟨ps.p0, ps.p1⟩
  have b2 : 0 ≤ m.funcs[i].locals ∧ m.funcs[i].locals ≤ 60 := ⟨pf.l0, pf.l1⟩
  obtain ⟨be, oe, Ge, cse, rfl, hGe, hIe, hce, hoe⟩ := hvw3.row hr3 rfl (by decide) i hi
  have hI0e := hIe
  obtain ⟨a1e, k1e, F1e, rfl, rfl, h1e, i0e, i1e⟩ := func_open hI0e
  have kee : Known w _ m.funcs[i] _ := ⟨hIe⟩
  have c0e := (hce 0 _ rfl).1
  replace c0e : w.cell? ⟨be, oe + i * 3, none⟩ = _ := c0e
  have c1e := (hce 1 _ rfl).1
  replace c1e : w.cell? ⟨be, oe + i * 3 + 1, none⟩ = _ := c1e
  have c2e := (hce 2 _ rfl).1
  replace c2e : w.cell? ⟨be, oe + i * 3 + 2, none⟩ = _ := c2e
  clear hce
  obtain ⟨bf, of, Gf, csf, rfl, hGf, hIf, hcf, hof⟩ := hvw1.row hr1 rfl (by decide) q hq2
  have hI0f := hIf
  obtain ⟨rfl, rfl, i0f, i1f⟩ := sig_open hI0f
  have kef : Known w _ m.sigs[q] _ := ⟨hIf⟩
  have c0f := (hcf 0 _ rfl).1
  replace c0f : w.cell? ⟨bf, of + q * 2, none⟩ = _ := c0f
  have c1f := (hcf 1 _ rfl).1
  replace c1f : w.cell? ⟨bf, of + q * 2 + 1, none⟩ = _ := c1f
  clear hcf
  rw [hq] at c0e
  clear e1 e2 hq pf ps pa
  go_enter Tryz.func29, Tryz.ntmps29
  go_wp2
  go_ret
  refine ⟨w.heap.size + 1 + 1 + 1 + 1, w.heap.size + 1 + 1 + 1, _, rfl, rfl, ⟨⟨1, ⟨by apply Box.newAt; simp⟩, ?_⟩, by omega, by omega⟩, mkStep⟩
  exact ownsRow_fr (own_litAt (by simp) rfl (by simp; omega) (show 0 + 1 ≤ maxLen by unfold maxLen; omega) rfl) ((Fr.refl [] _).alloc _) (by simp)

theorem bodyB_at {l : List InsD} (h : bodyB l = true) : (∀ k (hk : k < l.length), insOk l[k] = true) ∧ l.length ≤ 1500 ∧ shapeB l = true := by
  unfold bodyB at h
  simp only [Bool.and_eq_true, decide_eq_true_eq, List.all_eq_true] at h
  exact ⟨fun k hk => h.1 _ (List.getElem_mem hk), by omega, h.2.2⟩
theorem shGo_step {l : List InsD} {k : Nat} (h : k < l.length) {s : List Bool} (q : shGo s (l.drop k) = true) : ∃ t, shStep s l[k].op = some t ∧ shGo t (l.drop (k + 1)) = true := by
  rw [shGo_at h] at q
  cases hq : shStep s l[k].op with
  | none => rw [hq] at q; cases q
  | some t => rw [hq] at q; exact ⟨t, rfl, q⟩

set_option maxRecDepth 10000 in
set_option maxHeartbeats 2000000 in
theorem sfault {F : List Nat} {cs : List Value} (m : ModuleD) (i : Int) (w : World) (hz : moduleCost m ≤ 1048576) [hm : Shows w F m cs] :
    Calls Tryz.prog 8 #[.agg cs.toArray, .int .i64 i] w fun e w' => e = .returned (.int .i64 (faultAt m i)) ∧ Step w w' := by
  have kk := hm.known
  have hB0 := fun (pa : PartsP m) (i0 : Nat) (h : i0 < m.funcs.length) (w' : World) (hh : Shows w' F m cs) => sbegin m i0 w' pa h (hm := hh)
  obtain ⟨a1, k1, a2, k2, a3, k3, a4, k4, a5, k5, a6, k6, F1, F2, F3, F4, F5, F6, rfl, rfl, h1, h2, h3, h4, h5, h6, i3, i4⟩ := module_open hm.is
  clear hm
  obtain ⟨_, _, cl3, FF3, hv, _, hvw3, hr3, hml3⟩ := list_open h3
  cases hv
  unfold maxLen at hml3
  cases hF : pB (FormP m)
  · have r := hid (faultAt_no (m := m) (i := i) (.inl fun h => by rw [pB_yes h] at hF; cases hF))
    go_enter Tryz.func8, Tryz.ntmps8
    go_wp2_with fail
    with_reducible refine Calls.mono (sform m _ hz) ?_
    rintro e w1 ⟨rfl, st1⟩
    rw [hF]
    go_wp2
    go_ret
    exact ⟨by rw [r.out]; rfl, mkStep⟩
  have fo : FormP m := pB_iff.1 hF
  have pa := fo.pa
  by_cases hi : i < 0 ∨ (m.funcs.length : Int) ≤ i
  · have r := hid (faultAt_no (m := m) (.inr hi))
    by_cases h0 : i < 0
    · clear hi
      go_enter Tryz.func8, Tryz.ntmps8
      go_wp2_with (go_at_call 28; (with_reducible refine Calls.mono (sform m _ hz) ?_); rintro e wk ⟨rfl, st⟩; rw [hF])
      go_ret
      exact ⟨by rw [r.out]; rfl, mkStep⟩
    · have h1 : (m.funcs.length : Int) ≤ i := by omega
      clear hi
      go_enter Tryz.func8, Tryz.ntmps8
      go_wp2_with (go_at_call 28; (with_reducible refine Calls.mono (sform m _ hz) ?_); rintro e wk ⟨rfl, st⟩; rw [hF])
      go_ret
      exact ⟨by rw [r.out]; rfl, mkStep⟩
  obtain ⟨i0, rfl⟩ := Int.eq_ofNat_of_zero_le (a := i) (by omega)
  have hi2 : i0 < m.funcs.length := by omega
  clear hi
  have r := hid (faultAt_yes fo hi2)
  have pf := pa.fns _ (List.getElem_mem hi2)
  have ef := fnC_at hi2
  have hb := bodyB_at pf.bd
  have ps : SigP (sgC m i0) := by
    unfold sgC
    rw [ef]
    have := pf.s0
    have := pf.s1
    rw [getD_in _ (show m.funcs[i0].sig.toNat < m.sigs.length by omega)]
    exact pa.sigs _ (List.getElem_mem _)
  obtain ⟨be, oe, Ge, cse, rfl, hGe, hIe, hce, hoe⟩ := hvw3.row hr3 rfl (by decide) i0 hi2
  have hI0e := hIe
  obtain ⟨a1e, k1e, F1e, rfl, rfl, h1e, i0e, i1e⟩ := func_open hI0e
  have kee : Known w _ m.funcs[i0] _ := ⟨hIe⟩
  have c0e := (hce 0 _ rfl).1
  replace c0e : w.cell? ⟨be, oe + i0 * 3, none⟩ = _ := c0e
  have c1e := (hce 1 _ rfl).1
  replace c1e : w.cell? ⟨be, oe + i0 * 3 + 1, none⟩ = _ := c1e
  have c2e := (hce 2 _ rfl).1
  replace c2e : w.cell? ⟨be, oe + i0 * 3 + 2, none⟩ = _ := c2e
  clear hce
  have kb : Known w F1e m.funcs[i0].body [.slice a1e m.funcs[i0].body.length k1e] := ⟨h1e⟩
  obtain ⟨_, _, cl, FF, hv, _, hvw, hr, hml⟩ := list_open h1e
  cases hv
  unfold maxLen at hml
  obtain ⟨l, hl⟩ : ∃ l, m.funcs[i0].body = l := ⟨_, rfl⟩
  have hrun : faultF m i0 = faultGo m (locC m i0) (sgC m i0).results (startC (sgC m i0).results) l 0 := by unfold faultF; rw [ef, hl]
  rw [hl] at hb c2e kb hvw hr hml
  clear hl ef pf h1e hIe hI0e kee
  obtain ⟨loc, hloc⟩ : ∃ loc, locC m i0 = loc := ⟨_, rfl⟩
  obtain ⟨R, hR⟩ : ∃ R, (sgC m i0).results = R := ⟨_, rfl⟩
  have hR1 : 0 ≤ R ∧ R ≤ 1 := by rw [← hR]; exact ⟨ps.r0, ps.r1⟩
  have hB := hB0 pa i0 hi2
  rw [hloc, hR] at hrun hB
  replace hrun := hid (r.out.trans hrun)
  clear r ps hR hloc fo hB0
  go_enter Tryz.func8, Tryz.ntmps8
  go_wp2_with (first | (go_at_call 28; (with_reducible refine Calls.mono (sform m _ hz) ?_); rintro e w1 ⟨rfl, st1⟩; rw [hF]) | (go_at_call 29; (with_reducible refine Calls.mono (hB _ inferInstance) ?_); rintro e w2 ⟨p, g, M, rfl, hM0, hS2, st2⟩; have hM := hid hM0; clear hM0))
  have hp2 := hS2.bp
  have hg2 := hS2.lt.2.2
  have hgr := st1.fr.size
  have np : NewB w p := ⟨by simp at hgr; omega⟩
  have hgw : w.heap.size + 1 ≤ g := by simp at hgr; omega
  have nbx : NeB w.heap.size p := ⟨by simp at hgr; omega⟩
  have nby : NeB w.heap.size g := ⟨by omega⟩
  have nbe : NeB be p := ⟨by have := hoe.lt; have := np.le; omega⟩
  have bm : BoxL w2 w.heap.size #[.slice a1 m.sigs.length k1, .slice a2 m.imports.length k2, .slice (some ⟨be, oe, none⟩) m.funcs.length k3, .int .i64 m.pages, .int .i64 m.most, .slice a4 m.globals.length k4, .slice a5 m.exports.length k5, .slice a6 m.data.length k6] := boxOf
  rw [hM.out] at kk
  have aF : Apart (F1 ++ F2 ++ F3 ++ F4 ++ F5 ++ F6) [p] := ⟨fun x hx => by have := Rep.lt kk.is x hx; have := np.le; simp; omega⟩
  clear hB hp2 hg2 hgr
  go_loopw [32] (fun i wr => ∃ (k : Nat) (sh : List Bool) (s : ChkS) (g' : Nat), k ≤ l.length ∧ i = .int .i64 k ∧ Inv R k sh s ∧ Hid (shGo sh (l.drop k) = true) ∧ SB wr p w1.heap.size g' M loc s false ∧ w.heap.size + 1 ≤ g' ∧ Step w wr ∧ BoxL wr w.heap.size #[.slice a1 m.sigs.length k1, .slice a2 m.imports.length k2, .slice (some ⟨be, oe, none⟩) m.funcs.length k3, .int .i64 m.pages, .int .i64 m.most, .slice a4 m.globals.length k4, .slice a5 m.exports.length k5, .slice a6 m.data.length k6] ∧ Hid (faultAt m (i0 : Nat) = faultGo m loc R s (l.drop k) k)) (fun i _ => l.length - (intOf i).toNat)
  case atStart => exact ⟨0, [], startC R, g, by omega, rfl, Inv.start hR1, hid hb.2.2, hS2, hgw, mkStep, bm, hrun⟩
  case round =>
    obtain ⟨k, sh, s, g', hk, rfl, v, hsh, hS, hgw', st, bmr, heq⟩ := hrel
    have ng' : NewB w g' := ⟨by omega⟩
    have nby' : NeB w.heap.size g' := ⟨by omega⟩
    have obm := bmr.old
    by_cases hlt : k < l.length
    · have hi := hb.1 k hlt
      obtain ⟨sh', hs1, hs2⟩ := shGo_step hlt hsh.out
      replace hs2 := hid hs2
      obtain ⟨bx, ox, Gx, csx, rfl, hGx, hIx, hcx, hox⟩ := hvw.row hr rfl (by decide) k hlt
      have hI0x := hIx
      obtain ⟨rfl, rfl, i0x, i1x, i2x⟩ := ins_open hI0x
      have kex : Known w _ l[k] _ := ⟨hIx⟩
      have c0x := (hcx 0 _ rfl).1
      replace c0x : w.cell? ⟨bx, ox + k * 3, none⟩ = _ := c0x
      have c1x := (hcx 1 _ rfl).1
      replace c1x : w.cell? ⟨bx, ox + k * 3 + 1, none⟩ = _ := c1x
      have c2x := (hcx 2 _ rfl).1
      replace c2x : w.cell? ⟨bx, ox + k * 3 + 2, none⟩ = _ := c2x
      clear hcx
      go_wp2_with fail
      with_reducible refine Calls.mono (sstep (s := s) m l[k] _ pa v (by omega) hR1 hi hs1) ?_
      rintro e w3 ⟨rfl, g3, b3, s3, e3, hS3, hg3, st3⟩
      have v3 := Inv.step (loc := loc) v pa.sigs hi hs1
      rw [e3] at v3
      cases b3
      · have hz := hid (heq.out.trans (fault_no hlt (by rw [e3])))
        obtain ⟨⟨cap, bx, own⟩, -, bp⟩ := hS3
        replace bx : BoxL w3 p (sv M loc s3.h (.slice (some ⟨g3, 0, none⟩) (s3.lo.length + 1) cap) true) := bx
        replace own := hid own
        replace e3 := hid e3
        go_wp2
        go_ret
        exact ⟨by rw [hz.out]; rfl, mkStep⟩
      · have hz := hid (heq.out.trans (fault_on hlt e3))
        obtain ⟨⟨cap, bx, own⟩, -, bp⟩ := id hS3
        replace bx : BoxL w3 p (sv M loc s3.h (.slice (some ⟨g3, 0, none⟩) (s3.lo.length + 1) cap) false) := bx
        replace own := hid own
        replace e3 := hid e3
        have hg9 := st.fr.size
        go_wp2
        go_roundw
        case rel => exact ⟨k + 1, sh', s3, g3, by omega, by go_num, v3, hs2, inferInstance, by simp at hg3; omega, mkStep, boxOf, hz⟩
        case measure => simp [intOf]; omega
    · have hz := hid (heq.out.trans (fault_end (by omega)))
      have ek : k = l.length := by omega
      subst ek
      go_wp2_with fail
      with_reducible refine Calls.mono (sclose0 (s := s) _ v (by omega)) ?_
      rintro e w3 ⟨rfl, hS3, st3⟩
      obtain ⟨⟨cap, bx, own⟩, -, bp⟩ := id hS3
      replace own := hid own
      cases hc : s.closeB
      · rw [hc] at bx
        replace bx : BoxL w3 p (sv M loc (s.take s.t.res).h (.slice (some ⟨g', 0, none⟩) ((s.take s.t.res).lo.length + 1) cap) true) := bx
        go_wp2
        go_ret
        exact ⟨by rw [hz.out, hc]; rfl, mkStep⟩
      · rw [hc] at bx
        replace bx : BoxL w3 p (sv M loc (s.take s.t.res).h (.slice (some ⟨g', 0, none⟩) ((s.take s.t.res).lo.length + 1) cap) false) := bx
        go_wp2
        go_ret
        exact ⟨by rw [hz.out, hc]; rfl, mkStep⟩
end Go.Proofs.YtfddmelikahfbaaGreatDoor
namespace Go.Proofs.YtfddmelikahfbaaGreatDoor
attribute [local go_sem ↓] Go.wp_at_zero Go.wp_at_succ
open Go.RowKit
open Rep (Is sz)

def ifr (f : Frm) : List Value := [.int .i64 f.res, .int .i64 f.base, .bool (decide (f.op = 3)), .bool (decide (f.op = 4)), .bool f.dead]
theorem ifr_len (f : Frm) : (ifr f).length = 5 := rfl
theorem ifr_one (f : Frm) : ∀ u ∈ ifr f, u.oneCell' = true := by
  intro u hu
  simp only [ifr, List.mem_cons, List.not_mem_nil, or_false] at hu
  rcases hu with rfl | rfl | rfl | rfl | rfl <;> rfl
theorem Tryz.ifr_tab : Tryz.prog.underlying 131 = some (.slice 130) ∧ (Tryz.prog.info? 130).map (fun i => (i.zero, i.size, i.bytes)) = some (some (.agg #[.int .i64 0, .int .i64 0, .bool false, .bool false, .bool false]), 5, 24) ∧ (.agg #[.int .i64 0, .int .i64 0, .bool false, .bool false, .bool false] : Value).cells.size = 5 ∧ 0 < 5 ∧ 0 < 24 :=
  ⟨by kernel_rfl, by kernel_rfl, rfl, by decide, by decide⟩
def iv (M : MH) (g : SigD) (loc h : Int) (st : Value) : Array Value := #[M.s, M.i, M.f, .int .i64 M.pg, .int .i64 M.mo, M.g, M.e, M.d, .int .i64 g.params, .int .i64 g.results, .int .i64 loc, .int .i64 h, st]
section
variable (M : MH) (g : SigD) (loc h : Int) (st : Value)
@[go_sem] theorem iv_0 : (iv M g loc h st)[0]? = some M.s := rfl
@[go_sem] theorem iv_1 : (iv M g loc h st)[1]? = some M.i := rfl
@[go_sem] theorem iv_2 : (iv M g loc h st)[2]? = some M.f := rfl
@[go_sem] theorem iv_3 : (iv M g loc h st)[3]? = some (.int .i64 M.pg) := rfl
@[go_sem] theorem iv_4 : (iv M g loc h st)[4]? = some (.int .i64 M.mo) := rfl
@[go_sem] theorem iv_5 : (iv M g loc h st)[5]? = some M.g := rfl
@[go_sem] theorem iv_6 : (iv M g loc h st)[6]? = some M.e := rfl
@[go_sem] theorem iv_7 : (iv M g loc h st)[7]? = some M.d := rfl
@[go_sem] theorem iv_8 : (iv M g loc h st)[8]? = some (.int .i64 g.params) := rfl
@[go_sem] theorem iv_9 : (iv M g loc h st)[9]? = some (.int .i64 g.results) := rfl
@[go_sem] theorem iv_10 : (iv M g loc h st)[10]? = some (.int .i64 loc) := rfl
@[go_sem] theorem iv_11 : (iv M g loc h st)[11]? = some (.int .i64 h) := rfl
@[go_sem] theorem iv_12 : (iv M g loc h st)[12]? = some st := rfl
theorem iv_h (x : Int) : (iv M g loc h st).setIfInBounds 11 (.int .i64 x) = iv M g loc x st := rfl
theorem iv_st (x : Value) : (iv M g loc h st).setIfInBounds 12 x = iv M g loc h x := rfl
end
/-- The checker at p, its frames in g; B: where what is its own begins. -/
class IB (w : World) (p : Nat) (B g : outParam Nat) (M : outParam MH) (sg : outParam SigD) (loc : outParam Int) (s : outParam ChkS) : Prop where
  ex : ∃ cap, BoxL w p (iv M sg loc s.h (.slice (some ⟨g, 0, none⟩) (s.lo.length + 1) cap)) ∧ w.ownsRow B 130 5 (.slice (some ⟨g, 0, none⟩) (s.lo.length + 1) cap) (s.lo.length + 1) (s.all.flatMap ifr)
  ne : g ≠ p
  bp : B ≤ p
theorem IB.frx {S : List Nat} {m w : World} {p B g : Nat} {M : MH} {sg : SigD} {loc : Int} {s : ChkS} (h : IB m p B g M sg loc s) (f : Fr S m w) (h1 : p ∉ S) (h2 : g ∉ S) : IB w p B g M sg loc s := by
  obtain ⟨⟨cap, b, own⟩, ne, bp⟩ := h
  exact ⟨⟨cap, ⟨b.is.fr f h1⟩, ownsRow_fr own f (by simp only [blk, List.mem_singleton]; rintro x rfl; exact h2)⟩, ne, bp⟩
instance (priority := 90) ib_alloc {w : World} {p B g : Nat} {M : MH} {sg : SigD} {loc : Int} {s : ChkS} {o : Obj} [h : IB w p B g M sg loc s] : IB (w.alloc o) p B g M sg loc s := h.frx ((Fr.refl [] w).alloc o) (by simp) (by simp)
instance (priority := 90) ib_drew {w : World} {p B g : Nat} {M : MH} {sg : SigD} {loc : Int} {s : ChkS} [h : IB w p B g M sg loc s] : IB w.drew p B g M sg loc s := h.frx (Fr.refl [] w).drew (by simp) (by simp)
instance (priority := 80) ib_step {m w : World} {p B g : Nat} {M : MH} {sg : SigD} {loc : Int} {s : ChkS} [st : Step m w] [h : IB m p B g M sg loc s] : IB w p B g M sg loc s := h.frx st.fr (by simp) (by simp)
instance (priority := 70) ib_stepx {S : List Nat} {m w : World} {p B g : Nat} {M : MH} {sg : SigD} {loc : Int} {s : ChkS} [st : StepX S m w] [h : IB m p B g M sg loc s] [n1 : NotIn p S] [n2 : NotIn g S] : IB w p B g M sg loc s := h.frx st.fr n1.ne n2.ne
theorem IB.lt {w : World} {p B g : Nat} {M : MH} {sg : SigD} {loc : Int} {s : ChkS} (h : IB w p B g M sg loc s) : p < w.heap.size ∧ g < w.heap.size ∧ B ≤ g := by
  obtain ⟨⟨cap, b, own⟩, ne, bp⟩ := h
  obtain ⟨g', e, h1, h2⟩ := own_addr own (by omega)
  cases e
  exact ⟨b.is.lt, h2, h1⟩
theorem ib_top {w : World} {B g cap : Nat} {s : ChkS} {e : TypeId} (own : w.ownsRow B e 5 (.slice (some ⟨g, 0, none⟩) (s.lo.length + 1) cap) (s.lo.length + 1) (s.all.flatMap ifr)) :
    (w.cell? ⟨g, s.lo.length * 5, none⟩ = some (.int .i64 s.t.res) ∧ w.cell? ⟨g, s.lo.length * 5 + 1, none⟩ = some (.int .i64 s.t.base) ∧ w.cell? ⟨g, s.lo.length * 5 + 2, none⟩ = some (.bool (decide (s.t.op = 3))) ∧ w.cell? ⟨g, s.lo.length * 5 + 3, none⟩ = some (.bool (decide (s.t.op = 4))) ∧ w.cell? ⟨g, s.lo.length * 5 + 4, none⟩ = some (.bool s.t.dead)) ∧
    (w.frozen? ⟨g, s.lo.length * 5 + 3, none⟩ = false ∧ w.frozen? ⟨g, s.lo.length * 5 + 4, none⟩ = false) := by
  have hi : s.lo.length < s.all.length := by simp [ChkS.all]
  have ht : s.all[s.lo.length] = s.t := by simp [ChkS.all]
  have h := own_row_at ifr_len own s.lo.length hi
  rw [ht] at h
  exact ⟨⟨(h 0 _ rfl).1, (h 1 _ rfl).1, (h 2 _ rfl).1, (h 3 _ rfl).1, (h 4 _ rfl).1⟩, (h 3 _ rfl).2, (h 4 _ rfl).2⟩
theorem ib_size {w : World} {B g cap : Nat} {s : ChkS} {e : TypeId} (own : w.ownsRow B e 5 (.slice (some ⟨g, 0, none⟩) (s.lo.length + 1) cap) (s.lo.length + 1) (s.all.flatMap ifr)) : s.lo.length + 1 ≤ cap ∧ cap ≤ 9223372036854775807 := by
  have := ownsRow_cap own
  unfold maxLen at this
  exact this

theorem ilast {p B g : Nat} {M : MH} {sg : SigD} {loc : Int} {s : ChkS} (w : World) (hl : s.lo.length ≤ 10000) [hS : IB w p B g M sg loc s] :
    Calls Tryz.prog 75 #[.pointer (some ⟨p, 0, none⟩)] w fun e w' => e = .returned (.pointer (some ⟨g, s.lo.length * 5, none⟩)) ∧ Step w w' := by
  obtain ⟨⟨cap, bx, own⟩, ne, bp⟩ := hS
  have hcap := ib_size own
  have op := bx.old
  clear own
  go_enter Tryz.func75, Tryz.ntmps75
  go_wp2_with fail
  refine rg_begin0 (n := 12) (by kernel_rfl) rfl fun rg0 => ?_
  refine rg_read (i := 0) (a1 := _) rfl (by kernel_rfl) rfl (by simp) (by intro wq hwq; go_wp2; exact ⟨rfl, rfl⟩) mkStep ?_
  refine rg_read (i := 1) (a1 := _) rfl (by kernel_rfl) rfl (by simp) (by intro wq hwq; go_wp2; exact ⟨rfl, rfl⟩) mkStep ?_
  refine rg_read (i := 2) (a1 := _) rfl (by kernel_rfl) rfl (by simp) (by intro wq hwq; go_wp2; exact ⟨rfl, rfl⟩) mkStep ?_
  refine rg_read (i := 3) (a1 := _) rfl (by kernel_rfl) rfl (by simp) (by intro wq hwq; go_wp2; exact ⟨rfl, rfl⟩) mkStep ?_
  refine rg_read (i := 4) (a1 := _) rfl (by kernel_rfl) rfl (by simp) (by intro wq hwq; go_wp2; exact ⟨rfl, rfl⟩) mkStep ?_
  refine rg_read (i := 5) (a1 := _) rfl (by kernel_rfl) rfl (by simp) (by intro wq hwq; go_wp2; exact ⟨rfl, rfl⟩) mkStep ?_
  refine rg_read (i := 6) (a1 := _) rfl (by kernel_rfl) rfl (by simp) (by intro wq hwq; go_wp2; exact ⟨rfl, rfl⟩) mkStep ?_
  refine rg_read (i := 7) (a1 := _) rfl (by kernel_rfl) rfl (by simp) (by intro wq hwq; go_wp2; exact ⟨rfl, rfl⟩) mkStep ?_
  refine rg_read (i := 8) (a1 := _) rfl (by kernel_rfl) rfl (by simp) (by intro wq hwq; go_wp2; exact ⟨rfl, rfl⟩) mkStep ?_
  refine rg_read (i := 9) (a1 := _) rfl (by kernel_rfl) rfl (by simp) (by intro wq hwq; go_wp2; exact ⟨rfl, rfl⟩) mkStep ?_
  refine rg_read (i := 10) (a1 := _) rfl (by kernel_rfl) rfl (by simp) (by intro wq hwq; go_wp2; exact ⟨rfl, rfl⟩) mkStep ?_
  refine rg_read (i := 11) (a1 := _) rfl (by kernel_rfl) rfl (by simp) (by intro wq hwq; go_wp2; exact ⟨rfl, rfl⟩) mkStep ?_
  refine rg_done (by kernel_rfl) ?_
  go_wp2
  go_ret
  exact ⟨rfl, mkStep⟩

theorem tk_short {h b k n : Int} (h1 : ¬ b < tkH h b k) (hk : k < n) : tkH h b n = b ∧ decide (n ≤ h - b) = false := by
  unfold tkH at *
  split at h1
  · exact ⟨if_neg (by omega), decide_eq_false (by omega)⟩
  · exact ⟨if_neg (by omega), decide_eq_false (by omega)⟩
set_option maxHeartbeats 1000000 in
theorem itake {p B g : Nat} {M : MH} {sg : SigD} {loc : Int} {s : ChkS} (n : Int) (w : World) (hn : 0 ≤ n ∧ n ≤ 1000) (hh : 0 ≤ s.t.base ∧ s.t.base ≤ s.h ∧ s.h ≤ 10000) (hl : s.lo.length ≤ 10000) [hS : IB w p B g M sg loc s] :
    Calls Tryz.prog 106 #[.pointer (some ⟨p, 0, none⟩), .int .i64 n] w fun e w' => e = .returned (.bool (s.takeB n)) ∧ IB w' p B g M sg loc (s.take n) ∧ StepX [p] w w' := by
  obtain ⟨n, rfl⟩ := Int.eq_ofNat_of_zero_le hn.1
  have hlt := hS.lt
  obtain ⟨⟨cap, bx, own⟩, ne, bp⟩ := hS
  obtain ⟨⟨c0, c1, c2, c3, c4⟩, -⟩ := ib_top own
  have hcap := ib_size own
  have op := bx.old
  have ap := bx.arg
  have og : Old g w := ⟨hlt.2.1⟩
  have nb : NeB g p := ⟨ne⟩
  obtain ⟨b, hb⟩ : ∃ b, s.t.base = b := ⟨_, rfl⟩
  obtain ⟨d, hd⟩ : ∃ d, s.t.dead = d := ⟨_, rfl⟩
  rw [hb] at c1 hh
  rw [hd] at c4
  replace own := hid own
  go_enter Tryz.func106, Tryz.ntmps106
  go_wp2
  go_loopw [5] (fun i wr => ∃ (k : Nat) (hk : Int), k ≤ n ∧ i = .int .i64 k ∧ hk ≤ 1000000 ∧ b ≤ hk ∧ Hid (hk = tkH s.h b k) ∧ Hid (tkB s.h b k d = true) ∧ BoxL wr p (iv M sg loc hk (.slice (some ⟨g, 0, none⟩) (s.lo.length + 1) cap)) ∧ StepX [p] w wr) (fun i _ => n - (intOf i).toNat)
  case atStart => exact ⟨0, s.h, by omega, rfl, by omega, by omega, hid (tkH_0 hh.2.1).symm, hid (tkB_0 hh.2.1), boxOf, mkStepX⟩
  case round =>
    obtain ⟨k, hk, hkn, rfl, hk1, hk2, heq, heb, b1, st⟩ := hrel
    have own2 : wr.ownsRow B 130 5 (.slice (some ⟨g, 0, none⟩) (s.lo.length + 1) cap) (s.lo.length + 1) (s.all.flatMap ifr) := ownsRow_fr own.out (FrX.fr (S := [p])) (by simp only [blk, List.mem_singleton]; rintro x rfl; exact ne)
    have hI : IB wr p B g M sg loc ⟨hk, s.lo, s.t⟩ := ⟨⟨cap, b1, own2⟩, ne, bp⟩
    replace own2 := hid own2
    by_cases hlt : k < n
    · by_cases h1 : b < hk
      · have e1 := hid (show hk - 1 = tkH s.h b ((k + 1 : Nat) : Int) by rw [tkH_on (by rw [← heq.out]; exact h1), heq.out])
        have e2 : Hid (tkB s.h b ((k + 1 : Nat) : Int) d = true) := (tkB_on (by rw [← heq.out]; exact h1)).trans heb.out
        go_wp2_with fail
        with_reducible refine Calls.mono (ilast (s := ⟨hk, s.lo, s.t⟩) _ hl) ?_
        rintro e w3 ⟨rfl, st3⟩
        go_wp2_with fail
        refine rg_begin0 (n := 10) (by kernel_rfl) rfl fun rg0 => ?_
        refine rg_read (i := 0) (a1 := _) rfl (by kernel_rfl) rfl (by simp) (by intro wq hwq; go_wp2; exact ⟨rfl, rfl⟩) mkStep ?_
        refine rg_read (i := 1) (a1 := _) rfl (by kernel_rfl) rfl (by simp) (by intro wq hwq; go_wp2; exact ⟨rfl, rfl⟩) mkStep ?_
        refine rg_read (i := 2) (a1 := _) rfl (by kernel_rfl) rfl (by simp) (by intro wq hwq; go_wp2; exact ⟨rfl, rfl⟩) mkStep ?_
        refine rg_read (i := 3) (a1 := _) rfl (by kernel_rfl) rfl (by simp) (by intro wq hwq; go_wp2; exact ⟨rfl, rfl⟩) mkStep ?_
        refine rg_read (i := 4) (a1 := _) rfl (by kernel_rfl) rfl (by simp) (by intro wq hwq; go_wp2; exact ⟨rfl, rfl⟩) mkStep ?_
        refine rg_read (i := 5) (a1 := _) rfl (by kernel_rfl) rfl (by simp) (by intro wq hwq; go_wp2; exact ⟨rfl, rfl⟩) mkStep ?_
        refine rg_read (i := 6) (a1 := _) rfl (by kernel_rfl) rfl (by simp) (by intro wq hwq; go_wp2; exact ⟨rfl, rfl⟩) mkStep ?_
        refine rg_read (i := 7) (a1 := _) rfl (by kernel_rfl) rfl (by simp) (by intro wq hwq; go_wp2; exact ⟨rfl, rfl⟩) mkStep ?_
        refine rg_read (i := 8) (a1 := _) rfl (by kernel_rfl) rfl (by simp) (by intro wq hwq; go_wp2; exact ⟨rfl, rfl⟩) mkStep ?_
        refine rg_read (i := 9) (a1 := _) rfl (by kernel_rfl) rfl (by simp) (by intro wq hwq; go_wp2; exact ⟨rfl, rfl⟩) mkStep ?_
        refine rg_done (by kernel_rfl) ?_
        go_wp2
        go_roundw
        case rel => exact ⟨k + 1, hk - 1, by omega, by go_num, by omega, by omega, e1, e2, boxSetD (iv_h ..), mkStepX⟩
        case measure => simp [intOf]; omega
      · have e1 := hid (show hk = tkH s.h b ((k + 1 : Nat) : Int) by rw [tkH_off (by rw [← heq.out]; exact h1), heq.out])
        have e2 : tkB s.h b ((k + 1 : Nat) : Int) d = d := tkB_off (by rw [← heq.out]; exact h1)
        cases d
        · obtain ⟨z1, z2⟩ := tk_short (by rw [← heq.out]; exact h1) (show ((k : Nat) : Int) < ((n : Nat) : Int) by omega)
          have ehk : hk = tkH s.h b (n : Int) := by rw [z1]; omega
          have e3 := hid (show tkB s.h b (n : Int) false = false by unfold tkB; rw [z2]; rfl)
          replace ehk := hid ehk
          clear e1 e2 z1 z2
          go_wp2_with fail
          with_reducible refine Calls.mono (ilast (s := ⟨hk, s.lo, s.t⟩) _ hl) ?_
          rintro e w3 ⟨rfl, st3⟩
          go_wp2_with fail
          refine rg_begin0 (n := 10) (by kernel_rfl) rfl fun rg0 => ?_
          refine rg_read (i := 0) (a1 := _) rfl (by kernel_rfl) rfl (by simp) (by intro wq hwq; go_wp2; exact ⟨rfl, rfl⟩) mkStep ?_
          refine rg_read (i := 1) (a1 := _) rfl (by kernel_rfl) rfl (by simp) (by intro wq hwq; go_wp2; exact ⟨rfl, rfl⟩) mkStep ?_
          refine rg_read (i := 2) (a1 := _) rfl (by kernel_rfl) rfl (by simp) (by intro wq hwq; go_wp2; exact ⟨rfl, rfl⟩) mkStep ?_
          refine rg_read (i := 3) (a1 := _) rfl (by kernel_rfl) rfl (by simp) (by intro wq hwq; go_wp2; exact ⟨rfl, rfl⟩) mkStep ?_
          refine rg_read (i := 4) (a1 := _) rfl (by kernel_rfl) rfl (by simp) (by intro wq hwq; go_wp2; exact ⟨rfl, rfl⟩) mkStep ?_
          refine rg_read (i := 5) (a1 := _) rfl (by kernel_rfl) rfl (by simp) (by intro wq hwq; go_wp2; exact ⟨rfl, rfl⟩) mkStep ?_
          refine rg_read (i := 6) (a1 := _) rfl (by kernel_rfl) rfl (by simp) (by intro wq hwq; go_wp2; exact ⟨rfl, rfl⟩) mkStep ?_
          refine rg_read (i := 7) (a1 := _) rfl (by kernel_rfl) rfl (by simp) (by intro wq hwq; go_wp2; exact ⟨rfl, rfl⟩) mkStep ?_
          refine rg_read (i := 8) (a1 := _) rfl (by kernel_rfl) rfl (by simp) (by intro wq hwq; go_wp2; exact ⟨rfl, rfl⟩) mkStep ?_
          refine rg_read (i := 9) (a1 := _) rfl (by kernel_rfl) rfl (by simp) (by intro wq hwq; go_wp2; exact ⟨rfl, rfl⟩) mkStep ?_
          refine rg_done (by kernel_rfl) ?_
          go_wp2
          go_ret
          refine ⟨?_, ⟨⟨cap, ?_, own_keep own2.out⟩, ne, bp⟩, mkStepX⟩
          · show Ending.returned (.bool false) = .returned (.bool (tkB s.h s.t.base n s.t.dead))
            rw [hb, hd, e3.out]
          · show BoxL _ _ (iv M sg loc (tkH s.h s.t.base n) _)
            rw [hb, ← ehk.out]
            exact boxOf
        · have e3 := hid e2
          clear e2
          go_wp2_with fail
          with_reducible refine Calls.mono (ilast (s := ⟨hk, s.lo, s.t⟩) _ hl) ?_
          rintro e w3 ⟨rfl, st3⟩
          go_wp2_with fail
          refine rg_begin0 (n := 10) (by kernel_rfl) rfl fun rg0 => ?_
          refine rg_read (i := 0) (a1 := _) rfl (by kernel_rfl) rfl (by simp) (by intro wq hwq; go_wp2; exact ⟨rfl, rfl⟩) mkStep ?_
          refine rg_read (i := 1) (a1 := _) rfl (by kernel_rfl) rfl (by simp) (by intro wq hwq; go_wp2; exact ⟨rfl, rfl⟩) mkStep ?_
          refine rg_read (i := 2) (a1 := _) rfl (by kernel_rfl) rfl (by simp) (by intro wq hwq; go_wp2; exact ⟨rfl, rfl⟩) mkStep ?_
          refine rg_read (i := 3) (a1 := _) rfl (by kernel_rfl) rfl (by simp) (by intro wq hwq; go_wp2; exact ⟨rfl, rfl⟩) mkStep ?_
          refine rg_read (i := 4) (a1 := _) rfl (by kernel_rfl) rfl (by simp) (by intro wq hwq; go_wp2; exact ⟨rfl, rfl⟩) mkStep ?_
          refine rg_read (i := 5) (a1 := _) rfl (by kernel_rfl) rfl (by simp) (by intro wq hwq; go_wp2; exact ⟨rfl, rfl⟩) mkStep ?_
          refine rg_read (i := 6) (a1 := _) rfl (by kernel_rfl) rfl (by simp) (by intro wq hwq; go_wp2; exact ⟨rfl, rfl⟩) mkStep ?_
          refine rg_read (i := 7) (a1 := _) rfl (by kernel_rfl) rfl (by simp) (by intro wq hwq; go_wp2; exact ⟨rfl, rfl⟩) mkStep ?_
          refine rg_read (i := 8) (a1 := _) rfl (by kernel_rfl) rfl (by simp) (by intro wq hwq; go_wp2; exact ⟨rfl, rfl⟩) mkStep ?_
          refine rg_read (i := 9) (a1 := _) rfl (by kernel_rfl) rfl (by simp) (by intro wq hwq; go_wp2; exact ⟨rfl, rfl⟩) mkStep ?_
          refine rg_done (by kernel_rfl) ?_
          go_wp2
          go_roundw
          case rel => exact ⟨k + 1, hk, by omega, by go_num, by omega, by omega, e1, e3, boxOf, mkStepX⟩
          case measure => simp [intOf]; omega
    · obtain rfl : k = n := by omega
      go_wp2
      go_ret
      refine ⟨?_, ⟨⟨cap, ?_, own_keep own2.out⟩, ne, bp⟩, mkStepX⟩
      · show Ending.returned (.bool true) = .returned (.bool (tkB s.h s.t.base k s.t.dead))
        rw [hb, hd, heb.out]
      · show BoxL _ _ (iv M sg loc (tkH s.h s.t.base k) _)
        rw [hb, ← heq.out]
        exact boxOf

theorem idie {p B g : Nat} {M : MH} {sg : SigD} {loc : Int} {s : ChkS} (w : World) (hl : s.lo.length ≤ 10000) [hS : IB w p B g M sg loc s] :
    Calls Tryz.prog 122 #[.pointer (some ⟨p, 0, none⟩)] w fun e w' => e = .returned (.tuple #[]) ∧ IB w' p B g M sg loc s.die ∧ StepX [p, g] w w' := by
  have hlt := hS.lt
  obtain ⟨⟨cap, bx, own⟩, ne, bp⟩ := id hS
  obtain ⟨⟨c0, c1, c2, c3, c4⟩, f3, f4⟩ := ib_top own
  have hcap := ib_size own
  have op : Old p w := bx.old
  have ap := bx.arg
  have og : Old g w := ⟨hlt.2.1⟩
  have nb : NeB g p := ⟨ne⟩
  have nb' : NeB p g := ⟨ne.symm⟩
  replace own := hid own
  go_enter Tryz.func122, Tryz.ntmps122
  go_wp2_with fail
  with_reducible refine Calls.mono (ilast (s := s) _ hl) ?_
  rintro e w1 ⟨rfl, st1⟩
  have own1 : w1.ownsRow B 130 5 (.slice (some ⟨g, 0, none⟩) (s.lo.length + 1) cap) (s.lo.length + 1) (s.all.flatMap ifr) := own_keep own.out
  have own2 := own_setN (s.lo.length * 5 + 4) (.bool true) (ownsRow_fr own1 ((Fr.refl [p] w1).setCell (p := ⟨p, 11, none⟩) (.inl (by simp)) (.int .i64 s.t.base)) (by simp only [blk, List.mem_singleton]; rintro x rfl; exact ne))
  rw [ChkS.all, row_top (t' := s.die.t) ifr_len s.lo s.t 4 (.bool true) rfl] at own2
  replace own1 := hid own1
  replace own2 := hid own2
  go_wp2
  go_end0
  have b1 : BoxL (w1.setCell ⟨p, 11, none⟩ (.int .i64 s.t.base)) p (iv M sg loc s.t.base (.slice (some ⟨g, 0, none⟩) (s.lo.length + 1) cap)) := boxSet (iv_h ..)
  exact ⟨rfl, ⟨⟨cap, boxOf, own2.out⟩, ne, bp⟩, mkStepX⟩

set_option maxHeartbeats 1000000 in
theorem icloses {p B g : Nat} {M : MH} {sg : SigD} {loc R : Int} {K : Nat} {sh : List Bool} {s : ChkS} (w : World) (v : Inv R K sh s) (hK : K ≤ 9000) [hS : IB w p B g M sg loc s] :
    Calls Tryz.prog 77 #[.pointer (some ⟨p, 0, none⟩)] w fun e w' => e = .returned (.bool s.closeB) ∧ IB w' p B g M sg loc (s.take s.t.res) ∧ StepX [p] w w' := by
  have hv := v.nums
  have hlt := hS.lt
  obtain ⟨⟨cap, bx, own⟩, ne, bp⟩ := id hS
  obtain ⟨⟨c0, c1, c2, c3, c4⟩, f3, f4⟩ := ib_top own
  have hcap := ib_size own
  have op : Old p w := bx.old
  have ap := bx.arg
  have og : Old g w := ⟨hlt.2.1⟩
  have nb : NeB g p := ⟨ne⟩
  have nb' : NeB p g := ⟨ne.symm⟩
  have hl : s.lo.length ≤ 10000 := by omega
  have hl2 : (s.take s.t.res).lo.length ≤ 10000 := hl
  replace own := hid own
  have hq : s.closeB = (s.takeB s.t.res && (tkH s.h s.t.base s.t.res == s.t.base)) := by
    unfold ChkS.closeB
    congr 1
  cases hb : s.takeB s.t.res
  · rw [hb, Bool.false_and] at hq
    replace hq := hid hq
    go_enter Tryz.func77, Tryz.ntmps77
    go_wp2_with fail
    refine rg_beginX [p] (n := 20) (by kernel_rfl) rfl fun rg0 => ?_
    refine rg_read (i := 0) (a1 := _) rfl (by kernel_rfl) rfl (by first | (simp; done) | (simp [Act.put]; done)) (by intro wq hwq; go_wp2; exact ⟨rfl, rfl⟩) mkStepX ?_
    refine rg_read (i := 1) (a1 := _) rfl (by kernel_rfl) rfl (by first | (simp; done) | (simp [Act.put]; done)) (by intro wq hwq; go_wp2; exact ⟨rfl, rfl⟩) mkStepX ?_
    refine rg_eff (i := 2) rfl (by kernel_rfl) ?_
    simp only [List.getElem_toArray, List.getElem_cons_succ, List.getElem_cons_zero]
    go_wp2_with (first | (go_at_call 75; (with_reducible refine Calls.mono (ilast _ (by assumption)) ?_); rintro e wk ⟨rfl, st⟩))
    refine ⟨mkStepX, ?_⟩
    refine rg_read (i := 3) (a1 := _) rfl (by kernel_rfl) rfl (by first | (simp; done) | (simp [Act.put]; done)) (by intro wq hwq; go_wp2; exact ⟨rfl, rfl⟩) mkStepX ?_
    refine rg_read (i := 4) (a1 := _) rfl (by kernel_rfl) rfl (by first | (simp; done) | (simp [Act.put]; done)) (by intro wq hwq; go_wp2; exact ⟨rfl, rfl⟩) mkStepX ?_
    refine rg_read (i := 5) (a1 := _) rfl (by kernel_rfl) rfl (by first | (simp; done) | (simp [Act.put]; done)) (by intro wq hwq; go_wp2; exact ⟨rfl, rfl⟩) mkStepX ?_
    refine rg_eff (i := 6) rfl (by kernel_rfl) ?_
    simp only [List.getElem_toArray, List.getElem_cons_succ, List.getElem_cons_zero]
    go_wp2_with fail
    with_reducible refine Calls.mono (itake (s := s) s.t.res _ (by omega) (by omega) hl) ?_
    rintro e w2 ⟨rfl, hS2, st2⟩
    rw [hb]
    go_wp2
    refine ⟨mkStepX, ?_⟩
    refine rg_read (i := 7) (a1 := _) rfl (by kernel_rfl) rfl (by first | (simp; done) | (simp [Act.put]; done)) (by intro wq hwq; go_wp2; exact ⟨rfl, rfl⟩) mkStepX ?_
    refine rg_read (i := 8) (a1 := _) rfl (by kernel_rfl) rfl (by first | (simp; done) | (simp [Act.put]; done)) (by intro wq hwq; go_wp2; exact ⟨rfl, rfl⟩) mkStepX ?_
    refine rg_read (i := 9) (a1 := _) rfl (by kernel_rfl) rfl (by first | (simp; done) | (simp [Act.put]; done)) (by intro wq hwq; go_wp2; exact ⟨rfl, rfl⟩) mkStepX ?_
    refine rg_read (i := 10) (a1 := _) rfl (by kernel_rfl) rfl (by first | (simp; done) | (simp [Act.put]; done)) (by intro wq hwq; go_wp2; exact ⟨rfl, rfl⟩) mkStepX ?_
    refine rg_read (i := 12) (a1 := _) rfl (by kernel_rfl) rfl (by first | (simp; done) | (simp [Act.put]; done)) (by intro wq hwq; go_wp2; exact ⟨rfl, rfl⟩) mkStepX ?_
    refine rg_two (i := 11) (j := 13) rfl rfl (by kernel_rfl) ?_ ?_
    · simp only [List.getElem_toArray, List.getElem_cons_succ, List.getElem_cons_zero]
      go_wp2_with (first | (go_at_call 75; (with_reducible refine Calls.mono (ilast _ (by assumption)) ?_); rintro e wk ⟨rfl, st⟩))
      refine ⟨mkStepX, ?_⟩
      refine rg_eff (i := 13) rfl (by kernel_rfl) ?_
      simp only [List.getElem_toArray, List.getElem_cons_succ, List.getElem_cons_zero]
      go_wp2_with (first | (go_at_call 75; (with_reducible refine Calls.mono (ilast _ (by assumption)) ?_); rintro e wk ⟨rfl, st⟩))
      refine ⟨mkStepX, ?_⟩
      refine rg_read (i := 14) (a1 := _) rfl (by kernel_rfl) rfl (by first | (simp; done) | (simp [Act.put]; done)) (by intro wq hwq; go_wp2; exact ⟨rfl, rfl⟩) mkStepX ?_
      refine rg_read (i := 15) (a1 := _) rfl (by kernel_rfl) rfl (by first | (simp; done) | (simp [Act.put]; done)) (by intro wq hwq; go_wp2; exact ⟨rfl, rfl⟩) mkStepX ?_
      refine rg_read (i := 16) (a1 := _) rfl (by kernel_rfl) rfl (by first | (simp; done) | (simp [Act.put]; done)) (by intro wq hwq; go_wp2; exact ⟨rfl, rfl⟩) mkStepX ?_
      refine rg_read (i := 17) (a1 := _) rfl (by kernel_rfl) rfl (by first | (simp; done) | (simp [Act.put]; done)) (by intro wq hwq; go_wp2; exact ⟨rfl, rfl⟩) mkStepX ?_
      refine rg_read (i := 18) (a1 := _) rfl (by kernel_rfl) rfl (by first | (simp; done) | (simp [Act.put]; done)) (by intro wq hwq; go_wp2; exact ⟨rfl, rfl⟩) mkStepX ?_
      refine rg_read (i := 19) (a1 := _) rfl (by kernel_rfl) rfl (by first | (simp; done) | (simp [Act.put]; done)) (by intro wq hwq; go_wp2; exact ⟨rfl, rfl⟩) mkStepX ?_
      refine rg_done (by kernel_rfl) ?_
      go_wp2
      go_ret
      exact ⟨by rw [hq.out]; rfl, inferInstance, mkStepX⟩
    · simp only [List.getElem_toArray, List.getElem_cons_succ, List.getElem_cons_zero]
      go_wp2_with (first | (go_at_call 75; (with_reducible refine Calls.mono (ilast _ (by assumption)) ?_); rintro e wk ⟨rfl, st⟩))
      refine ⟨mkStepX, ?_⟩
      refine rg_read (i := 14) (a1 := _) rfl (by kernel_rfl) rfl (by first | (simp; done) | (simp [Act.put]; done)) (by intro wq hwq; go_wp2; exact ⟨rfl, rfl⟩) mkStepX ?_
      refine rg_read (i := 15) (a1 := _) rfl (by kernel_rfl) rfl (by first | (simp; done) | (simp [Act.put]; done)) (by intro wq hwq; go_wp2; exact ⟨rfl, rfl⟩) mkStepX ?_
      refine rg_read (i := 16) (a1 := _) rfl (by kernel_rfl) rfl (by first | (simp; done) | (simp [Act.put]; done)) (by intro wq hwq; go_wp2; exact ⟨rfl, rfl⟩) mkStepX ?_
      refine rg_eff (i := 11) rfl (by kernel_rfl) ?_
      simp only [List.getElem_toArray, List.getElem_cons_succ, List.getElem_cons_zero]
      go_wp2_with (first | (go_at_call 75; (with_reducible refine Calls.mono (ilast _ (by assumption)) ?_); rintro e wk ⟨rfl, st⟩))
      refine ⟨mkStepX, ?_⟩
      refine rg_read (i := 17) (a1 := _) rfl (by kernel_rfl) rfl (by first | (simp; done) | (simp [Act.put]; done)) (by intro wq hwq; go_wp2; exact ⟨rfl, rfl⟩) mkStepX ?_
      refine rg_read (i := 18) (a1 := _) rfl (by kernel_rfl) rfl (by first | (simp; done) | (simp [Act.put]; done)) (by intro wq hwq; go_wp2; exact ⟨rfl, rfl⟩) mkStepX ?_
      refine rg_read (i := 19) (a1 := _) rfl (by kernel_rfl) rfl (by first | (simp; done) | (simp [Act.put]; done)) (by intro wq hwq; go_wp2; exact ⟨rfl, rfl⟩) mkStepX ?_
      refine rg_done (by kernel_rfl) ?_
      go_wp2
      go_ret
      exact ⟨by rw [hq.out]; rfl, inferInstance, mkStepX⟩
  · rw [hb, Bool.true_and] at hq
    replace hq := hid hq
    go_enter Tryz.func77, Tryz.ntmps77
    go_wp2_with fail
    refine rg_beginX [p] (n := 20) (by kernel_rfl) rfl fun rg0 => ?_
    refine rg_read (i := 0) (a1 := _) rfl (by kernel_rfl) rfl (by first | (simp; done) | (simp [Act.put]; done)) (by intro wq hwq; go_wp2; exact ⟨rfl, rfl⟩) mkStepX ?_
    refine rg_read (i := 1) (a1 := _) rfl (by kernel_rfl) rfl (by first | (simp; done) | (simp [Act.put]; done)) (by intro wq hwq; go_wp2; exact ⟨rfl, rfl⟩) mkStepX ?_
    refine rg_eff (i := 2) rfl (by kernel_rfl) ?_
    simp only [List.getElem_toArray, List.getElem_cons_succ, List.getElem_cons_zero]
    go_wp2_with (first | (go_at_call 75; (with_reducible refine Calls.mono (ilast _ (by assumption)) ?_); rintro e wk ⟨rfl, st⟩))
    refine ⟨mkStepX, ?_⟩
    refine rg_read (i := 3) (a1 := _) rfl (by kernel_rfl) rfl (by first | (simp; done) | (simp [Act.put]; done)) (by intro wq hwq; go_wp2; exact ⟨rfl, rfl⟩) mkStepX ?_
    refine rg_read (i := 4) (a1 := _) rfl (by kernel_rfl) rfl (by first | (simp; done) | (simp [Act.put]; done)) (by intro wq hwq; go_wp2; exact ⟨rfl, rfl⟩) mkStepX ?_
    refine rg_read (i := 5) (a1 := _) rfl (by kernel_rfl) rfl (by first | (simp; done) | (simp [Act.put]; done)) (by intro wq hwq; go_wp2; exact ⟨rfl, rfl⟩) mkStepX ?_
    refine rg_eff (i := 6) rfl (by kernel_rfl) ?_
    simp only [List.getElem_toArray, List.getElem_cons_succ, List.getElem_cons_zero]
    go_wp2_with fail
    with_reducible refine Calls.mono (itake (s := s) s.t.res _ (by omega) (by omega) hl) ?_
    rintro e w2 ⟨rfl, hS2, st2⟩
    rw [hb]
    obtain ⟨⟨cap2, bx2, own2⟩, -, -⟩ := id hS2
    replace bx2 : BoxL w2 p (iv M sg loc (tkH s.h s.t.base s.t.res) (.slice (some ⟨g, 0, none⟩) (s.lo.length + 1) cap2)) := bx2
    replace own2 := hid own2
    go_wp2
    refine ⟨mkStepX, ?_⟩
    refine rg_read (i := 7) (a1 := _) rfl (by kernel_rfl) rfl (by first | (simp; done) | (simp [Act.put]; done)) (by intro wq hwq; go_wp2; exact ⟨rfl, rfl⟩) mkStepX ?_
    refine rg_read (i := 8) (a1 := _) rfl (by kernel_rfl) rfl (by first | (simp; done) | (simp [Act.put]; done)) (by intro wq hwq; go_wp2; exact ⟨rfl, rfl⟩) mkStepX ?_
    refine rg_read (i := 9) (a1 := _) rfl (by kernel_rfl) rfl (by first | (simp; done) | (simp [Act.put]; done)) (by intro wq hwq; go_wp2; exact ⟨rfl, rfl⟩) mkStepX ?_
    refine rg_read (i := 10) (a1 := _) rfl (by kernel_rfl) rfl (by first | (simp; done) | (simp [Act.put]; done)) (by intro wq hwq; go_wp2; exact ⟨rfl, rfl⟩) mkStepX ?_
    refine rg_read (i := 12) (a1 := _) rfl (by kernel_rfl) rfl (by first | (simp; done) | (simp [Act.put]; done)) (by intro wq hwq; go_wp2; exact ⟨rfl, rfl⟩) mkStepX ?_
    refine rg_two (i := 11) (j := 13) rfl rfl (by kernel_rfl) ?_ ?_
    · simp only [List.getElem_toArray, List.getElem_cons_succ, List.getElem_cons_zero]
      go_wp2_with (first | (go_at_call 75; (with_reducible refine Calls.mono (ilast _ (by assumption)) ?_); rintro e wk ⟨rfl, st⟩))
      refine ⟨mkStepX, ?_⟩
      refine rg_eff (i := 13) rfl (by kernel_rfl) ?_
      simp only [List.getElem_toArray, List.getElem_cons_succ, List.getElem_cons_zero]
      go_wp2_with fail
      with_reducible refine Calls.mono (ilast (s := s.take s.t.res) _ hl2) ?_
      rintro e w3 ⟨rfl, st3⟩
      simp only [ChkS.take]
      go_wp2
      refine ⟨mkStepX, ?_⟩
      refine rg_read (i := 14) (a1 := _) rfl (by kernel_rfl) rfl (by first | (simp; done) | (simp [Act.put]; done)) (by intro wq hwq; go_wp2; exact ⟨rfl, rfl⟩) mkStepX ?_
      refine rg_read (i := 15) (a1 := _) rfl (by kernel_rfl) rfl (by first | (simp; done) | (simp [Act.put]; done)) (by intro wq hwq; go_wp2; exact ⟨rfl, rfl⟩) mkStepX ?_
      refine rg_read (i := 16) (a1 := _) rfl (by kernel_rfl) rfl (by first | (simp; done) | (simp [Act.put]; done)) (by intro wq hwq; go_wp2; exact ⟨rfl, rfl⟩) mkStepX ?_
      refine rg_read (i := 17) (a1 := _) rfl (by kernel_rfl) rfl (by first | (simp; done) | (simp [Act.put]; done)) (by intro wq hwq; go_wp2; exact ⟨rfl, rfl⟩) mkStepX ?_
      refine rg_read (i := 18) (a1 := _) rfl (by kernel_rfl) rfl (by first | (simp; done) | (simp [Act.put]; done)) (by intro wq hwq; go_wp2; exact ⟨rfl, rfl⟩) mkStepX ?_
      refine rg_read (i := 19) (a1 := _) rfl (by kernel_rfl) rfl (by first | (simp; done) | (simp [Act.put]; done)) (by intro wq hwq; go_wp2; exact ⟨rfl, rfl⟩) mkStepX ?_
      refine rg_done (by kernel_rfl) ?_
      go_wp2
      go_ret
      exact ⟨by rw [hq.out]; rfl, inferInstance, mkStepX⟩
    · simp only [List.getElem_toArray, List.getElem_cons_succ, List.getElem_cons_zero]
      go_wp2_with fail
      with_reducible refine Calls.mono (ilast (s := s.take s.t.res) _ hl2) ?_
      rintro e w3 ⟨rfl, st3⟩
      simp only [ChkS.take]
      go_wp2
      refine ⟨mkStepX, ?_⟩
      refine rg_read (i := 14) (a1 := _) rfl (by kernel_rfl) rfl (by first | (simp; done) | (simp [Act.put]; done)) (by intro wq hwq; go_wp2; exact ⟨rfl, rfl⟩) mkStepX ?_
      refine rg_read (i := 15) (a1 := _) rfl (by kernel_rfl) rfl (by first | (simp; done) | (simp [Act.put]; done)) (by intro wq hwq; go_wp2; exact ⟨rfl, rfl⟩) mkStepX ?_
      refine rg_read (i := 16) (a1 := _) rfl (by kernel_rfl) rfl (by first | (simp; done) | (simp [Act.put]; done)) (by intro wq hwq; go_wp2; exact ⟨rfl, rfl⟩) mkStepX ?_
      refine rg_eff (i := 11) rfl (by kernel_rfl) ?_
      simp only [List.getElem_toArray, List.getElem_cons_succ, List.getElem_cons_zero]
      go_wp2_with (first | (go_at_call 75; (with_reducible refine Calls.mono (ilast _ (by assumption)) ?_); rintro e wk ⟨rfl, st⟩))
      refine ⟨mkStepX, ?_⟩
      refine rg_read (i := 17) (a1 := _) rfl (by kernel_rfl) rfl (by first | (simp; done) | (simp [Act.put]; done)) (by intro wq hwq; go_wp2; exact ⟨rfl, rfl⟩) mkStepX ?_
      refine rg_read (i := 18) (a1 := _) rfl (by kernel_rfl) rfl (by first | (simp; done) | (simp [Act.put]; done)) (by intro wq hwq; go_wp2; exact ⟨rfl, rfl⟩) mkStepX ?_
      refine rg_read (i := 19) (a1 := _) rfl (by kernel_rfl) rfl (by first | (simp; done) | (simp [Act.put]; done)) (by intro wq hwq; go_wp2; exact ⟨rfl, rfl⟩) mkStepX ?_
      refine rg_done (by kernel_rfl) ?_
      go_wp2
      go_ret
      exact ⟨by rw [hq.out]; rfl, inferInstance, mkStepX⟩
end Go.Proofs.YtfddmelikahfbaaGreatDoor
