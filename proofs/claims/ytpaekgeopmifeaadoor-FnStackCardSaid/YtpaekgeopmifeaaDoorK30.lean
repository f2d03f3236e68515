/- Contracts: what goes through a body, spec's side: a step, the begin, FaultAt. -/
import Derived.Test.YtpaekgeopmifeaaDoorK17
import Derived.Test.YtpaekgeopmifeaaDoorK29
namespace Go.Proofs.YtpaekgeopmifeaaDoor
attribute [local go_sem ↓] Go.wp_at_zero Go.wp_at_succ
open Go.RowKit
open Rep (Is sz)

instance (priority := 95) box_newI {w : World} {C : Array Value} {e : TypeId} : BoxAt (w.alloc (.cells C e)) w.heap.size C := ⟨Box.new w C e⟩
theorem plain_no {m : ModuleD} {loc : Int} {s : ChkS} {i : InsD} (h : hasC m loc i = false) : plainC m loc s i = (false, s) := by unfold plainC; rw [h]; rfl
theorem plain_on {m : ModuleD} {loc : Int} {s : ChkS} {i : InsD} (h : hasC m loc i = true) : plainC m loc s i = (s.takeB (takesC m i).1, (s.take (takesC m i).1).add (takesC m i).2) := by unfold plainC; rw [h]; rfl

set_option maxRecDepth 10000 in
set_option maxHeartbeats 2000000 in
theorem sstep {p B g : Nat} {F : List Nat} {M : MH} {loc R : Int} {K : Nat} {sh sh' : List Bool} {s : ChkS} (m : ModuleD) (i : InsD) (w : World) (pa : PartsP m) (v : Inv R K sh s) (hK : K ≤ 9000) (hR : 0 ≤ R ∧ R ≤ 1) (hi : insOk i = true) (hs : shStep sh i.op = some sh') [hS : SB w p B g M loc s false] [hm : Shows w F m M.cells] :
    Calls Tryd.prog 15 #[.pointer (some ⟨p, 0, none⟩), .agg #[.int .i64 i.op, .int .i64 i.a, .int .i64 i.b]] w fun e w' => e = .returned (.tuple #[]) ∧ ∃ g' b' s', stepC m loc R s i = (b', s') ∧ SB w' p B g' M loc s' (!b') ∧ (g' = g ∨ w.heap.size ≤ g') ∧ StepX [p, g] w w' := by
  have hv := v.nums
  have hlt := hS.lt
  have hne := hS.ne
  have nb : NeB g p := ⟨hne⟩
  have nb' : NeB p g := ⟨hne.symm⟩
  have ag : Arg g w := ⟨hlt.2.1⟩
  have ap : Arg p w := ⟨hlt.1⟩
  have og : Old g w := ⟨hlt.2.1⟩
  have opp : Old p w := ⟨hlt.1⟩
  have kk := hm.known
  cases hf : flowOp i.op
  rotate_left
  · have r := hid (step_flow (m := m) (loc := loc) (R := R) (s := s) hf)
    go_enter Tryd.func15, Tryd.ntmps15
    go_wp2_with fail
    with_reducible refine Calls.mono (sflow (s := s) i _ hf v hK hR hi hs) ?_
    rintro e w1 ⟨rfl, g1, b1, s1, e1, hS1, hg1, st1⟩
    replace e1 := hid e1
    go_wp2
    (try simp only [Exit.inBlock, Exit.then]); refine bodyPost_ret (results_none rfl _ _ _) rfl ?_
    exact ⟨rfl, g1, b1, s1, r.out.trans e1.out, hS1, by simp at hg1; omega, mkStepX⟩
  · have r := hid (step_plain (m := m) (loc := loc) (R := R) (s := s) hf)
    go_enter Tryd.func15, Tryd.ntmps15
    go_wp2_with fail
    with_reducible refine Calls.mono (sflow_no i _ hf) ?_
    rintro e w1 ⟨rfl, st1⟩
    go_wp2_with fail
    with_reducible refine Calls.mono (shas (s := s) (bad := false) m i _ pa hi) ?_
    rintro e w2 ⟨rfl, st2⟩
    cases hh : hasC m loc i
    · have r2 := hid (r.out.trans (plain_no hh))
      clear r
      obtain ⟨⟨cap, bx, own⟩, -, bp⟩ := id hS
      have own1 : w2.ownsRow B 52 4 (.slice (some ⟨g, 0, none⟩) (s.lo.length + 1) cap) (s.lo.length + 1) (s.all.flatMap sfr) := own_keep own
      have own3 := hid (ownsRow_fr own1 ((Fr.refl [p] w2).setCell (p := ⟨p, 11, none⟩) (.inl (by simp)) (.bool true)) (by simp only [blk, List.mem_singleton]; rintro x rfl; exact hne))
      replace own := hid own
      replace own1 := hid own1
      go_wp2
      (try simp only [Exit.inBlock, Exit.then]); refine bodyPost_ret (results_none rfl _ _ _) rfl ?_
      exact ⟨rfl, g, _, _, r2.out, ⟨⟨cap, boxSet (sv_bad ..), own3.out⟩, hne, bp⟩, .inl rfl, mkStepX⟩
    · have r2 := hid (r.out.trans (plain_on hh))
      clear r
      have hb := takesC_le pa.sigs i
      obtain ⟨t, ht⟩ : ∃ t, takesC m i = t := ⟨_, rfl⟩
      rw [ht] at r2 hb
      obtain ⟨t1, t2⟩ := t
      simp only at hb r2
      obtain ⟨⟨cap0, bx0, own0⟩, -, bp⟩ := id hS
      replace own0 := hid own0
      go_wp2_with fail
      refine rg_begin (n := 11) (Step w2) (by kernel_rfl) rfl ?_
      have rg0 := (show (Step w2) (World.drew _) from ⟨(Fr.refl [] _).drew⟩)
      refine rg_read (i := 0) (a1 := _) rfl (by kernel_rfl) rfl (by simp) (by intro wq hwq; go_wp2; exact ⟨rfl, rfl⟩) rg0 ?_
      refine rg_read (i := 1) (a1 := _) rfl (by kernel_rfl) rfl (by simp) (by intro wq hwq; go_wp2; exact ⟨rfl, rfl⟩) rg0 ?_
      refine rg_read (i := 2) (a1 := _) rfl (by kernel_rfl) rfl (by simp) (by intro wq hwq; go_wp2; exact ⟨rfl, rfl⟩) rg0 ?_
      refine rg_read (i := 3) (a1 := _) rfl (by kernel_rfl) rfl (by simp) (by intro wq hwq; go_wp2; exact ⟨rfl, rfl⟩) rg0 ?_
      refine rg_read (i := 4) (a1 := _) rfl (by kernel_rfl) rfl (by simp) (by intro wq hwq; go_wp2; exact ⟨rfl, rfl⟩) rg0 ?_
      refine rg_eff (i := 5) rfl (by kernel_rfl) ?_
      simp only [List.getElem_toArray, List.getElem_cons_succ, List.getElem_cons_zero]
      go_wp2_with fail
      with_reducible refine Calls.mono (stakes m i _ pa) ?_
      rintro e w3 ⟨rfl, st3⟩
      rw [ht]
      have st5 : Step w2 w3 := mkStep
      go_wp2
      refine ⟨st5, ?_⟩
      refine rg_read (i := 6) (a1 := _) rfl (by kernel_rfl) rfl (by simp) (by intro wq hwq; go_wp2; exact ⟨rfl, rfl⟩) st5 ?_
      refine rg_read (i := 7) (a1 := _) rfl (by kernel_rfl) rfl (by simp) (by intro wq hwq; go_wp2; exact ⟨rfl, rfl⟩) st5 ?_
      refine rg_read (i := 8) (a1 := _) rfl (by kernel_rfl) rfl (by simp) (by intro wq hwq; go_wp2; exact ⟨rfl, rfl⟩) st5 ?_
      refine rg_read (i := 9) (a1 := _) rfl (by kernel_rfl) rfl (by simp) (by intro wq hwq; go_wp2; exact ⟨rfl, rfl⟩) st5 ?_
      refine rg_read (i := 10) (a1 := _) rfl (by kernel_rfl) rfl (by simp) (by intro wq hwq; go_wp2; exact ⟨rfl, rfl⟩) st5 ?_
      refine rg_done (by kernel_rfl) ?_
      have hS3 : SB w3 p B g M loc s false := inferInstance
      go_wp2_with fail
      with_reducible refine Calls.mono (stake0 (s := s) t1 _ (by omega) (by omega)) ?_
      rintro e w4 ⟨rfl, hS4, st4⟩
      obtain ⟨⟨cap, bx, own⟩, -, -⟩ := hS4
      have own3 := hid (ownsRow_fr own ((Fr.refl [p] w4).setCell (p := ⟨p, 9, none⟩) (.inl (by simp)) (.int .i64 (tkH s.h s.t.base t1 + t2))) (by simp only [blk, List.mem_singleton]; rintro x rfl; exact hne))
      replace own := hid own
      have h1 := tkH_ge (h := s.h) (b := s.t.base) (n := t1)
      have h2 := tkH_le (h := s.h) (b := s.t.base) (n := t1) (by omega) (by omega)
      replace bx : BoxL w4 p (sv M loc (tkH s.h s.t.base t1) (.slice (some ⟨g, 0, none⟩) (s.lo.length + 1) cap) (!s.takeB t1)) := bx
      go_wp2
      go_end0
      exact ⟨rfl, g, _, _, r2.out, ⟨⟨cap, boxSet (sv_h ..), own3.out⟩, hne, bp⟩, .inl rfl, mkStepX⟩

set_option maxRecDepth 10000 in
set_option maxHeartbeats 1000000 in
theorem sbegin {F : List Nat} {cs : List Value} (m : ModuleD) (i : Nat) (w : World) (pa : PartsP m) (hi : i < m.funcs.length) [hm : Shows w F m cs] :
    Calls Tryd.prog 14 #[.agg cs.toArray, .int .i64 (i : Int)] w fun e w' => ∃ p g M, e = .returned (.pointer (some ⟨p, 0, none⟩)) ∧ cs = MH.cells M ∧ SB w' p w.heap.size g M (locC m i) (startC (sgC m i).results) false ∧ Step w w' := by
  have kk := hm.known
  obtain ⟨M, hM⟩ := mh_of hm.is
  have hm2 : Is w F m M.cells := hM ▸ hm.is
  obtain ⟨a1, k1, a2, k2, a3, k3, a4, k4, a5, k5, a6, k6, F1, F2, F3, F4, F5, F6, rfl, rfl, h1, h2, h3, h4, h5, h6, i3, i4⟩ := mh_open hm2
  clear hm hm2
  subst hM
  obtain ⟨_, _, cl1, FF1, hv, _, hvw1, hr1, hml1⟩ := list_open h1
  cases hv
  unfold maxLen at hml1
  obtain ⟨_, _, cl3, FF3, hv, _, hvw3, hr3, hml3⟩ := list_open h3
  cases hv
  unfold maxLen at hml3
  have pf := pa.fns _ (List.getElem_mem hi)
  obtain ⟨q, hq⟩ := Int.eq_ofNat_of_zero_le pf.s0
  have hq2 : q < m.sigs.length := by have := pf.s1; omega
  have ps := pa.sigs _ (List.getElem_mem hq2)
  have e1 : sgC m i = m.sigs[q] := by unfold sgC; rw [fnC_at hi, hq, Int.toNat_natCast, getD_in _ hq2]
  have e2 : locC m i = m.sigs[q].params + m.funcs[i].locals := by unfold locC; rw [e1, fnC_at hi]
  rw [e1, e2]
  have b1 : 0 ≤ m.sigs[q].params ∧ m.sigs[q].params ≤ 60 := ⟨ps.p0, ps.p1⟩
  have b2 : 0 ≤ m.funcs[i].locals ∧ m.funcs[i].locals ≤ 60 := ⟨pf.l0, pf.l1⟩
  obtain ⟨be, oe, Ge, cse, rfl, hGe, hIe, hce, hoe⟩ := hvw3.row hr3 rfl (by decide) i hi
  have hI0e := hIe
  obtain ⟨a1e, k1e, F1e, rfl, rfl, h1e, i0e, i1e⟩ := func_open hI0e
  have kee : Known w _ m.funcs[i] _ := ⟨hIe⟩
  have c0e := (hce 0 _ rfl).1
  replace c0e : w.cell? ⟨be, oe + i * 3, none⟩ = _ := c0e
  have c1e := (hce 1 _ rfl).1
  replace c1e : w.cell? ⟨be, oe + i * 3 + 1, none⟩ = _ := c1e
  have c2e := (hce 2 _ rfl).1
  replace c2e : w.cell? ⟨be, oe + i * 3 + 2, none⟩ = _ := c2e
  clear hce
  obtain ⟨bf, of, Gf, csf, rfl, hGf, hIf, hcf, hof⟩ := hvw1.row hr1 rfl (by decide) q hq2
  have hI0f := hIf
  obtain ⟨rfl, rfl, i0f, i1f⟩ := sig_open hI0f
  have kef : Known w _ m.sigs[q] _ := ⟨hIf⟩
  have c0f := (hcf 0 _ rfl).1
  replace c0f : w.cell? ⟨bf, of + q * 2, none⟩ = _ := c0f
  have c1f := (hcf 1 _ rfl).1
  replace c1f : w.cell? ⟨bf, of + q * 2 + 1, none⟩ = _ := c1f
  clear hcf
  rw [hq] at c0e
  clear e1 e2 hq pf ps pa
  go_enter Tryd.func14, Tryd.ntmps14
  go_wp2
  go_ret
  refine ⟨w.heap.size + 1 + 1 + 1 + 1, w.heap.size + 1 + 1 + 1, _, rfl, rfl, ⟨⟨1, ⟨by apply Box.newAt; simp⟩, ?_⟩, by omega, by omega⟩, mkStep⟩
  exact ownsRow_fr (own_litAt (by simp) rfl (by simp; omega) (show 0 + 1 ≤ maxLen by unfold maxLen; omega) rfl) ((Fr.refl [] _).alloc _) (by simp)

theorem bodyB_at {l : List InsD} (h : bodyB l = true) : (∀ k (hk : k < l.length), insOk l[k] = true) ∧ l.length ≤ 1500 ∧ shapeB l = true := by
  unfold bodyB at h
  simp only [Bool.and_eq_true, decide_eq_true_eq, List.all_eq_true] at h
  exact ⟨fun k hk => h.1 _ (List.getElem_mem hk), by omega, h.2.2⟩
theorem shGo_step {l : List InsD} {k : Nat} (h : k < l.length) {s : List Bool} (q : shGo s (l.drop k) = true) : ∃ t, shStep s l[k].op = some t ∧ shGo t (l.drop (k + 1)) = true := by
  rw [shGo_at h] at q
  cases hq : shStep s l[k].op with
  | none => rw [hq] at q; cases q
  | some t => rw [hq] at q; exact ⟨t, rfl, q⟩

set_option maxRecDepth 10000 in
set_option maxHeartbeats 2000000 in
theorem sfault {F : List Nat} {cs : List Value} (m : ModuleD) (i : Int) (w : World) (hz : moduleCost m ≤ 1048576) [hm : Shows w F m cs] :
    Calls Tryd.prog 13 #[.agg cs.toArray, .int .i64 i] w fun e w' => e = .returned (.int .i64 (faultAt m i)) ∧ Step w w' := by
  have kk := hm.known
  have hB0 := fun (pa : PartsP m) (i0 : Nat) (h : i0 < m.funcs.length) (w' : World) (hh : Shows w' F m cs) => sbegin m i0 w' pa h (hm := hh)
  obtain ⟨a1, k1, a2, k2, a3, k3, a4, k4, a5, k5, a6, k6, F1, F2, F3, F4, F5, F6, rfl, rfl, h1, h2, h3, h4, h5, h6, i3, i4⟩ := module_open hm.is
  clear hm
  obtain ⟨_, _, cl3, FF3, hv, _, hvw3, hr3, hml3⟩ := list_open h3
  cases hv
  unfold maxLen at hml3
  cases hF : pB (FormP m)
  · have r := hid (faultAt_no (m := m) (i := i) (.inl fun h => by rw [pB_yes h] at hF; cases hF))
    go_enter Tryd.func13, Tryd.ntmps13
    go_wp2_with fail
    with_reducible refine Calls.mono (sform m _ hz) ?_
    rintro e w1 ⟨rfl, st1⟩
    rw [hF]
    go_wp2
    go_ret
    exact ⟨by rw [r.out]; rfl, mkStep⟩
  have fo : FormP m := pB_iff.1 hF
  have pa := fo.pa
  by_cases hi : i < 0 ∨ (m.funcs.length : Int) ≤ i
  · have r := hid (faultAt_no (m := m) (.inr hi))
    by_cases h0 : i < 0
    · clear hi
      go_enter Tryd.func13, Tryd.ntmps13
      go_wp2_with (go_at_call 26; (with_reducible refine Calls.mono (sform m _ hz) ?_); rintro e wk ⟨rfl, st⟩; rw [hF])
      go_ret
      exact ⟨by rw [r.out]; rfl, mkStep⟩
    · have h1 : (m.funcs.length : Int) ≤ i := by omega
      clear hi
      go_enter Tryd.func13, Tryd.ntmps13
      go_wp2_with (go_at_call 26; (with_reducible refine Calls.mono (sform m _ hz) ?_); rintro e wk ⟨rfl, st⟩; rw [hF])
      go_ret
      exact ⟨by rw [r.out]; rfl, mkStep⟩
  obtain ⟨i0, rfl⟩ := Int.eq_ofNat_of_zero_le (a := i) (by omega)
  have hi2 : i0 < m.funcs.length := by omega
  clear hi
  have r := hid (faultAt_yes fo hi2)
  have pf := pa.fns _ (List.getElem_mem hi2)
  have ef := fnC_at hi2
  have hb := bodyB_at pf.bd
  have ps : SigP (sgC m i0) := by
    unfold sgC
    rw [ef]
    have := pf.s0
    have := pf.s1
    rw [getD_in _ (show m.funcs[i0].sig.toNat < m.sigs.length by omega)]
    exact pa.sigs _ (List.getElem_mem _)
  obtain ⟨be, oe, Ge, cse, rfl, hGe, hIe, hce, hoe⟩ := hvw3.row hr3 rfl (by decide) i0 hi2
  have hI0e := hIe
  obtain ⟨a1e, k1e, F1e, rfl, rfl, h1e, i0e, i1e⟩ := func_open hI0e
  have kee : Known w _ m.funcs[i0] _ := ⟨hIe⟩
  have c0e := (hce 0 _ rfl).1
  replace c0e : w.cell? ⟨be, oe + i0 * 3, none⟩ = _ := c0e
  have c1e := (hce 1 _ rfl).1
  replace c1e : w.cell? ⟨be, oe + i0 * 3 + 1, none⟩ = _ := c1e
  have c2e := (hce 2 _ rfl).1
  replace c2e : w.cell? ⟨be, oe + i0 * 3 + 2, none⟩ = _ := c2e
  clear hce
  have kb : Known w F1e m.funcs[i0].body [.slice a1e m.funcs[i0].body.length k1e] := ⟨h1e⟩
  obtain ⟨_, _, cl, FF, hv, _, hvw, hr, hml⟩ := list_open h1e
  cases hv
  unfold maxLen at hml
  obtain ⟨l, hl⟩ : ∃ l, m.funcs[i0].body = l := ⟨_, rfl⟩
  have hrun : faultF m i0 = faultGo m (locC m i0) (sgC m i0).results (startC (sgC m i0).results) l 0 := by unfold faultF; rw [ef, hl]
  rw [hl] at hb c2e kb hvw hr hml
  clear hl ef pf h1e hIe hI0e kee
  obtain ⟨loc, hloc⟩ : ∃ loc, locC m i0 = loc := ⟨_, rfl⟩
  obtain ⟨R, hR⟩ : ∃ R, (sgC m i0).results = R := ⟨_, rfl⟩
  have hR1 : 0 ≤ R ∧ R ≤ 1 := by rw [← hR]; exact ⟨ps.r0, ps.r1⟩
  have hB := hB0 pa i0 hi2
  rw [hloc, hR] at hrun hB
  replace hrun := hid (r.out.trans hrun)
  clear r ps hR hloc fo hB0
  go_enter Tryd.func13, Tryd.ntmps13
  go_wp2_with (first | (go_at_call 26; (with_reducible refine Calls.mono (sform m _ hz) ?_); rintro e w1 ⟨rfl, st1⟩; rw [hF]) | (go_at_call 14; (with_reducible refine Calls.mono (hB _ inferInstance) ?_); rintro e w2 ⟨p, g, M, rfl, hM0, hS2, st2⟩; have hM := hid hM0; clear hM0))
  have hp2 := hS2.bp
  have hg2 := hS2.lt.2.2
  have hgr := st1.fr.size
  have np : NewB w p := ⟨by simp at hgr; omega⟩
  have hgw : w.heap.size + 1 ≤ g := by simp at hgr; omega
  have nbx : NeB w.heap.size p := ⟨by simp at hgr; omega⟩
  have nby : NeB w.heap.size g := ⟨by omega⟩
  have nbe : NeB be p := ⟨by have := hoe.lt; have := np.le; omega⟩
  have bm : BoxL w2 w.heap.size #[.slice a1 m.sigs.length k1, .slice a2 m.imports.length k2, .slice (some ⟨be, oe, none⟩) m.funcs.length k3, .int .i64 m.pages, .int .i64 m.most, .slice a4 m.globals.length k4, .slice a5 m.exports.length k5, .slice a6 m.data.length k6] := boxOf
  rw [hM.out] at kk
  have aF : Apart (F1 ++ F2 ++ F3 ++ F4 ++ F5 ++ F6) [p] := ⟨fun x hx => by have := Rep.lt kk.is x hx; have := np.le; simp; omega⟩
  clear hB hp2 hg2 hgr
  go_loopw [32] (fun i wr => ∃ (k : Nat) (sh : List Bool) (s : ChkS) (g' : Nat), k ≤ l.length ∧ i = .int .i64 k ∧ Inv R k sh s ∧ Hid (shGo sh (l.drop k) = true) ∧ SB wr p w1.heap.size g' M loc s false ∧ w.heap.size + 1 ≤ g' ∧ Step w wr ∧ BoxL wr w.heap.size #[.slice a1 m.sigs.length k1, .slice a2 m.imports.length k2, .slice (some ⟨be, oe, none⟩) m.funcs.length k3, .int .i64 m.pages, .int .i64 m.most, .slice a4 m.globals.length k4, .slice a5 m.exports.length k5, .slice a6 m.data.length k6] ∧ Hid (faultAt m (i0 : Nat) = faultGo m loc R s (l.drop k) k)) (fun i _ => l.length - (intOf i).toNat)
  case atStart => exact ⟨0, [], startC R, g, by omega, rfl, Inv.start hR1, hid hb.2.2, hS2, hgw, mkStep, bm, hrun⟩
  case round =>
    obtain ⟨k, sh, s, g', hk, rfl, v, hsh, hS, hgw', st, bmr, heq⟩ := hrel
    have ng' : NewB w g' := ⟨by omega⟩
    have nby' : NeB w.heap.size g' := ⟨by omega⟩
    have obm := bmr.old
    by_cases hlt : k < l.length
    · have hi := hb.1 k hlt
      obtain ⟨sh', hs1, hs2⟩ := shGo_step hlt hsh.out
      replace hs2 := hid hs2
      obtain ⟨bx, ox, Gx, csx, rfl, hGx, hIx, hcx, hox⟩ := hvw.row hr rfl (by decide) k hlt
      have hI0x := hIx
      obtain ⟨rfl, rfl, i0x, i1x, i2x⟩ := ins_open hI0x
      have kex : Known w _ l[k] _ := ⟨hIx⟩
      have c0x := (hcx 0 _ rfl).1
      replace c0x : w.cell? ⟨bx, ox + k * 3, none⟩ = _ := c0x
      have c1x := (hcx 1 _ rfl).1
      replace c1x : w.cell? ⟨bx, ox + k * 3 + 1, none⟩ = _ := c1x
      have c2x := (hcx 2 _ rfl).1
      replace c2x : w.cell? ⟨bx, ox + k * 3 + 2, none⟩ = _ := c2x
      clear hcx
      go_wp2_with fail
      with_reducible refine Calls.mono (sstep (s := s) m l[k] _ pa v (by omega) hR1 hi hs1) ?_
      rintro e w3 ⟨rfl, g3, b3, s3, e3, hS3, hg3, st3⟩
      have v3 := Inv.step (loc := loc) v pa.sigs hi hs1
      rw [e3] at v3
      cases b3
      · have hz := hid (heq.out.trans (fault_no hlt (by rw [e3])))
        obtain ⟨⟨cap, bx, own⟩, -, bp⟩ := hS3
        replace bx : BoxL w3 p (sv M loc s3.h (.slice (some ⟨g3, 0, none⟩) (s3.lo.length + 1) cap) true) := bx
        replace own := hid own
        replace e3 := hid e3
        go_wp2
        go_ret
        exact ⟨by rw [hz.out]; rfl, mkStep⟩
      · have hz := hid (heq.out.trans (fault_on hlt e3))
        obtain ⟨⟨cap, bx, own⟩, -, bp⟩ := id hS3
        replace bx : BoxL w3 p (sv M loc s3.h (.slice (some ⟨g3, 0, none⟩) (s3.lo.length + 1) cap) false) := bx
        replace own := hid own
        replace e3 := hid e3
        have hg9 := st.fr.size
        go_wp2
        go_roundw
        case rel => exact ⟨k + 1, sh', s3, g3, by omega, by go_num, v3, hs2, inferInstance, by simp at hg3; omega, mkStep, boxOf, hz⟩
        case measure => simp [intOf]; omega
    · have hz := hid (heq.out.trans (fault_end (by omega)))
      have ek : k = l.length := by omega
      subst ek
      go_wp2_with fail
      with_reducible refine Calls.mono (sclose0 (s := s) _ v (by omega)) ?_
      rintro e w3 ⟨rfl, hS3, st3⟩
      obtain ⟨⟨cap, bx, own⟩, -, bp⟩ := id hS3
      replace own := hid own
      cases hc : s.closeB
      · rw [hc] at bx
        replace bx : BoxL w3 p (sv M loc (s.take s.t.res).h (.slice (some ⟨g', 0, none⟩) ((s.take s.t.res).lo.length + 1) cap) true) := bx
        go_wp2
        go_ret
        exact ⟨by rw [hz.out, hc]; rfl, mkStep⟩
      · rw [hc] at bx
        replace bx : BoxL w3 p (sv M loc (s.take s.t.res).h (.slice (some ⟨g', 0, none⟩) ((s.take s.t.res).lo.length + 1) cap) false) := bx
        go_wp2
        go_ret
        exact ⟨by rw [hz.out, hc]; rfl, mkStep⟩
end Go.Proofs.YtpaekgeopmifeaaDoor
