/- Contracts: StackAt and MaxStack, spec's side. Contracts: MaxStack, spec's side. A law's argument that is a slice, or a struct, as plain data. Laid tables of utf8 as the law's row lists them. The walk of FnStack. -/
import Derived.Test.YtpaekgeopmifeaaDoorK38
import Derived.Test.YtpaekgeopmifeaaDoorK02
import Derived.Test.YtpaekgeopmifeaaDoorK31
import Derived.MakeChecks
import Derived.Test.YtpaekgeopmifeaaDoorK20
import Derived.Test.YtpaekgeopmifeaaDoorK27
import Derived.Test.YtpaekgeopmifeaaDoorK12
namespace Go.Proofs.YtpaekgeopmifeaaDoor
attribute [local go_sem ↓] Go.wp_at_zero Go.wp_at_succ
open Go.RowKit
open Rep (Is sz)

set_option maxRecDepth 10000 in
set_option maxHeartbeats 4000000 in
theorem sstack {F : List Nat} {cs : List Value} (m : ModuleD) (i : Int) (w : World) (hz : moduleCost m ≤ 1048576) [hm : Shows w F m cs] :
    Calls Tryd.prog 6 #[.agg cs.toArray, .int .i64 i] w fun e w' => ∃ a c G, e = .returned (.tuple #[.slice a (stackL m i).length c, .bool (stackB m i)]) ∧ Known w' G (stackL m i) [.slice a (stackL m i).length c] ∧ NewF w G ∧ Step w w' := by
  have kk := hm.known
  have hB0 := fun (pa : PartsP m) (i0 : Nat) (h : i0 < m.funcs.length) (w' : World) (hh : Shows w' F m cs) => sbegin m i0 w' pa h (hm := hh)
  obtain ⟨a1, k1, a2, k2, a3, k3, a4, k4, a5, k5, a6, k6, F1, F2, F3, F4, F5, F6, rfl, rfl, h1, h2, h3, h4, h5, h6, i3, i4⟩ := module_open hm.is
  clear hm
  by_cases hf : faultAt m i = -1
  rotate_left
  · obtain ⟨e1, e2⟩ := stack_no hf
    have hn : (faultAt m i != -1) = true := by simpa using hf
    rw [e1, e2]
    go_enter Tryd.func6, Tryd.ntmps6
    go_wp2_with fail
    with_reducible refine Calls.mono (sfault m i _ hz) ?_
    rintro e w1 ⟨rfl, st1⟩
    replace hf := hid hf
    replace e1 := hid e1
    replace e2 := hid e2
    go_wp2
    go_ret2
    exact ⟨none, 0, [], rfl, ⟨ints_shut (l := []) (View.nil _ _ _) (by simp) (by simp)⟩, newf_nil _, mkStep⟩
  obtain ⟨i0, rfl, fo, hi2, hff, e1, e2⟩ := fault_in hf
  have pa := fo.pa
  have hin := heightsF_in pa hi2
  rw [e1, e2]
  obtain ⟨_, _, cl3, FF3, hv, _, hvw3, hr3, hml3⟩ := list_open h3
  cases hv
  unfold maxLen at hml3
  have pf := pa.fns _ (List.getElem_mem hi2)
  have ef := fnC_at hi2
  have hb := bodyB_at pf.bd
  have ps := sg_ok pa hi2
  obtain ⟨be, oe, Ge, cse, rfl, hGe, hIe, hce, hoe⟩ := hvw3.row hr3 rfl (by decide) i0 hi2
  have hI0e := hIe
  obtain ⟨a1e, k1e, F1e, rfl, rfl, h1e, i0e, i1e⟩ := func_open hI0e
  have kee : Known w _ m.funcs[i0] _ := ⟨hIe⟩
  have c0e := (hce 0 _ rfl).1
  replace c0e : w.cell? ⟨be, oe + i0 * 3, none⟩ = _ := c0e
  have c1e := (hce 1 _ rfl).1
  replace c1e : w.cell? ⟨be, oe + i0 * 3 + 1, none⟩ = _ := c1e
  have c2e := (hce 2 _ rfl).1
  replace c2e : w.cell? ⟨be, oe + i0 * 3 + 2, none⟩ = _ := c2e
  clear hce
  have kb : Known w F1e m.funcs[i0].body [.slice a1e m.funcs[i0].body.length k1e] := ⟨h1e⟩
  obtain ⟨_, _, cl, FF, hv, _, hvw, hr, hml⟩ := list_open h1e
  cases hv
  unfold maxLen at hml
  obtain ⟨l, hl⟩ : ∃ l, m.funcs[i0].body = l := ⟨_, rfl⟩
  obtain ⟨hF, hhF⟩ : ∃ x, heightsF m i0 = x := ⟨_, rfl⟩
  have hrun : faultF m i0 = faultGo m (locC m i0) (sgC m i0).results (startC (sgC m i0).results) l 0 := by unfold faultF; rw [ef, hl]
  have hrun2 : hF = heightsGo m (locC m i0) (sgC m i0).results (startC (sgC m i0).results) l := by rw [← hhF]; unfold heightsF; rw [ef, hl]
  rw [hhF] at hin ⊢
  rw [hl] at hb c2e kb hvw hr hml
  clear hl ef pf h1e hIe hI0e kee
  obtain ⟨loc, hloc⟩ : ∃ loc, locC m i0 = loc := ⟨_, rfl⟩
  obtain ⟨R, hR⟩ : ∃ R, (sgC m i0).results = R := ⟨_, rfl⟩
  have hR1 : 0 ≤ R ∧ R ≤ 1 := by rw [← hR]; exact ⟨ps.r0, ps.r1⟩
  have hB := hB0 pa i0 hi2
  rw [hloc, hR] at hrun hrun2 hB
  replace hrun := hid (hrun.symm.trans hff)
  replace hrun2 := hid hrun2
  replace e1 := hid e1
  replace e2 := hid e2
  replace hff := hid hff
  replace hhF := hid hhF
  clear ps hR hloc hB0
  have hn : ((-1 : Int) != -1) = false := rfl
  go_enter Tryd.func6, Tryd.ntmps6
  go_wp2_with fail
  with_reducible refine Calls.mono (sfault m (i0 : Int) _ hz) ?_
  rintro e w1 ⟨rfl, st1⟩
  rw [hf]
  replace hf := hid hf
  go_wp2_with fail
  with_reducible refine Calls.mono (hB _ inferInstance) ?_
  rintro e w2 ⟨p, g, M, rfl, hM0, hS2, st2⟩
  have hM := hid hM0
  clear hM0
  have hp2 := hS2.bp
  have hg2 := hS2.lt
  have hgr := st1.fr.size
  have hgr2 := st2.fr.size
  have np : NewB w p := ⟨by simp at hgr; omega⟩
  have hgw : w.heap.size + 1 ≤ g := by simp at hgr; omega
  have nbx : NeB w.heap.size p := ⟨by simp at hgr; omega⟩
  have nby : NeB w.heap.size g := ⟨by omega⟩
  have nbe : NeB be p := ⟨by have := hoe.lt; have := np.le; omega⟩
  have hpw : w.heap.size + 1 ≤ p := by simp at hgr; omega
  rw [hM.out] at kk
  have aF : Apart (F1 ++ F2 ++ F3 ++ F4 ++ F5 ++ F6) [p] := ⟨fun x hx => by have := Rep.lt kk.is x hx; have := np.le; simp; omega⟩
  clear hB hp2
  simp at hgr
  go_wp2_with fail
  refine wp_name ?_
  intro A sA
  have hA := sA.fr.size
  simp at hA
  have own0 : A.ownsRow w.heap.size 3 1 (.slice (some ⟨w2.heap.size, 0, none⟩) 0 0) 0 ([].map fun n => .int .i64 n) := ownsRow_fr (own_litAt rfl rfl (by omega) (by decide) rfl) sA.fr (by simp)
  have sbA : SB A p w1.heap.size g M loc (startC R) false := inferInstance
  have swA : Step w A := mkStep
  have hgA : w2.heap.size < A.heap.size := by omega
  clear sA
  go_loopw [7, 25] (fun o i wr => ∃ (k : Nat) (sh : List Bool) (s : ChkS) (g' : Nat) (hs : List Int) (ao : Option Addr) (co : Nat), k ≤ l.length ∧ i = .int .i64 k ∧ o = .slice ao hs.length co ∧ hs.length ≤ k ∧ Inv R k sh s ∧ Hid (shGo sh (l.drop k) = true) ∧ SB wr p w1.heap.size g' M loc s false ∧ wr.ownsRow w.heap.size 3 1 (.slice ao hs.length co) hs.length (hs.map fun n => .int .i64 n) ∧ (∀ x ∈ blk ao, x ≠ p ∧ x ≠ g' ∧ w.heap.size + 1 ≤ x) ∧ w.heap.size + 1 ≤ g' ∧ Step w wr ∧ Hid (faultGo m loc R s (l.drop k) k = -1) ∧ Hid (hF = hs ++ heightsGo m loc R s (l.drop k))) (fun _ i _ => l.length - (intOf i).toNat)
  case atStart => exact ⟨0, [], startC R, g, [], _, 0, by omega, rfl, rfl, by simp, Inv.start hR1, hid hb.2.2, sbA, own0, (fun x hx => by simp [blk] at hx; omega), hgw, swA, hrun, hrun2⟩
  case round =>
    obtain ⟨k, sh, s, g', hs, ao, co, hk, rfl, rfl, hsl, v, hsh, hS, hown, hbl, hgg, st, heq, heq2⟩ := hrel
    have hlt9 := hS.lt
    have ng' : NewB w g' := ⟨by omega⟩
    have og' : Old g' wr := ⟨hlt9.2.1⟩
    have opr : Old p wr := ⟨hlt9.1⟩
    have ap9 : Arg p wr := ⟨hlt9.1⟩
    have hv := v.nums
    have hown9 := ownsRow_blk hown
    by_cases hlt : k < l.length
    · have hi := hb.1 k hlt
      obtain ⟨sh', hs1, hs2⟩ := shGo_step hlt hsh.out
      obtain ⟨hok, hrest⟩ := fault_right hlt heq.out
      replace hs2 := hid hs2
      have v3 := Inv.step (loc := loc) v pa.sigs hi hs1
      obtain ⟨bx, ox, Gx, csx, rfl, hGx, hIx, hcx, hox⟩ := hvw.row hr rfl (by decide) k hlt
      have hI0x := hIx
      obtain ⟨rfl, rfl, i0x, i1x, i2x⟩ := ins_open hI0x
      have kex : Known w _ l[k] _ := ⟨hIx⟩
      have c0x := (hcx 0 _ rfl).1
      replace c0x : w.cell? ⟨bx, ox + k * 3, none⟩ = _ := c0x
      have c1x := (hcx 1 _ rfl).1
      replace c1x : w.cell? ⟨bx, ox + k * 3 + 1, none⟩ = _ := c1x
      have c2x := (hcx 2 _ rfl).1
      replace c2x : w.cell? ⟨bx, ox + k * 3 + 2, none⟩ = _ := c2x
      clear hcx
      obtain ⟨⟨cap, bx, own⟩, hne, hbp⟩ := id hS
      obtain ⟨⟨c0, c1, c2, c3⟩, -⟩ := sb_top own
      have hcap := sb_size own
      clear c0 c1 c2
      replace own := hid own
      have nbx1 : NotIn p (blk ao) := ⟨fun hx => (hbl p hx).1 rfl⟩
      have nby1 : NotIn g' (blk ao) := ⟨fun hx => (hbl g' hx).2.1 rfl⟩
      have nbi : NotIn wr.heap.size (blk ao) := ⟨fun hx => by have := (hown9 _ hx).2; omega⟩
      have sub1 : SubX w (blk ao) [] := ⟨fun x hx => .inr (by have := (hbl x hx).2.2; omega)⟩
      have hb9 : w.heap.size ≤ wr.heap.size := st.fr.size
      obtain ⟨x, hx⟩ : ∃ x, htC s = x := ⟨_, rfl⟩
      have el : (hs ++ [x]).length = hs.length + 1 := by simp
      cases hd : s.t.dead
      · skip
        have ex : htC s = s.h := by unfold htC; rw [hd]; rfl
        rw [ex] at hx
        subst hx
        replace ex := hid ex
        rw [hd] at c3
        replace hd := hid hd
        go_wp2_with fail
        refine rg_begin0 (n := 13) (by kernel_rfl) rfl fun rg0 => ?_
        refine rg_read (i := 0) (a1 := _) rfl (by kernel_rfl) rfl (by simp) (by intro wq hwq; go_wp2; exact ⟨rfl, rfl⟩) mkStep ?_
        refine rg_read (i := 1) (a1 := _) rfl (by kernel_rfl) rfl (by simp) (by intro wq hwq; go_wp2; exact ⟨rfl, rfl⟩) mkStep ?_
        refine rg_read (i := 2) (a1 := _) rfl (by kernel_rfl) rfl (by simp) (by intro wq hwq; go_wp2; exact ⟨rfl, rfl⟩) mkStep ?_
        refine rg_read (i := 3) (a1 := _) rfl (by kernel_rfl) rfl (by simp) (by intro wq hwq; go_wp2; exact ⟨rfl, rfl⟩) mkStep ?_
        refine rg_read (i := 4) (a1 := _) rfl (by kernel_rfl) rfl (by simp) (by intro wq hwq; go_wp2; exact ⟨rfl, rfl⟩) mkStep ?_
        refine rg_read (i := 5) (a1 := _) rfl (by kernel_rfl) rfl (by simp) (by intro wq hwq; go_wp2; exact ⟨rfl, rfl⟩) mkStep ?_
        refine rg_read (i := 6) (a1 := _) rfl (by kernel_rfl) rfl (by simp) (by intro wq hwq; go_wp2; exact ⟨rfl, rfl⟩) mkStep ?_
        refine rg_read (i := 7) (a1 := _) rfl (by kernel_rfl) rfl (by simp) (by intro wq hwq; go_wp2; exact ⟨rfl, rfl⟩) mkStep ?_
        refine rg_read (i := 8) (a1 := _) rfl (by kernel_rfl) rfl (by simp) (by intro wq hwq; go_wp2; exact ⟨rfl, rfl⟩) mkStep ?_
        refine rg_read (i := 9) (a1 := _) rfl (by kernel_rfl) rfl (by simp) (by intro wq hwq; go_wp2; exact ⟨rfl, rfl⟩) mkStep ?_
        refine rg_read (i := 10) (a1 := _) rfl (by kernel_rfl) rfl (by simp) (by intro wq hwq; go_wp2; exact ⟨rfl, rfl⟩) mkStep ?_
        refine rg_read (i := 11) (a1 := _) rfl (by kernel_rfl) rfl (by simp) (by intro wq hwq; go_wp2; exact ⟨rfl, rfl⟩) mkStep ?_
        refine rg_read (i := 12) (a1 := _) rfl (by kernel_rfl) rfl (by simp) (by intro wq hwq; go_wp2; exact ⟨rfl, rfl⟩) mkStep ?_
        refine rg_done (by kernel_rfl) ?_
        go_wp2_with (at_builtin; go_must (refine app_rowsB iv1 1 (fun _ => rfl) iv1_one rfl (.tmp 45) (.tmp 50) 33 rfl 3 (.int .i64 0) 8 Tryd.ints_tab w.heap.size ao hs.length co hs s.h rfl (iv1_own (own_keep hown)) (by simp; omega) (wr.heap.size + 1) 1 rfl (fun j u hj => by obtain ⟨rfl, rfl⟩ := iv1_at hj; exact ⟨by go_simp, by go_simp⟩) (by omega) ?_); intro ao1 co1 w3 hown1 sx1 hb1)
        have hg8 := sx1.fr.size
        simp at hg8
        have hown8 := ownsRow_blk hown1
        have hbl1 : ∀ y ∈ blk ao1, y ≠ p ∧ y ≠ g' ∧ w.heap.size + 1 ≤ y := fun y hy => by
          rcases hb1 y hy with h1 | h1
          · exact hbl y h1
          · simp at h1; exact ⟨by omega, by omega, by omega⟩
        have op3 : Old p w3 := ⟨by omega⟩
        with_reducible refine Calls.mono (sstep (s := s) m l[k] _ pa v (by omega) hR1 hi hs1) ?_
        rintro e w4 ⟨rfl, g3, b3, s3, e3, hS3, hg3, st3⟩
        rw [e3] at v3 hok hrest
        simp only at hok hrest
        subst hok
        have hS4 : SB w4 p w1.heap.size g3 M loc s3 false := hS3
        clear hS3
        have hz := hid hrest
        have hz2 := hid (heq2.out.trans (show _ = (hs ++ [s.h]) ++ heightsGo m loc R s3 (l.drop (k + 1)) by rw [heights_on hlt, e3, ex.out]; simp))
        replace e3 := hid e3
        clear hrest
        have own4 := hid (ownsRow_fr hown1 st3.fr (fun y hy => by have := hbl1 y hy; simp; omega))
        replace hown1 := hid hown1
        go_wp2
        go_roundw
        case rel =>
          refine ⟨k + 1, sh', s3, g3, hs ++ [s.h], ao1, co1, by omega, by go_num, by rw [el], by rw [el]; omega, v3, hs2, inferInstance, ?_, ?_, by omega, mkStep, hz, hz2⟩
          · rw [el, ← iv1_map]; exact own4.out
          · intro y hy
            have h1 := hbl1 y hy
            have h2 := (hown8 y hy).2
            exact ⟨h1.1, by omega, h1.2.2⟩
        case measure => simp [intOf]; omega
      · skip
        have ex : htC s = (-1) := by unfold htC; rw [hd]; rfl
        rw [ex] at hx
        subst hx
        replace ex := hid ex
        rw [hd] at c3
        replace hd := hid hd
        go_wp2_with fail
        refine rg_begin0 (n := 13) (by kernel_rfl) rfl fun rg0 => ?_
        refine rg_read (i := 0) (a1 := _) rfl (by kernel_rfl) rfl (by simp) (by intro wq hwq; go_wp2; exact ⟨rfl, rfl⟩) mkStep ?_
        refine rg_read (i := 1) (a1 := _) rfl (by kernel_rfl) rfl (by simp) (by intro wq hwq; go_wp2; exact ⟨rfl, rfl⟩) mkStep ?_
        refine rg_read (i := 2) (a1 := _) rfl (by kernel_rfl) rfl (by simp) (by intro wq hwq; go_wp2; exact ⟨rfl, rfl⟩) mkStep ?_
        refine rg_read (i := 3) (a1 := _) rfl (by kernel_rfl) rfl (by simp) (by intro wq hwq; go_wp2; exact ⟨rfl, rfl⟩) mkStep ?_
        refine rg_read (i := 4) (a1 := _) rfl (by kernel_rfl) rfl (by simp) (by intro wq hwq; go_wp2; exact ⟨rfl, rfl⟩) mkStep ?_
        refine rg_read (i := 5) (a1 := _) rfl (by kernel_rfl) rfl (by simp) (by intro wq hwq; go_wp2; exact ⟨rfl, rfl⟩) mkStep ?_
        refine rg_read (i := 6) (a1 := _) rfl (by kernel_rfl) rfl (by simp) (by intro wq hwq; go_wp2; exact ⟨rfl, rfl⟩) mkStep ?_
        refine rg_read (i := 7) (a1 := _) rfl (by kernel_rfl) rfl (by simp) (by intro wq hwq; go_wp2; exact ⟨rfl, rfl⟩) mkStep ?_
        refine rg_read (i := 8) (a1 := _) rfl (by kernel_rfl) rfl (by simp) (by intro wq hwq; go_wp2; exact ⟨rfl, rfl⟩) mkStep ?_
        refine rg_read (i := 9) (a1 := _) rfl (by kernel_rfl) rfl (by simp) (by intro wq hwq; go_wp2; exact ⟨rfl, rfl⟩) mkStep ?_
        refine rg_read (i := 10) (a1 := _) rfl (by kernel_rfl) rfl (by simp) (by intro wq hwq; go_wp2; exact ⟨rfl, rfl⟩) mkStep ?_
        refine rg_read (i := 11) (a1 := _) rfl (by kernel_rfl) rfl (by simp) (by intro wq hwq; go_wp2; exact ⟨rfl, rfl⟩) mkStep ?_
        refine rg_read (i := 12) (a1 := _) rfl (by kernel_rfl) rfl (by simp) (by intro wq hwq; go_wp2; exact ⟨rfl, rfl⟩) mkStep ?_
        refine rg_done (by kernel_rfl) ?_
        go_wp2_with (at_builtin; go_must (refine app_rowsB iv1 1 (fun _ => rfl) iv1_one rfl (.tmp 42) (.tmp 43) 33 rfl 3 (.int .i64 0) 8 Tryd.ints_tab w.heap.size ao hs.length co hs (-1) rfl (iv1_own (own_keep hown)) (by simp; omega) (wr.heap.size + 1) 1 rfl (fun j u hj => by obtain ⟨rfl, rfl⟩ := iv1_at hj; exact ⟨by go_simp, by go_simp⟩) (by omega) ?_); intro ao1 co1 w3 hown1 sx1 hb1)
        have hg8 := sx1.fr.size
        simp at hg8
        have hown8 := ownsRow_blk hown1
        have hbl1 : ∀ y ∈ blk ao1, y ≠ p ∧ y ≠ g' ∧ w.heap.size + 1 ≤ y := fun y hy => by
          rcases hb1 y hy with h1 | h1
          · exact hbl y h1
          · simp at h1; exact ⟨by omega, by omega, by omega⟩
        have op3 : Old p w3 := ⟨by omega⟩
        with_reducible refine Calls.mono (sstep (s := s) m l[k] _ pa v (by omega) hR1 hi hs1) ?_
        rintro e w4 ⟨rfl, g3, b3, s3, e3, hS3, hg3, st3⟩
        rw [e3] at v3 hok hrest
        simp only at hok hrest
        subst hok
        have hS4 : SB w4 p w1.heap.size g3 M loc s3 false := hS3
        clear hS3
        have hz := hid hrest
        have hz2 := hid (heq2.out.trans (show _ = (hs ++ [(-1)]) ++ heightsGo m loc R s3 (l.drop (k + 1)) by rw [heights_on hlt, e3, ex.out]; simp))
        replace e3 := hid e3
        clear hrest
        have own4 := hid (ownsRow_fr hown1 st3.fr (fun y hy => by have := hbl1 y hy; simp; omega))
        replace hown1 := hid hown1
        go_wp2
        go_roundw
        case rel =>
          refine ⟨k + 1, sh', s3, g3, hs ++ [(-1)], ao1, co1, by omega, by go_num, by rw [el], by rw [el]; omega, v3, hs2, inferInstance, ?_, ?_, by omega, mkStep, hz, hz2⟩
          · rw [el, ← iv1_map]; exact own4.out
          · intro y hy
            have h1 := hbl1 y hy
            have h2 := (hown8 y hy).2
            exact ⟨h1.1, by omega, h1.2.2⟩
        case measure => simp [intOf]; omega
    · have hz2 := hid (heq2.out.trans (show _ = hs by rw [List.drop_of_length_le (by omega)]; exact List.append_nil _))
      have kb1 : Known wr (if hs = [] then [] else blk ao) hs [.slice ao hs.length co] := ⟨ints_shut (ownsRow_view hown) (fun n hn => by have := hin.1 n (by rw [hz2.out]; exact hn); unfold In64; omega) (ownsRow_cap hown)⟩
      have nbk : NewF w (if hs = [] then [] else blk ao) := ⟨by
        split
        · exact New.nil _
        · refine ⟨?_, fun b hb => by have := (hbl b hb).2.2; omega⟩
          cases ao <;> simp [blk]⟩
      replace hown := hid hown
      go_wp2
      go_ret2
      rw [hz2.out]
      exact ⟨ao, co, _, rfl, kb1, nbk, mkStep⟩
end Go.Proofs.YtpaekgeopmifeaaDoor
namespace Go.Proofs.YtpaekgeopmifeaaDoor
attribute [local go_sem ↓] Go.wp_at_zero Go.wp_at_succ
open Go.RowKit
open Rep (Is sz)

end Go.Proofs.YtpaekgeopmifeaaDoor
namespace Go.Proofs.YtpaekgeopmifeaaDoor
open Go.RowKit Go.ChangeShapes Go.WideShapes
open Rep (Is sz)

theorem Opens.args {P : Program} {t e : TypeId} {α : Type} [Rep α] (h : Opens P t (List α)) (ht : P.underlying t = some (.slice e)) {H : Type} {enc : TypeId × Value → H} {W : World} {base : Nat} {d0 : DataW H} {p0 : List MemPlace} {v0 : Value}
    (k0 : Value.okWide P W .any base t v0) (h0 : DataW.Trod enc P W 0 (fun _ => true) true t v0 d0 p0) (n0 : W.noneFrozen p0) : ∃ (x : List α) (F : List Nat), Known W F x [v0] := by
  obtain ⟨a, len, cap, rfl⟩ := okWide_slice ht k0
  obtain ⟨fuel, h0⟩ := h0
  obtain ⟨x, F, hI⟩ := h.2 enc W fuel _ _ _ h0 n0
  exact ⟨x, F, ⟨hI⟩⟩

/-- A law's argument that is a struct, as plain data. -/
theorem Opens.argR {P : Program} {t : TypeId} {fs : Array Field} {α : Type} [Rep α] (h : Opens P t α) (ht : P.underlying t = some (.struct fs)) {H : Type} {enc : TypeId × Value → H} {W : World} {base : Nat} {d0 : DataW H} {p0 : List MemPlace} {v0 : Value}
    (k0 : Value.okWide P W .any base t v0) (h0 : DataW.Trod enc P W 0 (fun _ => true) true t v0 d0 p0) (n0 : W.noneFrozen p0) : ∃ (x : α) (F : List Nat) (cs : List Value), v0 = .agg cs.toArray ∧ Is W F x cs := by
  unfold Value.okWide at k0
  rw [ht] at k0
  obtain ⟨cs, rfl, _⟩ := k0
  obtain ⟨fuel, h0⟩ := h0
  obtain ⟨x, F, hI⟩ := h.2 enc W fuel _ _ _ h0 n0
  exact ⟨x, F, cs.toList, by simp, hI⟩
end Go.Proofs.YtpaekgeopmifeaaDoor
namespace Go.Proofs.YtpaekgeopmifeaaDoor
open Go.RowKit Go.ChangeShapes Go.WideShapes
open Rep (Is sz)

theorem u8_of {W : World} (h3 : Lib.VarReads Tryd.prog W "unicode/utf8.first" Lib.firstData) (h4 : Lib.VarReads Tryd.prog W "unicode/utf8.acceptRanges" Lib.acceptData) : U8 W :=
  utf8Tabs_of_readsT (U8Types.of196 Tryd.laysValid) ⟨by kernel_rfl, by kernel_rfl, by kernel_rfl, by kernel_rfl, by kernel_rfl, by kernel_rfl, by kernel_rfl⟩ h3 h4
end Go.Proofs.YtpaekgeopmifeaaDoor
namespace Go.Proofs.YtpaekgeopmifeaaDoor
attribute [local go_sem ↓] Go.wp_at_zero Go.wp_at_succ
open Go.RowKit Go.ChangeShapes Go.WideShapes
open Rep (Is sz)

theorem le_maxL (l : List Int) : ∀ n ∈ l, n ≤ maxL l := by
  have h1 : ∀ (l : List Int) (x : Int), x ≤ l.foldl max x := by
    intro l
    induction l with
    | nil => intro x; exact Int.le_refl _
    | cons a l ih => intro x; have := ih (max x a); simp only [List.foldl_cons]; omega
  have h2 : ∀ (l : List Int) (x : Int), ∀ n ∈ l, n ≤ l.foldl max x := by
    intro l
    induction l with
    | nil => intro x n hn; cases hn
    | cons a l ih =>
      intro x n hn
      simp only [List.foldl_cons]
      rcases List.mem_cons.1 hn with rfl | hn
      · have := h1 l (max x n); omega
      · exact ih _ n hn
  exact h2 l 0
theorem heightsF_len {m : ModuleD} {i : Nat} : (heightsF m i).length = (fnC m i).body.length := heights_len _ _
theorem heights_fst {m : ModuleD} {loc R : Int} {s : ChkS} : ∀ {l : List InsD} (h : 0 < (heightsGo m loc R s l).length), (heightsGo m loc R s l)[0] = htC s
  | [], h => by simp [heightsGo] at h
  | _ :: _, _ => rfl
theorem heights_first {m : ModuleD} {i : Nat} (h : 0 < (heightsF m i).length) : (heightsF m i)[0] = 0 := heights_fst h
/-- What is told of the heights. -/
theorem stackS_no {m : ModuleD} {i : Int} (h : stackB m i = false) : maxS m i = -1 ∧ ¬ faultAt m i = -1 := by
  unfold maxS
  rw [h, if_neg (by simp)]
  exact ⟨rfl, of_decide_eq_false h⟩
theorem stackS_yes {m : ModuleD} {i : Nat} (h : stackB m i = true) : faultAt m i = -1 ∧ i < m.funcs.length ∧ (stackL m i).length = (fnC m i).body.length ∧ (∀ n ∈ stackL m i, -1 ≤ n ∧ n ≤ maxS m i) ∧ (∀ h0 : 0 < (stackL m i).length, (stackL m i)[0] = 0) := by
  have h1 : faultAt m (i : Int) = -1 := of_decide_eq_true h
  have e : stackL m (i : Int) = heightsF m i := by unfold stackL; rw [if_pos h1, Int.toNat_natCast]
  have e2 : maxS m (i : Int) = maxL (stackL m i) := by unfold maxS; rw [if_pos h]
  refine ⟨h1, ?_, ?_, ?_, ?_⟩
  · rcases Nat.lt_or_ge i m.funcs.length with h2 | h2
    · exact h2
    · rw [faultAt_no (.inr (.inr (by omega)))] at h1; omega
  · rw [e]; exact heightsF_len
  · intro n hn
    rw [e2]
    exact ⟨(stack_in.1 n hn).1, le_maxL _ n hn⟩
  · rw [e]; exact fun h0 => heights_first h0

set_option maxRecDepth 100000 in
theorem FnStack_u8 {W : World} (h : laidMetH Tryd.prog Rows.fnStackRow.laid W) : U8 W := by
  rw [MakeChecks.laidMetH_plain _ _ _ (by kernel_rfl)] at h
  have e1 : Rows.laid_unicode_utf8_first = Lib.firstData := by kernel_rfl
  have e2 : Rows.laid_unicode_utf8_acceptRanges = Lib.acceptData := by kernel_rfl
  exact u8_of (e1 ▸ Lib.laidMet.reads h (d := Rows.laid_unicode_utf8_first) (.tail _ (.head _))) (e2 ▸ Lib.laidMet.reads h (d := Rows.laid_unicode_utf8_acceptRanges) (.head _))
set_option maxRecDepth 10000 in
set_option maxHeartbeats 4000000 in
theorem FnStack_walk0 (hA : AnyC) {H : Type} {enc : TypeId × Value → H} (W : World) (base : Nat) {d0 : DataW H} {p0 : List MemPlace} (v0 : Value)
    (k0 : Value.okWide Tryd.prog W .any base 22 v0) (h0 : DataW.Trod enc Tryd.prog W 0 (fun _ => true) true 22 v0 d0 p0) (n0 : W.noneFrozen p0)
    (hL : laidMetH Tryd.prog Rows.fnStackRow.laid W) :
    Calls Tryd.prog 3 #[v0] W fun e W' => e = .returned (.bool true) ∧ Fr [] W W' := by
  obtain ⟨bs, F, kr⟩ := opens_bytes.args Tryd.underlying22 k0 h0 n0
  have kU : KnownU8 W := ⟨FnStack_u8 hL⟩
  clear k0 h0 n0 hL
  obtain ⟨ar, cr, hv⟩ := slice_form kr.is
  cases hv
  go_enter Tryd.func3, Tryd.ntmps3
  by_cases z : bs.length ≤ 1048576
  rotate_left
  · go_wp2
    go_ret
    exact ⟨rfl, mkFr⟩
  go_wp2_with fail
  with_reducible refine Calls.mono (sdstack hA bs _ z) ?_
  rintro e w1 ⟨m, cs, i, rfl, hK, st1⟩
  obtain ⟨F1, hI, _⟩ := hK.out.is
  have hz := hK.out.cost
  obtain ⟨a1, k1, a2, k2, a3, k3, a4, k4, a5, k5, a6, k6, G1, G2, G3, G4, G5, G6, rfl, hFF, h1, h2, h3, h4, h5, h6, i3, i4⟩ := module_open hI
  have kM : Known w1 F1 m [.slice a1 m.sigs.length k1, .slice a2 m.imports.length k2, .slice a3 m.funcs.length k3, .int .i64 m.pages, .int .i64 m.most, .slice a4 m.globals.length k4, .slice a5 m.exports.length k5, .slice a6 m.data.length k6] := ⟨hI⟩
  have hno := fun h => stackS_no (m := m) (i := (i : Int)) h
  have hye := fun h => stackS_yes (m := m) (i := i) h
  have hin := stack_in (m := m) (i := (i : Int))
  obtain ⟨L, hLe⟩ : ∃ L, stackL m (i : Int) = L := ⟨_, rfl⟩
  obtain ⟨B, hBe⟩ : ∃ B, stackB m (i : Int) = B := ⟨_, rfl⟩
  obtain ⟨N, hNe⟩ : ∃ N, maxS m (i : Int) = N := ⟨_, rfl⟩
  obtain ⟨T, hTe⟩ : ∃ T, faultAt m (i : Int) = T := ⟨_, rfl⟩
  have hS := fun w9 F9 cs9 (h9 : Shows w9 F9 m cs9) => sstack m (i : Int) w9 hz (hm := h9)
  have hT := fun w9 F9 cs9 (h9 : Shows w9 F9 m cs9) (h8 : HasU8 w9) => istack m (i : Int) w9 hz (hm := h9) (hU := h8)
  have hM := fun w9 F9 cs9 (h9 : Shows w9 F9 m cs9) (h8 : HasU8 w9) => imax m (i : Int) w9 hz (hm := h9) (hU := h8)
  have hF := fun w9 F9 cs9 (h9 : Shows w9 F9 m cs9) (h8 : HasU8 w9) => ifault m (i : Int) w9 hz (hm := h9) (hU := h8)
  rw [hLe, hBe] at hS hT
  rw [hNe] at hM
  rw [hTe] at hF
  rw [hBe, hNe, hTe] at hno
  rw [hBe, hLe, hNe, hTe] at hye
  rw [hLe] at hin
  clear hI h1 h2 h4 h5 h6 hLe hBe hNe hTe
  replace hin := hid hin
  go_wp2_with fail
  with_reducible refine Calls.mono (hT _ _ _ inferInstance inferInstance) ?_
  rintro e w2 ⟨aD, cD, D, rfl, kD, nD, st2⟩
  go_wp2_with fail
  with_reducible refine Calls.mono (hS _ _ _ inferInstance) ?_
  rintro e w3 ⟨aE, cE, E, rfl, kE, nE, st3⟩
  have bG : (B != B) = false := by cases B <;> rfl
  cases B
  · obtain ⟨rfl, hT0⟩ := hno rfl
    have hT1 : (T == -1) = false := beq_eq_false_iff_ne.2 hT0
    have hT2 : (T != -1) = true := by rw [bne, hT1]; rfl
    clear hye hT0
    go_wp2_with fail
    with_reducible refine Calls.mono (hM _ _ _ inferInstance inferInstance) ?_
    rintro e w4 ⟨rfl, st4⟩
    go_wp2_with fail
    with_reducible refine Calls.mono (hF _ _ _ inferInstance inferInstance) ?_
    rintro e w5 ⟨rfl, st5⟩
    go_wp2
    go_ret
    exact ⟨rfl, mkFr⟩
  · obtain ⟨rfl, hif, hlen, hall, h0⟩ := hye rfl
    clear hno hye
    replace hlen := hid hlen
    replace hall := hid hall
    replace h0 := hid h0
    go_wp2_with fail
    with_reducible refine Calls.mono (hM _ _ _ inferInstance inferInstance) ?_
    rintro e w4 ⟨rfl, st4⟩
    obtain ⟨aL, cL, hvL, _, hvw, _, hmL⟩ := ints_open (Rep.fr0 kD.is (mkFr (a := w2) (b := w4)))
    cases hvL
    unfold maxLen at hmL
    go_wp2_with fail
    go_loopw [50] (fun j wr => ∃ k : Nat, k ≤ L.length ∧ j = .int .i64 k ∧ Step w4 wr) (fun j _ => L.length - (intOf j).toNat)
    case atStart => exact ⟨0, by omega, rfl, mkStep⟩
    case round =>
      obtain ⟨k, hk, rfl, st⟩ := hrel
      by_cases hlt : k < L.length
      · obtain ⟨bl, ol, rfl, hcl, _, hol⟩ := hvw.get k hlt (.int .i64 L[k]) (by simp [intVs, hlt])
        obtain ⟨h7, h8⟩ := hall.out L[k] (List.getElem_mem hlt)
        obtain ⟨x, hx⟩ : ∃ x, x = L[k] := ⟨_, rfl⟩
        rw [← hx] at h7 h8 hcl
        have h9 : ¬ x < -1 := by omega
        have h10 : ¬ N < x := by omega
        replace hx := hid hx
        have hin2 := hin.out
        go_wp2
        go_roundw
        case rel => exact ⟨k + 1, by omega, by go_num, mkStep⟩
        case measure => simp [intOf]; omega
      · have hlen2 := hlen.out
        rw [fnC_at hif] at hlen2
        obtain ⟨_, _, cl3, FF3, hv, _, hvw3, hr3, hml3⟩ := list_open h3
        cases hv
        unfold maxLen at hml3
        have hin2 := hin.out.2
        obtain ⟨be, oe, Ge, cse, rfl, hGe, hIe, hce, hoe⟩ := hvw3.row hr3 rfl (by decide) i hif
        have hI0e := hIe
        obtain ⟨a1e, k1e, F1e, rfl, rfl, h1e, i0e, i1e⟩ := func_open hI0e
        have kee : Known w1 _ m.funcs[i] _ := ⟨hIe⟩
        have c0e := (hce 0 _ rfl).1
        replace c0e : w1.cell? ⟨be, oe + i * 3, none⟩ = _ := c0e
        have c1e := (hce 1 _ rfl).1
        replace c1e : w1.cell? ⟨be, oe + i * 3 + 1, none⟩ = _ := c1e
        have c2e := (hce 2 _ rfl).1
        replace c2e : w1.cell? ⟨be, oe + i * 3 + 2, none⟩ = _ := c2e
        clear hce
        have e1 : (L.length : Int) == (m.funcs[i].body.length : Int) := by simp [hlen2]
        by_cases hL0 : L.length = 0
        · have e2 : ((L.length : Int) == 0) = true := by simp [hL0]
          replace hL0 := hid hL0
          replace hlen2 := hid hlen2
          go_wp2_with fail
          with_reducible refine Calls.mono (hF _ _ _ inferInstance inferInstance) ?_
          rintro e w5 ⟨rfl, st5⟩
          go_wp2
          go_ret
          exact ⟨rfl, mkFr⟩
        · have e2 : ((L.length : Int) == 0) = false := by rw [beq_eq_false_iff_ne]; omega
          have hpos : 0 < L.length := by omega
          obtain ⟨bl, ol, rfl, hcl, _, hol⟩ := hvw.get 0 hpos (.int .i64 L[0]) (by simp [intVs, hpos])
          rw [h0.out hpos, Nat.add_zero] at hcl
          replace hlen2 := hid hlen2
          go_wp2_with fail
          with_reducible refine Calls.mono (hF _ _ _ inferInstance inferInstance) ?_
          rintro e w5 ⟨rfl, st5⟩
          go_wp2
          go_ret
          exact ⟨rfl, mkFr⟩
set_option maxRecDepth 10000 in
theorem FnStack_walk {H : Type} {enc : TypeId × Value → H} (W : World) (base : Nat) {d0 : DataW H} {p0 : List MemPlace} (v0 : Value)
    (k0 : Value.okWide Tryd.prog W .any base 22 v0) (h0 : DataW.Trod enc Tryd.prog W 0 (fun _ => true) true 22 v0 d0 p0) (n0 : W.noneFrozen p0)
    (hL : laidMetH Tryd.prog Rows.fnStackRow.laid W) :
    Calls Tryd.prog 3 #[v0] W fun e W' => e = .returned (.bool true) ∧ Fr [] W W' := FnStack_walk0 anyC W base v0 k0 h0 n0 hL
end Go.Proofs.YtpaekgeopmifeaaDoor
