/- Contracts: what goes through a body, impl's side: heights, FaultAt. Contracts: FaultAt, impl's side. Contracts: StackAt and MaxStack, both sides. -/
import Derived.Test.YtpaekgeopmifeaaDoorK37
namespace Go.Proofs.YtpaekgeopmifeaaDoor
attribute [local go_sem ↓] Go.wp_at_zero Go.wp_at_succ
open Go.RowKit
open Rep (Is sz)

theorem iv1_flat (l : List Int) (x : Int) : (l ++ [x]).flatMap iv1 = (l ++ [x]).map fun n => Value.int .i64 n := iv1_map _

set_option maxRecDepth 10000 in
set_option maxHeartbeats 4000000 in
theorem iheights {F : List Nat} {cs : List Value} (m : ModuleD) (i0 : Nat) (w : World) (pa : PartsP m) (hg0 : -1 ≤ m.pages) (hi2 : i0 < m.funcs.length) [hm : Shows w F m cs] :
    Calls Tryd.prog 12 #[.agg cs.toArray, .int .i64 (i0 : Int)] w fun e w' => ∃ v, e = .returned (.tuple #[v, .int .i64 (faultF m i0)]) ∧ Step w w' ∧ (faultF m i0 = -1 → ∃ a c, v = .slice a (heightsF m i0).length c ∧ w'.ownsRow w.heap.size 3 1 (.slice a (heightsF m i0).length c) (heightsF m i0).length ((heightsF m i0).map fun n => .int .i64 n)) := by
  have kk := hm.known
  obtain ⟨a1, k1, a2, k2, a3, k3, a4, k4, a5, k5, a6, k6, F1, F2, F3, F4, F5, F6, rfl, rfl, h1, h2, h3, h4, h5, h6, i3, i4⟩ := module_open hm.is
  clear hm
  obtain ⟨_, _, cl1, FF1, hv, _, hvw1, hr1, hml1⟩ := list_open h1
  cases hv
  unfold maxLen at hml1
  obtain ⟨_, _, cl3, FF3, hv, _, hvw3, hr3, hml3⟩ := list_open h3
  cases hv
  unfold maxLen at hml3
  have pf := pa.fns _ (List.getElem_mem hi2)
  obtain ⟨q, hq⟩ := Int.eq_ofNat_of_zero_le pf.s0
  have hq2 : q < m.sigs.length := by have := pf.s1; omega
  have ps := pa.sigs _ (List.getElem_mem hq2)
  have ef := fnC_at hi2
  have e1 : sgC m i0 = m.sigs[q] := by unfold sgC; rw [ef, hq, Int.toNat_natCast, getD_in _ hq2]
  have e2 : locC m i0 = m.sigs[q].params + m.funcs[i0].locals := by unfold locC; rw [e1, ef]
  have hb := bodyB_at pf.bd
  have b1 : 0 ≤ m.sigs[q].params ∧ m.sigs[q].params ≤ 60 := ⟨ps.p0, ps.p1⟩
  have b2 : 0 ≤ m.funcs[i0].locals ∧ m.funcs[i0].locals ≤ 60 := ⟨pf.l0, pf.l1⟩
  have hR1 : 0 ≤ m.sigs[q].results ∧ m.sigs[q].results ≤ 1 := ⟨ps.r0, ps.r1⟩
  obtain ⟨be, oe, Ge, cse, rfl, hGe, hIe, hce, hoe⟩ := hvw3.row hr3 rfl (by decide) i0 hi2
  have hI0e := hIe
  obtain ⟨a1e, k1e, F1e, rfl, rfl, h1e, i0e, i1e⟩ := func_open hI0e
  have kee : Known w _ m.funcs[i0] _ := ⟨hIe⟩
  have c0e := (hce 0 _ rfl).1
  replace c0e : w.cell? ⟨be, oe + i0 * 3, none⟩ = _ := c0e
  have c1e := (hce 1 _ rfl).1
  replace c1e : w.cell? ⟨be, oe + i0 * 3 + 1, none⟩ = _ := c1e
  have c2e := (hce 2 _ rfl).1
  replace c2e : w.cell? ⟨be, oe + i0 * 3 + 2, none⟩ = _ := c2e
  clear hce
  obtain ⟨bf, of, Gf, csf, rfl, hGf, hIf, hcf, hof⟩ := hvw1.row hr1 rfl (by decide) q hq2
  have hI0f := hIf
  obtain ⟨rfl, rfl, i0f, i1f⟩ := sig_open hI0f
  have kef : Known w _ m.sigs[q] _ := ⟨hIf⟩
  have c0f := (hcf 0 _ rfl).1
  replace c0f : w.cell? ⟨bf, of + q * 2, none⟩ = _ := c0f
  have c1f := (hcf 1 _ rfl).1
  replace c1f : w.cell? ⟨bf, of + q * 2 + 1, none⟩ = _ := c1f
  clear hcf
  obtain ⟨_, _, cl, FF, hv, _, hvw, hr, hml⟩ := list_open h1e
  cases hv
  unfold maxLen at hml
  obtain ⟨l, hl⟩ : ∃ l, m.funcs[i0].body = l := ⟨_, rfl⟩
  obtain ⟨sg, hsg⟩ : ∃ sg, m.sigs[q] = sg := ⟨_, rfl⟩
  obtain ⟨lo, hlo⟩ : ∃ lo, m.funcs[i0].locals = lo := ⟨_, rfl⟩
  obtain ⟨fF, hfF⟩ : ∃ x, faultF m i0 = x := ⟨_, rfl⟩
  obtain ⟨hF, hhF⟩ : ∃ x, heightsF m i0 = x := ⟨_, rfl⟩
  have hrun := hid (show fF = faultGo m (sg.params + lo) sg.results (startC sg.results) l 0 by rw [← hfF]; unfold faultF; rw [e2, e1, ef, hl, hsg, hlo])
  have hrun2 := hid (show hF = heightsGo m (sg.params + lo) sg.results (startC sg.results) l by rw [← hhF]; unfold heightsF; rw [e2, e1, ef, hl, hsg, hlo])
  rw [hfF, hhF]
  rw [hl] at hb c2e hvw hr hml
  rw [hsg] at b1 hR1 c0f c1f
  rw [hlo] at b2 c1e
  rw [hq] at c0e
  clear hfF hhF hl hsg hlo e1 e2 ef pf ps hq h1e hIe hI0e kee i0e i1e hIf hI0f kef i0f i1f
  go_enter Tryd.func12, Tryd.ntmps12
  go_wp2_with fail
  refine wp_name ?_
  intro A sA
  have ibA : IB A (w.heap.size + 1 + 1 + 1 + 1) w.heap.size (w.heap.size + 1 + 1 + 1) ⟨.slice (some ⟨bf, of, none⟩) m.sigs.length k1, .slice a2 m.imports.length k2, .slice (some ⟨be, oe, none⟩) m.funcs.length k3, m.pages, m.most, .slice a4 m.globals.length k4, .slice a5 m.exports.length k5, .slice a6 m.data.length k6⟩ sg (sg.params + lo) (startC sg.results) := by
    refine IB.frx ⟨⟨1, ⟨by apply Box.newAt; simp⟩, ?_⟩, by omega, by omega⟩ sA.fr (by simp) (by simp)
    exact ownsRow_fr (own_litAt (by simp) rfl (by simp; omega) (show 0 + 1 ≤ maxLen by unfold maxLen; omega) rfl) ((Fr.refl [] _).alloc _) (by simp)
  have bA : Box A (w.heap.size + 1) #[.int .i64 q, .int .i64 lo, .slice a1e l.length k1e] := by
    have bf1 := Box.fr0 (B := w.heap.size + 1) (by with_reducible repeat (first | assumption | (apply Box.newAt; simp; done) | apply Box.alloc | apply Box.drew | apply Box.set | (apply Box.other; focus omega))) sA.fr; (try simp only [List.setIfInBounds_toArray, List.set_cons_succ, List.set_cons_zero] at bf1); have bf1_c := bf1.cell_eq; have bf1_l := bf1.live; have bf1_t := bf1.lt
    exact bf1
  have bl : BoxL A (w.heap.size + 1) #[.int .i64 q, .int .i64 lo, .slice a1e l.length k1e] := ⟨bA⟩
  clear bA
  have np : NewB w (w.heap.size + 1 + 1 + 1 + 1) := ⟨by omega⟩
  obtain ⟨p, hp⟩ : ∃ p, w.heap.size + 1 + 1 + 1 + 1 = p := ⟨_, rfl⟩
  obtain ⟨g, hg⟩ : ∃ g, w.heap.size + 1 + 1 + 1 = g := ⟨_, rfl⟩
  rw [hp] at ibA np ⊢
  rw [hg] at ibA
  have hp9 : w.heap.size + 1 < p := by omega
  have hg9 : w.heap.size + 1 < g := by omega
  replace hp := hid hp
  replace hg := hid hg
  have sw : Step w A := mkStep
  clear sA
  go_loopw [9, 40] (fun o i wr => ∃ (k : Nat) (sh : List Bool) (s : ChkS) (g' : Nat) (hs : List Int) (ao : Option Addr) (co : Nat), k ≤ l.length ∧ i = .int .i64 k ∧ o = .slice ao hs.length co ∧ hs.length ≤ k ∧ Inv sg.results k sh s ∧ Hid (shGo sh (l.drop k) = true) ∧ IB wr p w.heap.size g' ⟨.slice (some ⟨bf, of, none⟩) m.sigs.length k1, .slice a2 m.imports.length k2, .slice (some ⟨be, oe, none⟩) m.funcs.length k3, m.pages, m.most, .slice a4 m.globals.length k4, .slice a5 m.exports.length k5, .slice a6 m.data.length k6⟩ sg (sg.params + lo) s ∧ wr.ownsRow w.heap.size 3 1 (.slice ao hs.length co) hs.length (hs.map fun n => .int .i64 n) ∧ (∀ x ∈ blk ao, x ≠ p ∧ x ≠ g' ∧ w.heap.size + 1 < x) ∧ w.heap.size + 1 < g' ∧ Step w wr ∧ BoxL wr (w.heap.size + 1) #[.int .i64 q, .int .i64 lo, .slice a1e l.length k1e] ∧ Hid (fF = faultGo m (sg.params + lo) sg.results s (l.drop k) k) ∧ Hid (hF = hs ++ heightsGo m (sg.params + lo) sg.results s (l.drop k))) (fun _ i _ => l.length - (intOf i).toNat)
  case atStart => exact ⟨0, [], startC sg.results, g, [], none, 0, by omega, rfl, rfl, by simp, Inv.start hR1, hid hb.2.2, ibA, ⟨rfl, .inl ⟨rfl, rfl⟩⟩, by simp [blk], by omega, sw, bl, hrun, hrun2⟩
  case round =>
    obtain ⟨k, sh, s, g', hs, ao, co, hk, rfl, rfl, hsl, v, hsh, hI, hown, hbl, hgg, st, bmr, heq, heq2⟩ := hrel
    have hlt9 := hI.lt
    have ng' : NewB w g' := ⟨by omega⟩
    have og' : Old g' wr := ⟨hlt9.2.1⟩
    have opr : Old p wr := ⟨hlt9.1⟩
    have ap9 : Arg p wr := ⟨hlt9.1⟩
    have obm := bmr.old
    have nq1 : NeB (w.heap.size + 1) p := ⟨by omega⟩
    have nq2 : NeB (w.heap.size + 1) g' := ⟨by omega⟩
    have hv := v.nums
    have hl9 : s.lo.length ≤ 10000 := by omega
    have hown9 := ownsRow_blk hown
    have aF : Apart (F1 ++ F2 ++ F3 ++ F4 ++ F5 ++ F6) [p] := ⟨fun x hx => by have := Rep.lt kk.is x hx; simp; omega⟩
    by_cases hlt : k < l.length
    · have hi := hb.1 k hlt
      obtain ⟨sh', hs1, hs2⟩ := shGo_step hlt hsh.out
      replace hs2 := hid hs2
      have v3 := Inv.step (loc := sg.params + lo) v pa.sigs hi hs1
      obtain ⟨bx, ox, Gx, csx, rfl, hGx, hIx, hcx, hox⟩ := hvw.row hr rfl (by decide) k hlt
      have hI0x := hIx
      obtain ⟨rfl, rfl, i0x, i1x, i2x⟩ := ins_open hI0x
      have kex : Known w _ l[k] _ := ⟨hIx⟩
      have c0x := (hcx 0 _ rfl).1
      replace c0x : w.cell? ⟨bx, ox + k * 3, none⟩ = _ := c0x
      have c1x := (hcx 1 _ rfl).1
      replace c1x : w.cell? ⟨bx, ox + k * 3 + 1, none⟩ = _ := c1x
      have c2x := (hcx 2 _ rfl).1
      replace c2x : w.cell? ⟨bx, ox + k * 3 + 2, none⟩ = _ := c2x
      clear hcx
      obtain ⟨⟨cap, bx, own⟩, hne, hbp⟩ := id hI
      obtain ⟨⟨c0, c1, c2, c3, c4⟩, -⟩ := ib_top own
      clear c0 c1 c2 c3
      replace own := hid own
      have nbx : NotIn p (blk ao) := ⟨fun hx => (hbl p hx).1 rfl⟩
      have nby : NotIn g' (blk ao) := ⟨fun hx => (hbl g' hx).2.1 rfl⟩
      have nbz : NotIn (w.heap.size + 1) (blk ao) := ⟨fun hx => by have := (hbl _ hx).2.2; omega⟩
      have nbi : NotIn wr.heap.size (blk ao) := ⟨fun hx => by have := (hown9 _ hx).2; omega⟩
      have sub1 : SubX w (blk ao) [] := ⟨fun x hx => .inr (by have := (hbl x hx).2.2; omega)⟩
      have el : (hs ++ [htC s]).length = hs.length + 1 := by simp
      have hb9 : w.heap.size ≤ wr.heap.size := st.fr.size
      have hq : ∃ x, htC s = x := ⟨_, rfl⟩
      obtain ⟨x, hx⟩ := hq
      rw [hx] at el
      cases hd : s.t.dead
      · skip
        have ex : htC s = s.h := by unfold htC; rw [hd]; rfl
        rw [ex] at hx
        subst hx
        replace ex := hid ex
        rw [hd] at c4
        replace hd := hid hd
        go_wp2_with fail
        with_reducible refine Calls.mono (ilast (s := s) _ hl9) ?_
        rintro e w1 ⟨rfl, st1⟩
        have hg9 := st1.fr.size
        simp at hg9
        go_wp2_with (at_builtin; go_must (refine app_rowsB iv1 1 (fun _ => rfl) iv1_one rfl (.tmp 54) (.tmp 56) 33 rfl 3 (.int .i64 0) 8 Tryd.ints_tab w.heap.size ao hs.length co hs s.h rfl (iv1_own (own_keep hown)) (by simp; omega) w1.heap.size 1 rfl (fun j u hj => by obtain ⟨rfl, rfl⟩ := iv1_at hj; exact ⟨by go_simp, by go_simp⟩) (by omega) ?_); intro ao1 co1 w2 hown1 sx1 hb1)
        have hg8 := sx1.fr.size
        simp at hg8
        have hown8 := ownsRow_blk hown1
        have hbl1 : ∀ y ∈ blk ao1, y ≠ p ∧ y ≠ g' ∧ w.heap.size + 1 < y := fun y hy => by
          rcases hb1 y hy with h1 | h1
          · exact hbl y h1
          · simp at h1; exact ⟨by omega, by omega, by omega⟩
        have op2 : Old p w2 := ⟨by omega⟩
        have kM : Known w (F1 ++ F2 ++ F3 ++ F4 ++ F5 ++ F6) m (MH.cells ⟨.slice (some ⟨bf, of, none⟩) m.sigs.length k1, .slice a2 m.imports.length k2, .slice (some ⟨be, oe, none⟩) m.funcs.length k3, m.pages, m.most, .slice a4 m.globals.length k4, .slice a5 m.exports.length k5, .slice a6 m.data.length k6⟩) := kk
        with_reducible refine Calls.mono (istep (s := s) m l[k] _ pa hg0 v (by omega) hR1 hi hs1) ?_
        rintro e w3 ⟨g3, b3, s3, e3, rfl, hI3, hg3, st3⟩
        rw [e3] at v3
        cases b3
        · have hz := hid (heq.out.trans (fault_no hlt (by rw [e3])))
          replace e3 := hid e3
          clear hI3
          go_wp2
          go_ret2
          exact ⟨_, by rw [hz.out]; rfl, mkStep, fun h => by rw [hz.out] at h; omega⟩
        · have hz := hid (heq.out.trans (fault_on hlt e3))
          have hz2 := hid (heq2.out.trans (show _ = (hs ++ [s.h]) ++ heightsGo m (sg.params + lo) sg.results s3 (l.drop (k + 1)) by rw [heights_on hlt, e3, ex.out]; simp))
          replace e3 := hid e3
          have hI4 := hI3 rfl
          clear hI3
          have own4 := hid (ownsRow_fr hown1 st3.fr (fun y hy => by have := hbl1 y hy; simp; omega))
          replace hown1 := hid hown1
          go_wp2
          go_roundw
          case rel =>
            refine ⟨k + 1, sh', s3, g3, hs ++ [s.h], ao1, co1, by omega, by go_num, by rw [el], by rw [el]; omega, v3, hs2, inferInstance, ?_, ?_, by omega, mkStep, boxOf, hz, hz2⟩
            · rw [el, ← iv1_map]; exact own4.out
            · intro y hy
              have h1 := hbl1 y hy
              have h2 := (hown8 y hy).2
              exact ⟨h1.1, by omega, h1.2.2⟩
          case measure => simp [intOf]; omega
      · skip
        have ex : htC s = (-1) := by unfold htC; rw [hd]; rfl
        rw [ex] at hx
        subst hx
        replace ex := hid ex
        rw [hd] at c4
        replace hd := hid hd
        go_wp2_with fail
        with_reducible refine Calls.mono (ilast (s := s) _ hl9) ?_
        rintro e w1 ⟨rfl, st1⟩
        have hg9 := st1.fr.size
        simp at hg9
        go_wp2_with (at_builtin; go_must (refine app_rowsB iv1 1 (fun _ => rfl) iv1_one rfl (.tmp 54) (.tmp 56) 33 rfl 3 (.int .i64 0) 8 Tryd.ints_tab w.heap.size ao hs.length co hs (-1) rfl (iv1_own (own_keep hown)) (by simp; omega) w1.heap.size 1 rfl (fun j u hj => by obtain ⟨rfl, rfl⟩ := iv1_at hj; exact ⟨by go_simp, by go_simp⟩) (by omega) ?_); intro ao1 co1 w2 hown1 sx1 hb1)
        have hg8 := sx1.fr.size
        simp at hg8
        have hown8 := ownsRow_blk hown1
        have hbl1 : ∀ y ∈ blk ao1, y ≠ p ∧ y ≠ g' ∧ w.heap.size + 1 < y := fun y hy => by
          rcases hb1 y hy with h1 | h1
          · exact hbl y h1
          · simp at h1; exact ⟨by omega, by omega, by omega⟩
        have op2 : Old p w2 := ⟨by omega⟩
        have kM : Known w (F1 ++ F2 ++ F3 ++ F4 ++ F5 ++ F6) m (MH.cells ⟨.slice (some ⟨bf, of, none⟩) m.sigs.length k1, .slice a2 m.imports.length k2, .slice (some ⟨be, oe, none⟩) m.funcs.length k3, m.pages, m.most, .slice a4 m.globals.length k4, .slice a5 m.exports.length k5, .slice a6 m.data.length k6⟩) := kk
        with_reducible refine Calls.mono (istep (s := s) m l[k] _ pa hg0 v (by omega) hR1 hi hs1) ?_
        rintro e w3 ⟨g3, b3, s3, e3, rfl, hI3, hg3, st3⟩
        rw [e3] at v3
        cases b3
        · have hz := hid (heq.out.trans (fault_no hlt (by rw [e3])))
          replace e3 := hid e3
          clear hI3
          go_wp2
          go_ret2
          exact ⟨_, by rw [hz.out]; rfl, mkStep, fun h => by rw [hz.out] at h; omega⟩
        · have hz := hid (heq.out.trans (fault_on hlt e3))
          have hz2 := hid (heq2.out.trans (show _ = (hs ++ [(-1)]) ++ heightsGo m (sg.params + lo) sg.results s3 (l.drop (k + 1)) by rw [heights_on hlt, e3, ex.out]; simp))
          replace e3 := hid e3
          have hI4 := hI3 rfl
          clear hI3
          have own4 := hid (ownsRow_fr hown1 st3.fr (fun y hy => by have := hbl1 y hy; simp; omega))
          replace hown1 := hid hown1
          go_wp2
          go_roundw
          case rel =>
            refine ⟨k + 1, sh', s3, g3, hs ++ [(-1)], ao1, co1, by omega, by go_num, by rw [el], by rw [el]; omega, v3, hs2, inferInstance, ?_, ?_, by omega, mkStep, boxOf, hz, hz2⟩
            · rw [el, ← iv1_map]; exact own4.out
            · intro y hy
              have h1 := hbl1 y hy
              have h2 := (hown8 y hy).2
              exact ⟨h1.1, by omega, h1.2.2⟩
          case measure => simp [intOf]; omega
    · have hz := hid (heq.out.trans (fault_end (by omega)))
      have hz2 := hid (heq2.out.trans (show _ = hs by rw [List.drop_of_length_le (by omega)]; exact List.append_nil _))
      have ek : k = l.length := by omega
      subst ek
      go_wp2_with fail
      with_reducible refine Calls.mono (icloses (s := s) _ v (by omega)) ?_
      rintro e w1 ⟨rfl, hI1, st1⟩
      cases hc : s.closeB
      · rw [hc] at hz
        go_wp2_with fail
        refine rg_begin0 (n := 5) (by kernel_rfl) rfl fun rg0 => ?_
        refine rg_read (i := 0) (a1 := _) rfl (by kernel_rfl) rfl (by simp) (by intro wq hwq; go_wp2; exact ⟨rfl, rfl⟩) mkStep ?_
        refine rg_read (i := 1) (a1 := _) rfl (by kernel_rfl) rfl (by simp) (by intro wq hwq; go_wp2; exact ⟨rfl, rfl⟩) mkStep ?_
        refine rg_read (i := 2) (a1 := _) rfl (by kernel_rfl) rfl (by simp) (by intro wq hwq; go_wp2; exact ⟨rfl, rfl⟩) mkStep ?_
        refine rg_read (i := 3) (a1 := _) rfl (by kernel_rfl) rfl (by simp) (by intro wq hwq; go_wp2; exact ⟨rfl, rfl⟩) mkStep ?_
        refine rg_read (i := 4) (a1 := _) rfl (by kernel_rfl) rfl (by simp) (by intro wq hwq; go_wp2; exact ⟨rfl, rfl⟩) mkStep ?_
        refine rg_done (by kernel_rfl) ?_
        go_wp2
        go_ret2
        exact ⟨_, by rw [hz.out]; rfl, mkStep, fun h => by rw [hz.out] at h; simp at h⟩
      · rw [hc] at hz
        have own4 := hid (ownsRow_fr hown st1.fr (fun y hy => by have := hbl y hy; simp; omega))
        replace hown := hid hown
        go_wp2
        go_ret2
        refine ⟨_, by rw [hz.out]; rfl, mkStep, fun _ => ⟨ao, co, ?_, ?_⟩⟩
        · rw [hz2.out]; rfl
        · rw [hz2.out]; exact own_keep own4.out
end Go.Proofs.YtpaekgeopmifeaaDoor
namespace Go.Proofs.YtpaekgeopmifeaaDoor
attribute [local go_sem ↓] Go.wp_at_zero Go.wp_at_succ
open Go.RowKit
open Rep (Is sz)

set_option maxRecDepth 10000 in
set_option maxHeartbeats 2000000 in
theorem ifault {F : List Nat} {cs : List Value} (m : ModuleD) (i : Int) (w : World) (hz : moduleCost m ≤ 1048576) [hm : Shows w F m cs] [hU : HasU8 w] :
    Calls Tryd.prog 8 #[.agg cs.toArray, .int .i64 i] w fun e w' => e = .returned (.int .i64 (faultAt m i)) ∧ Step w w' := by
  have kk := hm.known
  have ku := hU.known
  have hH0 := fun (pa : PartsP m) (g0 : -1 ≤ m.pages) (i0 : Nat) (h : i0 < m.funcs.length) (w' : World) (hh : Shows w' F m cs) => iheights m i0 w' pa g0 h (hm := hh)
  obtain ⟨a1, k1, a2, k2, a3, k3, a4, k4, a5, k5, a6, k6, F1, F2, F3, F4, F5, F6, rfl, rfl, h1, h2, h3, h4, h5, h6, i3, i4⟩ := module_open hm.is
  clear hm hU
  obtain ⟨_, _, cl3, FF3, hv, _, hvw3, hr3, hml3⟩ := list_open h3
  cases hv
  unfold maxLen at hml3
  cases hF : pB (FormP m)
  · have r := hid (faultAt_no (m := m) (i := i) (.inl fun h => by rw [pB_yes h] at hF; cases hF))
    go_enter Tryd.func8, Tryd.ntmps8
    go_wp2_with fail
    with_reducible refine Calls.mono (iform m _ hz) ?_
    rintro e w1 ⟨rfl, st1⟩
    rw [hF]
    go_wp2
    go_ret
    exact ⟨by rw [r.out]; rfl, mkStep⟩
  have fo : FormP m := pB_iff.1 hF
  by_cases hi : i < 0 ∨ (m.funcs.length : Int) ≤ i
  · have r := hid (faultAt_no (m := m) (.inr hi))
    have e1 : ¬ (0 ≤ i ∧ i ≤ (m.funcs.length : Int) - 1) := by omega
    clear hi
    go_enter Tryd.func8, Tryd.ntmps8
    go_wp2_with fail
    with_reducible refine Calls.mono (iform m _ hz) ?_
    rintro e w1 ⟨rfl, st1⟩
    rw [hF]
    go_wp2_with (first | (go_at_call 17; (with_reducible refine Calls.mono (within_any ..) ?_); rintro e wk ⟨rfl, rfl⟩))
    go_ret
    exact ⟨by rw [r.out]; rfl, mkStep⟩
  obtain ⟨i0, rfl⟩ := Int.eq_ofNat_of_zero_le (a := i) (by omega)
  have hi2 : i0 < m.funcs.length := by omega
  have e1 : 0 ≤ (i0 : Int) ∧ (i0 : Int) ≤ (m.funcs.length : Int) - 1 := by omega
  clear hi
  have r := hid (faultAt_yes fo hi2)
  have hH := hH0 fo.pa fo.g0 i0 hi2
  clear hH0
  go_enter Tryd.func8, Tryd.ntmps8
  go_wp2_with fail
  with_reducible refine Calls.mono (iform m _ hz) ?_
  rintro e w1 ⟨rfl, st1⟩
  rw [hF]
  go_wp2_with (first | (go_at_call 17; (with_reducible refine Calls.mono (within_any ..) ?_); rintro e wk ⟨rfl, rfl⟩))
  with_reducible refine Calls.mono (hH _ inferInstance) ?_
  rintro e w2 ⟨v, rfl, st2, hv2⟩
  replace hv2 := hid hv2
  go_wp2
  go_ret
  exact ⟨by rw [r.out]; rfl, mkStep⟩
end Go.Proofs.YtpaekgeopmifeaaDoor
namespace Go.Proofs.YtpaekgeopmifeaaDoor
attribute [local go_sem ↓] Go.wp_at_zero Go.wp_at_succ
open Go.RowKit
open Rep (Is sz)

theorem heights_in {m : ModuleD} {loc R : Int} (hm : ∀ x ∈ m.sigs, SigP x) : ∀ (l : List InsD) (s : ChkS) (sh : List Bool) (K : Nat), Inv R K sh s → (∀ x ∈ l, insOk x = true) → shGo sh l = true → ∀ n ∈ heightsGo m loc R s l, -1 ≤ n ∧ n ≤ (K : Int) + l.length
  | [], _, _, _, _, _, _, n, hn => by cases hn
  | i :: r, s, sh, K, v, hi, hs, n, hn => by
    have hv := v.nums
    rcases List.mem_cons.1 hn with rfl | hn
    · unfold htC
      split
      · simp only [List.length_cons]; omega
      · simp only [List.length_cons]; omega
    · unfold shGo at hs
      cases hq : shStep sh i.op with
      | none => rw [hq] at hs; cases hs
      | some t =>
        rw [hq] at hs
        have := heights_in hm r _ t (K + 1) (Inv.step (loc := loc) v hm (hi i List.mem_cons_self) hq) (fun x hx => hi x (List.mem_cons_of_mem _ hx)) hs n hn
        simp only [List.length_cons]
        omega
theorem heights_len {m : ModuleD} {loc R : Int} : ∀ (l : List InsD) (s : ChkS), (heightsGo m loc R s l).length = l.length
  | [], _ => rfl
  | _ :: r, _ => by
    show (heightsGo m loc R _ r).length + 1 = r.length + 1
    rw [heights_len r]
theorem sg_ok {m : ModuleD} (pa : PartsP m) {i : Nat} (hi : i < m.funcs.length) : SigP (sgC m i) := by
  have pf := pa.fns _ (List.getElem_mem hi)
  unfold sgC
  rw [fnC_at hi]
  have := pf.s0
  have := pf.s1
  rw [getD_in _ (show m.funcs[i].sig.toNat < m.sigs.length by omega)]
  exact pa.sigs _ (List.getElem_mem _)
theorem heightsF_in {m : ModuleD} (pa : PartsP m) {i : Nat} (hi : i < m.funcs.length) : (∀ n ∈ heightsF m i, -1 ≤ n ∧ n ≤ 1500) ∧ (heightsF m i).length ≤ 1500 := by
  have pf := pa.fns _ (List.getElem_mem hi)
  have hb := bodyB_at pf.bd
  have ef := fnC_at hi
  have ps := sg_ok pa hi
  refine ⟨fun n hn => ?_, ?_⟩
  · unfold heightsF at hn
    rw [ef] at hn
    have := heights_in pa.sigs m.funcs[i].body _ [] 0 (Inv.start ⟨ps.r0, ps.r1⟩) (fun x hx => by obtain ⟨k, hk, rfl⟩ := List.getElem_of_mem hx; exact hb.1 k hk) hb.2.2 n hn
    omega
  · unfold heightsF
    rw [heights_len, ef]
    exact hb.2.1

noncomputable def stackL (m : ModuleD) (i : Int) : List Int := if faultAt m i = -1 then heightsF m i.toNat else []
noncomputable def stackB (m : ModuleD) (i : Int) : Bool := decide (faultAt m i = -1)
theorem stack_no {m : ModuleD} {i : Int} (h : ¬ faultAt m i = -1) : stackL m i = [] ∧ stackB m i = false := ⟨if_neg h, decide_eq_false h⟩
theorem fault_in {m : ModuleD} {i : Int} (h : faultAt m i = -1) : ∃ k : Nat, i = (k : Int) ∧ FormP m ∧ k < m.funcs.length ∧ faultF m k = -1 ∧ stackL m i = heightsF m k ∧ stackB m i = true := by
  by_cases hc : ¬ FormP m ∨ i < 0 ∨ (m.funcs.length : Int) ≤ i
  · rw [faultAt_no hc] at h; cases h
  · have fo : FormP m := Classical.not_not.1 (fun h => hc (.inl h))
    obtain ⟨k, rfl⟩ := Int.eq_ofNat_of_zero_le (a := i) (by omega)
    have hk : k < m.funcs.length := by omega
    have h2 := h
    rw [faultAt_yes fo hk] at h2
    exact ⟨k, rfl, fo, hk, h2, by unfold stackL; rw [if_pos h, Int.toNat_natCast], decide_eq_true h⟩
theorem stack_in {m : ModuleD} {i : Int} : (∀ n ∈ stackL m i, -1 ≤ n ∧ n ≤ 1500) ∧ (stackL m i).length ≤ 1500 := by
  by_cases h : faultAt m i = -1
  · obtain ⟨k, rfl, fo, hk, -, e, -⟩ := fault_in h
    rw [e]; exact heightsF_in fo.pa hk
  · rw [(stack_no h).1]; simp

set_option maxRecDepth 10000 in
set_option maxHeartbeats 2000000 in
theorem istack {F : List Nat} {cs : List Value} (m : ModuleD) (i : Int) (w : World) (hz : moduleCost m ≤ 1048576) [hm : Shows w F m cs] [hU : HasU8 w] :
    Calls Tryd.prog 5 #[.agg cs.toArray, .int .i64 i] w fun e w' => ∃ a c G, e = .returned (.tuple #[.slice a (stackL m i).length c, .bool (stackB m i)]) ∧ Known w' G (stackL m i) [.slice a (stackL m i).length c] ∧ NewF w G ∧ Step w w' := by
  have kk := hm.known
  have ku := hU.known
  have hH0 := fun (pa : PartsP m) (g0 : -1 ≤ m.pages) (i0 : Nat) (h : i0 < m.funcs.length) (w' : World) (hh : Shows w' F m cs) => iheights m i0 w' pa g0 h (hm := hh)
  obtain ⟨a1, k1, a2, k2, a3, k3, a4, k4, a5, k5, a6, k6, F1, F2, F3, F4, F5, F6, rfl, rfl, h1, h2, h3, h4, h5, h6, i3, i4⟩ := module_open hm.is
  clear hm hU
  by_cases hf : faultAt m i = -1
  · obtain ⟨k, rfl, fo, hk, hff, e1, e2⟩ := fault_in hf
    have hin := heightsF_in fo.pa hk
    rw [e1, e2]
    have hn : ((-1 : Int) != -1) = false := rfl
    have hH := hH0 fo.pa fo.g0 k hk
    replace e1 := hid e1
    replace e2 := hid e2
    go_enter Tryd.func5, Tryd.ntmps5
    go_wp2_with fail
    with_reducible refine Calls.mono (ifault m (k : Int) _ hz) ?_
    rintro e w1 ⟨rfl, st1⟩
    rw [hf]
    replace hf := hid hf
    go_wp2_with fail
    with_reducible refine Calls.mono (hH _ inferInstance) ?_
    rintro e w2 ⟨v, rfl, st2, hv2⟩
    obtain ⟨a, c, rfl, own⟩ := hv2 hff
    replace hff := hid hff
    have kb : Known w2 (if heightsF m k = [] then [] else blk a) (heightsF m k) [.slice a (heightsF m k).length c] := ⟨ints_shut (ownsRow_view own) (fun n hn => by have := hin.1 n hn; unfold In64; omega) (ownsRow_cap own)⟩
    have hgr := st1.fr.size
    have nbk : NewF w (if heightsF m k = [] then [] else blk a) := ⟨by
      split
      · exact New.nil _
      · refine ⟨?_, fun b hb => by have := (ownsRow_blk own b hb).1; simp at hgr; omega⟩
        cases a <;> simp [blk]⟩
    replace own := hid own
    go_wp2
    go_ret2
    exact ⟨a, c, _, rfl, kb, nbk, mkStep⟩
  · obtain ⟨e1, e2⟩ := stack_no hf
    have hn : (faultAt m i != -1) = true := by simpa using hf
    rw [e1, e2]
    go_enter Tryd.func5, Tryd.ntmps5
    go_wp2_with fail
    with_reducible refine Calls.mono (ifault m i _ hz) ?_
    rintro e w1 ⟨rfl, st1⟩
    replace hf := hid hf
    replace e1 := hid e1
    replace e2 := hid e2
    go_wp2
    go_ret2
    exact ⟨none, 0, [], rfl, ⟨ints_shut (l := []) (View.nil _ _ _) (by simp) (by simp)⟩, newf_nil _, mkStep⟩

def maxL (l : List Int) : Int := l.foldl max 0
theorem maxL_snoc (l : List Int) (k : Nat) (h : k < l.length) : maxL (l.take (k + 1)) = max (maxL (l.take k)) l[k] := by
  unfold maxL
  rw [List.take_succ_eq_append_getElem h, List.foldl_append]
  rfl
theorem maxL_in (l : List Int) (hl : ∀ n ∈ l, -1 ≤ n ∧ n ≤ 1500) : 0 ≤ maxL l ∧ maxL l ≤ 1500 := by
  have : ∀ (l : List Int) (x : Int), 0 ≤ x → x ≤ 1500 → (∀ n ∈ l, -1 ≤ n ∧ n ≤ 1500) → 0 ≤ l.foldl max x ∧ l.foldl max x ≤ 1500 := by
    intro l
    induction l with
    | nil => intro x h0 h1 _; exact ⟨h0, h1⟩
    | cons y l ih =>
      intro x h0 h1 h2
      have := h2 y List.mem_cons_self
      exact ih (max x y) (by omega) (by omega) (fun n hn => h2 n (List.mem_cons_of_mem _ hn))
  exact this l 0 (by omega) (by omega) hl
noncomputable def maxS (m : ModuleD) (i : Int) : Int := if stackB m i = true then maxL (stackL m i) else -1

set_option maxRecDepth 10000 in
set_option maxHeartbeats 2000000 in
theorem imax {F : List Nat} {cs : List Value} (m : ModuleD) (i : Int) (w : World) (hz : moduleCost m ≤ 1048576) [hm : Shows w F m cs] [hU : HasU8 w] :
    Calls Tryd.prog 7 #[.agg cs.toArray, .int .i64 i] w fun e w' => e = .returned (.int .i64 (maxS m i)) ∧ Step w w' := by
  have kk := hm.known
  have ku := hU.known
  obtain ⟨a1, k1, a2, k2, a3, k3, a4, k4, a5, k5, a6, k6, F1, F2, F3, F4, F5, F6, rfl, rfl, h1, h2, h3, h4, h5, h6, i3, i4⟩ := module_open hm.is
  clear hm hU
  have hin := stack_in (m := m) (i := i)
  go_enter Tryd.func7, Tryd.ntmps7
  go_wp2_with fail
  with_reducible refine Calls.mono (istack m i _ hz) ?_
  rintro e w1 ⟨a, c, G, rfl, kn, nw, st1⟩
  cases hb : stackB m i
  · have r := hid (show maxS m i = -1 by unfold maxS; rw [hb]; rfl)
    go_wp2
    go_ret
    exact ⟨by rw [r.out]; rfl, mkStep⟩
  · obtain ⟨l, hl⟩ : ∃ l, stackL m i = l := ⟨_, rfl⟩
    have r := hid (show maxS m i = maxL l by unfold maxS; rw [hb, hl]; rfl)
    rw [hl] at hin kn
    simp only [hl]
    replace hl := hid hl
    obtain ⟨_, _, hv, _, hvw, hIn, hml⟩ := ints_open kn.is
    cases hv
    unfold maxLen at hml
    go_wp2_with fail
    refine wp_name ?_
    intro A sA
    go_loopw [7, 20] (fun x i wr => ∃ (k : Nat) (y : Int), k ≤ l.length ∧ i = .int .i64 k ∧ x = .int .i64 y ∧ 0 ≤ y ∧ y ≤ 1500 ∧ Hid (y = maxL (l.take k)) ∧ Step A wr) (fun _ i _ => l.length - (intOf i).toNat)
    case atStart => exact ⟨0, 0, by omega, rfl, rfl, by omega, by omega, rfl, mkStep⟩
    case round =>
      obtain ⟨k, y, hk, rfl, rfl, hy0, hy1, hy, st⟩ := hrel
      by_cases hlt : k < l.length
      · obtain ⟨b, o, rfl, hc, _, ho⟩ := hvw.get k hlt (.int .i64 l[k]) (by simp [intVs, hlt])
        have hxb := hin.1 _ (List.getElem_mem hlt)
        have hq := hid (show max y l[k] = maxL (l.take (k + 1)) by rw [maxL_snoc l k hlt, hy.out])
        go_wp2
        go_roundw
        case rel => exact ⟨k + 1, max y l[k], by omega, by go_num, rfl, by omega, by omega, hq, mkStep⟩
        case measure => simp [intOf]; omega
      · have hq := hid (show y = maxL l by rw [hy.out, List.take_of_length_le (by omega)])
        go_wp2
        go_ret
        exact ⟨by rw [r.out, ← hq.out]; rfl, mkStep⟩
end Go.Proofs.YtpaekgeopmifeaaDoor
