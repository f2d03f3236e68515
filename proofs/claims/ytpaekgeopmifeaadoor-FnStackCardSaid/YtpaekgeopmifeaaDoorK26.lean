/- The draw of a module that is right, or nearly. -/
import Derived.Test.YtpaekgeopmifeaaDoorK20
import Derived.Test.YtpaekgeopmifeaaDoorK25
namespace Go.Proofs.YtpaekgeopmifeaaDoor
attribute [local go_sem ↓] Go.wp_at_zero Go.wp_at_succ
open Go.RowKit
open Rep (Is sz)

theorem view_litZ (w : World) (C : Array Value) (e : TypeId) (sz n g : Nat) (hl : C.size = n * sz) (hg : g = w.heap.size) : View (w.alloc (.cells C e)) (some ⟨g, 0, none⟩) sz n C.toList := hg ▸ view_lit w C e sz n hl

theorem calls_boxes2 {P : Program} {f : FuncId} {args : Array Value} {Q : Ending → World → Prop} {w : World} (g1 g2 : Nat) (C1 C2 : Array Value) (h1 : Box w g1 C1) (h2 : Box w g2 C2)
    (k : ∀ A, Step w A → BoxL A g1 C1 → BoxL A g2 C2 → Calls P f args A Q) : Calls P f args w Q := k w ⟨Fr.refl _ _⟩ ⟨h1⟩ ⟨h2⟩
section
variable {P : Program} {ops : Array Oper} {Q : Exit → Act → World → Prop} {S : World → Prop} {listed : Array Bool} {a : Act} {w : World} {n : Nat}
/-- Three steps that may write are ready: whichever comes up first. -/
theorem rg_three {i j k : Nat} {o p q : Oper} (hi : ops[i]? = some o) (hj : ops[j]? = some p) (hk : ops[k]? = some q) (hr : Region.ready .any ops listed = [i, j, k])
    (g1 : wpList P ops (Exit.then (fun a' w' => S w' ∧ wpAnyH P .any ops (NoPanic Q) S n (listed.setIfInBounds i true) a' w') (NoPanic Q)) [o] a w)
    (g2 : wpList P ops (Exit.then (fun a' w' => S w' ∧ wpAnyH P .any ops (NoPanic Q) S n (listed.setIfInBounds j true) a' w') (NoPanic Q)) [p] a w)
    (g3 : wpList P ops (Exit.then (fun a' w' => S w' ∧ wpAnyH P .any ops (NoPanic Q) S n (listed.setIfInBounds k true) a' w') (NoPanic Q)) [q] a w) :
    wpAnyH P .any ops (NoPanic Q) S (n + 1) listed a w := by
  refine wpAnyH_all hr (by simp) ?_
  have one : ∀ {m : Nat} {r : Oper}, ops[m]? = some r → wpList P ops (Exit.then (fun a' w' => S w' ∧ wpAnyH P .any ops (NoPanic Q) S n (listed.setIfInBounds m true) a' w') (NoPanic Q)) [r] a w → wpOp P ops (NoPanic Q) m (fun a' w' => S w' ∧ wpAnyH P .any ops (NoPanic Q) S n (listed.setIfInBounds m true) a' w') a w := by
    intro m r hm g
    unfold wpOp
    simp only [hm]
    unfold wpList at g
    split
    · rename_i hw
      rw [if_pos hw] at g
      rcases g with hh | ⟨h1, h2⟩
      · left
        unfold Oper.wp at hh ⊢
        generalize (execOp a.eval r).run P w = x at hh ⊢
        cases x with
        | ok x w1 =>
          cases x
          case enter f args =>
            refine Calls.mono (show Calls P f args w1 _ from hh) fun e w2 he => ?_
            cases e <;> exact he
          all_goals exact hh
        | halt x w1 => cases x <;> exact hh
      · exact .inr ⟨h1, h2⟩
    · rename_i hw
      rw [if_neg hw] at g
      exact g
  intro m hm
  have hm' : m = i ∨ m = j ∨ m = k := by simpa using hm
  rcases hm' with rfl | rfl | rfl
  · exact one hi g1
  · exact one hj g2
  · exact one hk g3
end
theorem exports_tab : Tryd.prog.underlying 27 = some (.slice 63) ∧ (Tryd.prog.info? 63).map (fun i => (i.zero, i.size, i.bytes)) = some (some (.agg #[.string ByteArray.empty, .int .i64 0, .int .i64 0]), 3, 32) ∧ (.agg #[.string ByteArray.empty, .int .i64 0, .int .i64 0] : Value).cells.size = 3 ∧ 0 < 3 ∧ 0 < 32 :=
  ⟨by kernel_rfl, by kernel_rfl, rfl, by decide, by decide⟩

set_option maxRecDepth 20000 in
set_option maxHeartbeats 8000000 in
theorem sany5 (hG : GoodC) {p : Nat} (w : World) [c : Cur w p] : Calls Tryd.prog 10 #[.pointer (some ⟨p, 0, none⟩)] w (DrAny p w) := by
  have pw : Arg p w := ⟨c.lt⟩
  have pl := pw.lt
  go_enter Tryd.func10, Tryd.ntmps10
  go_wp2_with fail
  with_reducible refine Calls.mono (smodule hG _) ?_
  rintro e w1 ⟨B, gs, gi, gg, ge, gd, gh, af, cf, fs, rfl, hB, hlo, hD, cu1, st1⟩
  simp only [World.size_alloc] at hB hlo
  have z1 := st1.fr.size
  simp only [World.size_alloc] at z1
  have np1 : NotIn w.heap.size [p] := ⟨by simp; omega⟩
  have b0 : BoxL w1 w.heap.size #[.slice none 0 0, .slice none 0 0, .slice none 0 0, .int .i64 0, .int .i64 0, .slice none 0 0, .slice none 0 0, .slice none 0 0] := ⟨(Box.new w _ 30).fr st1.fr np1.ne⟩
  have o0 := b0.old
  go_wp2_with fail
  refine calls_boxes2 w.heap.size w1.heap.size _ _ (b0.is.alloc _) (Box.new _ _ _) ?_
  intro A sA bR bM
  have zA := sA.fr.size
  simp only [World.size_alloc] at zA
  have hDA := hD.out.fr (mkFr (a := w1) (b := A)) (by simp)
  have hlen := hDA.ln
  have hlo2 := hDA.lo
  have oM := bM.old
  have oR := bR.old
  have cA : Cur A p := inferInstance
  have pA : Arg p A := ⟨cA.lt⟩
  have npM : NotIn w1.heap.size [p] := ⟨by simp; omega⟩
  have neM : NeB w1.heap.size p := ⟨by omega⟩
  have neR : NeB w.heap.size w1.heap.size := ⟨by omega⟩
  have gtM : Gt p w1.heap.size := ⟨by omega⟩
  have gtR : Gt p w.heap.size := ⟨pl⟩
  have ne5 : ¬ w.heap.size = w1.heap.size := by omega
  have ne6 : ¬ w1.heap.size = w.heap.size := by omega
  with_reducible refine Calls.mono (sbelowC _ _ (by omega)) ?_
  rintro e w2 ⟨k, hk, rfl, cu2, st2⟩
  go_wp2_with fail
  with_reducible refine Calls.mono (sbelowC _ _ (by omega)) ?_
  rintro e w3 ⟨f, hf, rfl, cu3, st3⟩
  have hf2 : f < fs.length := by omega
  have offp : ∀ x ∈ [p], OffM x gs gi gg ge gd gh af fs := fun x hx => by
    rw [List.mem_singleton] at hx; subst hx
    exact hDA.off (.inl (by omega))
  have hD3 : DrM w3 B p gs gi gg ge gd gh af cf fs := hDA.fr (FrX.fr (S := [p]) (a := A)) offp
  have z3 : A.heap.size ≤ w3.heap.size := (FrX.fr (S := [p]) (a := A) (b := w3)).size
  obtain ⟨g, hg, hgB, hgw, d0, d1, d2, f0, f1, f2⟩ := fb_cells hD3.own rfl f hf2
  subst hg
  have og : Old g w3 := ⟨hgw⟩
  have ngR : ¬ g = w.heap.size := by omega
  have nRg : ¬ w.heap.size = g := by omega
  have hgA : g < w1.heap.size := (ownsRow_blk hD.out.own g (by simp [blk])).2
  have ngM : ¬ g = w1.heap.size := by omega
  have nMg : ¬ w1.heap.size = g := by omega
  have bM3 : BoxL w3 w1.heap.size #[.slice (some ⟨gs, 0, none⟩) 3 3, .slice (some ⟨gi, 0, none⟩) 2 2, (.slice (some ⟨g, 0, none⟩) fs.length cf), .int .i64 1, .int .i64 (-1), .slice (some ⟨gg, 0, none⟩) 2 2, (.slice (some ⟨ge, 0, none⟩) 2 2), .slice (some ⟨gd, 0, none⟩) 1 1] := boxOf
  have bR3 : BoxL w3 w.heap.size #[.slice none 0 0, .slice none 0 0, .slice none 0 0, .int .i64 0, .int .i64 0, .slice none 0 0, .slice none 0 0, .slice none 0 0] := boxOf
  have oM3 := bM3.old
  have oR3 := bR3.old
  have stw : StepX [p] w w3 := mkStepX
  have hB3 := hD3.inv.all fs[f] (List.getElem_mem _)
  have hlB := hB3.len
  have offM : OffM w1.heap.size gs gi gg ge gd gh (some ⟨g, 0, none⟩) fs := hD.out.off (.inr (Nat.le_refl _))
  have hmq : w.heap.size < gs ∧ w.heap.size < gi ∧ w.heap.size < gg ∧ w.heap.size < B := by omega
  replace hB3 := hid hB3
  have offp3 : OffM p gs gi gg ge gd gh (some ⟨g, 0, none⟩) fs := hD3.off (.inl (by omega))
  replace hD3 := hid hD3
  have pw3 : p < w.heap.size := pl
  clear hDA offp
  have nMs : NotIn w1.heap.size [p, g] := ⟨by simp; omega⟩
  have ngp : NotIn g [p] := ⟨by simp; omega⟩
  have hk12 : k < 12 := by omega
  clear hk
  have hcase : k = 0 ∨ k = 1 ∨ k = 2 ∨ k = 3 ∨ k = 4 ∨ k = 5 ∨ k = 6 ∨ 7 ≤ k := by omega
  rcases hcase with rfl | rfl | rfl | rfl | rfl | rfl | rfl | h7
  · -- one instruction another
    by_cases hn : 0 < fs[f].body.length
    · obtain ⟨bk, off, hbk, _, _⟩ := hB3.out.own.cut hn
      have hbl := hB3.out.own.blk bk (by rw [hbk]; simp [blk])
      rw [hbk] at d2
      have hbA : bk < w1.heap.size := (hD.out.inv.lt _ (List.getElem_mem hf2) bk (by rw [hbk]; simp [blk])).2
      have hbg : bk ≠ g := fun e => hD3.out.inv.apart _ (List.getElem_mem hf2) bk (by rw [hbk]; simp [blk]) (by simp [blk, e])
      have ob : Old bk w3 := ⟨hbl.2⟩
      have nb1 : ¬ bk = w.heap.size := by omega
      have nb2 : ¬ w.heap.size = bk := by omega
      have nb3 : ¬ bk = w1.heap.size := by omega
      have nb4 : ¬ w1.heap.size = bk := by omega
      have nbp : NotIn bk [p] := ⟨by simp; omega⟩
      have nM0 : NotIn w1.heap.size [p, bk] := ⟨by simp; omega⟩
      have ng0 : NotIn g [p, bk] := ⟨by simp; omega⟩
      have hcap := hB3.out.own.cap_ok
      unfold maxLen at hcap
      go_wp2_with fail
      refine rg_begin (n := 13) (StepX [p, bk] w3) (by kernel_rfl) rfl ?_
      have rg0 := (show (StepX [p, bk] w3) (World.drew _) from (show StepX [p, bk] w3 w3.drew from mkStepX))
      refine rg_read (i := 0) (a1 := _) rfl (by kernel_rfl) rfl (by first | (simp; done) | (simp [Act.put]; done)) (by intro wq hwq; go_wp2; exact ⟨rfl, rfl⟩) rg0 ?_
      refine rg_read (i := 1) (a1 := _) rfl (by kernel_rfl) rfl (by first | (simp; done) | (simp [Act.put]; done)) (by intro wq hwq; go_wp2; exact ⟨rfl, rfl⟩) rg0 ?_
      refine rg_read (i := 2) (a1 := _) rfl (by kernel_rfl) rfl (by first | (simp; done) | (simp [Act.put]; done)) (by intro wq hwq; go_wp2; exact ⟨rfl, rfl⟩) rg0 ?_
      refine rg_read (i := 3) (a1 := _) rfl (by kernel_rfl) rfl (by first | (simp; done) | (simp [Act.put]; done)) (by intro wq hwq; go_wp2; exact ⟨rfl, rfl⟩) rg0 ?_
      refine rg_read (i := 4) (a1 := _) rfl (by kernel_rfl) rfl (by first | (simp; done) | (simp [Act.put]; done)) (by intro wq hwq; go_wp2; exact ⟨rfl, rfl⟩) rg0 ?_
      refine rg_read (i := 5) (a1 := _) rfl (by kernel_rfl) rfl (by first | (simp; done) | (simp [Act.put]; done)) (by intro wq hwq; go_wp2; exact ⟨rfl, rfl⟩) rg0 ?_
      refine rg_read (i := 6) (a1 := _) rfl (by kernel_rfl) rfl (by first | (simp; done) | (simp [Act.put]; done)) (by intro wq hwq; go_wp2; exact ⟨rfl, rfl⟩) rg0 ?_
      refine rg_read (i := 7) (a1 := _) rfl (by kernel_rfl) rfl (by first | (simp; done) | (simp [Act.put]; done)) (by intro wq hwq; go_wp2; exact ⟨rfl, rfl⟩) rg0 ?_
      refine rg_read (i := 9) (a1 := _) rfl (by kernel_rfl) rfl (by first | (simp; done) | (simp [Act.put]; done)) (by intro wq hwq; go_wp2; exact ⟨rfl, rfl⟩) rg0 ?_
      refine rg_eff (i := 8) rfl (by kernel_rfl) ?_
      simp only [List.getElem_toArray, List.getElem_cons_succ, List.getElem_cons_zero]
      go_wp2_with fail
      with_reducible refine Calls.mono (sbelowC _ _ (by omega)) ?_
      rintro e w4 ⟨x, hx, rfl, cu4, st4⟩
      have hx2 : x < fs[f].body.length := by omega
      go_wp2_with fail
      refine ⟨mkStepX, ?_⟩
      refine rg_eff (i := 10) rfl (by kernel_rfl) ?_
      simp only [List.getElem_toArray, List.getElem_cons_succ, List.getElem_cons_zero]
      go_wp2_with fail
      with_reducible refine Calls.mono (sanyinsC _) ?_
      rintro e w5 ⟨q, hq, rfl, cu5, st5⟩
      go_wp2_with fail
      refine ⟨mkStepX, ?_⟩
      refine rg_read (i := 11) (a1 := _) rfl (by kernel_rfl) rfl (by first | (simp; done) | (simp [Act.put]; done)) (by intro wq hwq; go_wp2; exact ⟨rfl, rfl⟩) mkStepX ?_
      refine rg_eff (i := 12) rfl (by kernel_rfl) ?_
      simp only [List.getElem_toArray, List.getElem_cons_succ, List.getElem_cons_zero]
      have fr5 : Fr [p] w3 w5 := FrX.fr (S := [p]) (a := w3)
      have own5 := hB3.out.own.fr fr5 (fun b hb hm => by rw [hbk] at hb; simp only [blk, List.mem_singleton] at hb hm; subst hb; exact nbp.ne (by simp [hm]))
      rw [hbk] at own5
      obtain ⟨v0, v1, v2, g0, g1, g2⟩ := own5.cells3 x hx2
      go_wp2_with fail
      refine ⟨mkStepX, ?_⟩
      refine rg_done (by kernel_rfl) ?_
      have Y3 : Fr [bk] w5 (((w5.setCell ⟨bk, off + x * 3, none⟩ (.int .i64 q.op)).setCell ⟨bk, off + x * 3 + 1, none⟩ (.int .i64 q.a)).setCell ⟨bk, off + x * 3 + 2, none⟩ (.int .i64 q.b)) := (((Fr.refl [bk] _).setCell (.inl (List.mem_singleton_self _)) _).setCell (.inl (List.mem_singleton_self _)) _).setCell (.inl (List.mem_singleton_self _)) _
      have own6 := ((own5.set1 (x * 3) (.int .i64 q.op)).set1 (x * 3 + 1) (.int .i64 q.a)).set1 (x * 3 + 2) (.int .i64 q.b)
      rw [flat_setI _ x q hx2] at own6
      simp only [← Nat.add_assoc] at own6
      have hD5 : DrM w5 B p gs gi gg ge gd gh (some ⟨g, 0, none⟩) cf fs := hD3.out.fr fr5 (fun x hx => by rw [List.mem_singleton.1 hx]; exact offp3)
      obtain ⟨y, hy⟩ : ∃ y : FB, y = ⟨fs[f].sig, fs[f].loc, some ⟨bk, off, none⟩, fs[f].cap, fs[f].body.set x q⟩ := ⟨_, rfl⟩
      have hlset : (fs[f].body.set x q).length = fs[f].body.length := List.length_set
      have hyB : BodyO (((w5.setCell ⟨bk, off + x * 3, none⟩ (.int .i64 q.op)).setCell ⟨bk, off + x * 3 + 1, none⟩ (.int .i64 q.a)).setCell ⟨bk, off + x * 3 + 2, none⟩ (.int .i64 q.b)) B 70000 y := by
        rw [hy]
        refine ⟨by simp only [hlset]; exact own6, by simp only [hlset]; omega, fun i hi => ?_, hB3.out.sg, hB3.out.lo⟩
        rcases List.mem_or_eq_of_mem_set hi with h | h
        · exact hB3.out.in3 i h
        · rw [h]; exact hq
      have kY := hD5.modK_b (k := f) (y := y) hmq hf2 Y3 (fun b hb => by
        rw [List.mem_singleton] at hb
        subst hb
        have lo := hD3.out.lo
        have h4 := hD3.out.hi ge (by simp)
        have h5 := hD3.out.hi gd (by simp)
        have h6 := hD3.out.hi gh (by simp)
        have hmb : b ∈ blk fs[f].a := by rw [hbk]; simp [blk]
        exact ⟨by omega, by omega, by omega, fun e => h4.2.2 _ (List.getElem_mem hf2) (by rw [← e]; exact hmb), fun e => h5.2.2 _ (List.getElem_mem hf2) (by rw [← e]; exact hmb), fun e => h6.2.2 _ (List.getElem_mem hf2) (by rw [← e]; exact hmb), hbg, fun j hj hjf hm => hD3.out.inv.pair f j hf2 hj (fun e => hjf e.symm) b hmb hm⟩) hyB (Nat.le_refl _) (by rw [hy]; unfold fbVs; simp only [hlset, hbk])
      replace kY := hid kY
      clear hyB hy own6 own5
      have bM4 : BoxL w5 w1.heap.size #[.slice (some ⟨gs, 0, none⟩) 3 3, .slice (some ⟨gi, 0, none⟩) 2 2, (.slice (some ⟨g, 0, none⟩) fs.length cf), .int .i64 1, .int .i64 (-1), .slice (some ⟨gg, 0, none⟩) 2 2, (.slice (some ⟨ge, 0, none⟩) 2 2), .slice (some ⟨gd, 0, none⟩) 1 1] := boxOf
      have bR4 : BoxL w5 w.heap.size #[.slice none 0 0, .slice none 0 0, .slice none 0 0, .int .i64 0, .int .i64 0, .slice none 0 0, .slice none 0 0, .slice none 0 0] := boxOf
      have oM4 := bM4.old
      have oR4 := bR4.old
      have neb1 : NeB bk w1.heap.size := ⟨nb3⟩
      have neb2 : NeB bk w.heap.size := ⟨nb1⟩
      have gtg : Gt p bk := ⟨by omega⟩
      have cuY : Cur (((w5.setCell ⟨bk, off + x * 3, none⟩ (.int .i64 q.op)).setCell ⟨bk, off + x * 3 + 1, none⟩ (.int .i64 q.a)).setCell ⟨bk, off + x * 3 + 2, none⟩ (.int .i64 q.b)) p := inferInstance
      have stY : Fr [p] w (((w5.setCell ⟨bk, off + x * 3, none⟩ (.int .i64 q.op)).setCell ⟨bk, off + x * 3 + 1, none⟩ (.int .i64 q.a)).setCell ⟨bk, off + x * 3 + 2, none⟩ (.int .i64 q.b)) := (stw.fr.trans fr5 (fun b hb => .inl hb)).trans Y3 (fun b hb => .inr (by rw [List.mem_singleton.1 hb]; omega))
      go_wp2
      refine bodyPost_ret (v := .agg #[.slice (some ⟨gs, 0, none⟩) 3 3, .slice (some ⟨gi, 0, none⟩) 2 2, (.slice (some ⟨g, 0, none⟩) fs.length cf), .int .i64 1, .int .i64 (-1), .slice (some ⟨gg, 0, none⟩) 2 2, (.slice (some ⟨ge, 0, none⟩) 2 2), .slice (some ⟨gd, 0, none⟩) 1 1]) (by simp [results, Tryd.results10, go_sem]) rfl ?_
      exact ⟨modM (fs.set f y) true 1 expsM dataM, _, rfl, hid ((ModK.fr (S := [w.heap.size]) kY.out (by exact FrX.fr (a := ((w5.setCell ⟨bk, off + x * 3, none⟩ (.int .i64 q.op)).setCell ⟨bk, off + x * 3 + 1, none⟩ (.int .i64 q.a)).setCell ⟨bk, off + x * 3 + 2, none⟩ (.int .i64 q.b))) (by simp)).weak (by omega)), Cur.fr (S := [w.heap.size]) cuY (by exact FrX.fr (a := ((w5.setCell ⟨bk, off + x * 3, none⟩ (.int .i64 q.op)).setCell ⟨bk, off + x * 3 + 1, none⟩ (.int .i64 q.a)).setCell ⟨bk, off + x * 3 + 2, none⟩ (.int .i64 q.b))) (by simp; omega), ⟨Fr.trans (T := [w.heap.size]) stY (by exact FrX.fr (a := ((w5.setCell ⟨bk, off + x * 3, none⟩ (.int .i64 q.op)).setCell ⟨bk, off + x * 3 + 1, none⟩ (.int .i64 q.a)).setCell ⟨bk, off + x * 3 + 2, none⟩ (.int .i64 q.b))) (fun b hb => .inr (Nat.le_of_eq (List.mem_singleton.1 hb).symm))⟩⟩
    · have kY := hid (hD3.out.modK hmq (pages := 1) (.inl rfl))
      go_wp2
      refine bodyPost_ret (v := .agg #[.slice (some ⟨gs, 0, none⟩) 3 3, .slice (some ⟨gi, 0, none⟩) 2 2, (.slice (some ⟨g, 0, none⟩) fs.length cf), .int .i64 1, .int .i64 (-1), .slice (some ⟨gg, 0, none⟩) 2 2, (.slice (some ⟨ge, 0, none⟩) 2 2), .slice (some ⟨gd, 0, none⟩) 1 1]) (by simp [results, Tryd.results10, go_sem]) rfl ?_
      exact ⟨modM fs true 1 expsM dataM, _, rfl, hid ((ModK.fr (S := [w.heap.size]) kY.out (by exact FrX.fr (a := w3)) (by simp)).weak (by omega)), Cur.fr (S := [w.heap.size]) cu3 (by exact FrX.fr (a := w3)) (by simp; omega), ⟨Fr.trans (T := [w.heap.size]) stw.fr (by exact FrX.fr (a := w3)) (fun b hb => .inr (Nat.le_of_eq (List.mem_singleton.1 hb).symm))⟩⟩
  · -- a body cut
    by_cases hn : 0 < fs[f].body.length
    · obtain ⟨bk, off, hbk, _, _⟩ := hB3.out.own.cut hn
      rw [hbk] at d2
      have hbg : bk ≠ g := fun e => hD3.out.inv.apart _ (List.getElem_mem hf2) bk (by rw [hbk]; simp [blk]) (by simp [blk, e])
      have hcap := hB3.out.own.cap_ok
      unfold maxLen at hcap
      have nMg2 : NotIn w1.heap.size [g] := ⟨by simp; omega⟩
      have c0 : (0 : Int) ≤ (fs[f].body.length : Int) - 1 := by omega
      have c1 : (fs[f].body.length : Int) - 1 ≤ (fs[f].cap : Int) := by omega
      obtain ⟨n1, hn1⟩ : ∃ n1 : Nat, fs[f].body.length = n1 + 1 := ⟨fs[f].body.length - 1, by omega⟩
      go_wp2_with fail
      refine rg_begin (n := 15) (StepX [g] w3) (by kernel_rfl) rfl ?_
      have rg0 := (show (StepX [g] w3) (World.drew _) from (show StepX [g] w3 w3.drew from mkStepX))
      refine rg_read (i := 0) (a1 := _) rfl (by kernel_rfl) rfl (by first | (simp; done) | (simp [Act.put]; done)) (by intro wq hwq; go_wp2; exact ⟨rfl, rfl⟩) rg0 ?_
      refine rg_read (i := 1) (a1 := _) rfl (by kernel_rfl) rfl (by first | (simp; done) | (simp [Act.put]; done)) (by intro wq hwq; go_wp2; exact ⟨rfl, rfl⟩) rg0 ?_
      refine rg_read (i := 2) (a1 := _) rfl (by kernel_rfl) rfl (by first | (simp; done) | (simp [Act.put]; done)) (by intro wq hwq; go_wp2; exact ⟨rfl, rfl⟩) rg0 ?_
      refine rg_read (i := 3) (a1 := _) rfl (by kernel_rfl) rfl (by first | (simp; done) | (simp [Act.put]; done)) (by intro wq hwq; go_wp2; exact ⟨rfl, rfl⟩) rg0 ?_
      refine rg_read (i := 4) (a1 := _) rfl (by kernel_rfl) rfl (by first | (simp; done) | (simp [Act.put]; done)) (by intro wq hwq; go_wp2; exact ⟨rfl, rfl⟩) rg0 ?_
      refine rg_read (i := 5) (a1 := _) rfl (by kernel_rfl) rfl (by first | (simp; done) | (simp [Act.put]; done)) (by intro wq hwq; go_wp2; exact ⟨rfl, rfl⟩) rg0 ?_
      refine rg_read (i := 6) (a1 := _) rfl (by kernel_rfl) rfl (by first | (simp; done) | (simp [Act.put]; done)) (by intro wq hwq; go_wp2; exact ⟨rfl, rfl⟩) rg0 ?_
      refine rg_read (i := 7) (a1 := _) rfl (by kernel_rfl) rfl (by first | (simp; done) | (simp [Act.put]; done)) (by intro wq hwq; go_wp2; exact ⟨rfl, rfl⟩) rg0 ?_
      refine rg_read (i := 9) (a1 := _) rfl (by kernel_rfl) rfl (by first | (simp; done) | (simp [Act.put]; done)) (by intro wq hwq; go_wp2; exact ⟨rfl, rfl⟩) rg0 ?_
      refine rg_read (i := 10) (a1 := _) rfl (by kernel_rfl) rfl (by first | (simp; done) | (simp [Act.put]; done)) (by intro wq hwq; go_wp2; exact ⟨rfl, rfl⟩) rg0 ?_
      refine rg_eff (i := 8) rfl (by kernel_rfl) ?_
      simp only [List.getElem_toArray, List.getElem_cons_succ, List.getElem_cons_zero]
      go_wp2_with fail
      refine ⟨mkStepX, ?_⟩
      refine rg_read (i := 11) (a1 := _) rfl (by kernel_rfl) rfl (by first | (simp; done) | (simp [Act.put]; done)) (by intro wq hwq; go_wp2; exact ⟨rfl, rfl⟩) mkStepX ?_
      refine rg_read (i := 12) (a1 := _) rfl (by kernel_rfl) rfl (by first | (simp; done) | (simp [Act.put]; done)) (by intro wq hwq; go_wp2; exact ⟨rfl, rfl⟩) mkStepX ?_
      refine rg_read (i := 13) (a1 := _) rfl (by kernel_rfl) rfl (by first | (simp; done) | (simp [Act.put]; done)) (by intro wq hwq; go_wp2; exact ⟨rfl, rfl⟩) mkStepX ?_
      refine rg_eff (i := 14) rfl (by kernel_rfl) ?_
      simp only [List.getElem_toArray, List.getElem_cons_succ, List.getElem_cons_zero]
      go_wp2_with fail
      refine ⟨mkStepX, ?_⟩
      refine rg_done (by kernel_rfl) ?_
      have hlt : (fs[f].body.take n1).length = n1 := by rw [List.length_take]; omega
      have own6 := hB3.out.own.pre (m := n1) (by omega)
      rw [flat_take, hbk] at own6
      obtain ⟨y, hy⟩ : ∃ y : FB, y = ⟨fs[f].sig, fs[f].loc, some ⟨bk, off, none⟩, fs[f].cap, fs[f].body.take n1⟩ := ⟨_, rfl⟩
      have hyB : BodyO w3 B 70000 y := by
        rw [hy]
        exact ⟨by simp only [hlt]; exact own6, by simp only [hlt]; omega, fun i hi => hB3.out.in3 i (List.mem_of_mem_take hi), hB3.out.sg, hB3.out.lo⟩
      have kY := hD3.out.modK_f (k := f) (y := y) hmq hf2 hyB (Nat.le_refl _) (fun hm => by rw [hy] at hm; simp only [blk, List.mem_singleton] at hm; exact hbg hm.symm) (by rw [hy]; exact ⟨rfl, rfl⟩)
      have ey : (.slice y.a y.body.length y.cap : Value) = .slice (some ⟨bk, off, none⟩) n1 fs[f].cap := by rw [hy]; simp only [hlt]
      rw [ey] at kY
      replace kY := hid kY
      clear hyB hy own6 ey
      have neg1 : NeB g w1.heap.size := ⟨ngM⟩
      have neg2 : NeB g w.heap.size := ⟨ngR⟩
      have gtg : Gt p g := ⟨by omega⟩
      have cuY : Cur (w3.setCell ⟨g, f * 3 + 2, none⟩ (.slice (some ⟨bk, off, none⟩) n1 fs[f].cap)) p := inferInstance
      have stY : Fr [p] w (w3.setCell ⟨g, f * 3 + 2, none⟩ (.slice (some ⟨bk, off, none⟩) n1 fs[f].cap)) := stw.fr.trans (T := [g]) ((Fr.refl [g] _).setCell (.inl (List.mem_singleton_self _)) _) (fun b hb => .inr (by rw [List.mem_singleton.1 hb]; omega))
      go_wp2
      refine bodyPost_ret (v := .agg #[.slice (some ⟨gs, 0, none⟩) 3 3, .slice (some ⟨gi, 0, none⟩) 2 2, (.slice (some ⟨g, 0, none⟩) fs.length cf), .int .i64 1, .int .i64 (-1), .slice (some ⟨gg, 0, none⟩) 2 2, (.slice (some ⟨ge, 0, none⟩) 2 2), .slice (some ⟨gd, 0, none⟩) 1 1]) (by simp [results, Tryd.results10, go_sem]) rfl ?_
      exact ⟨modM (fs.set f y) true 1 expsM dataM, _, rfl, hid ((ModK.fr (S := [w.heap.size]) kY.out (by exact FrX.fr (a := w3.setCell ⟨g, f * 3 + 2, none⟩ (.slice (some ⟨bk, off, none⟩) n1 fs[f].cap))) (by simp)).weak (by omega)), Cur.fr (S := [w.heap.size]) cuY (by exact FrX.fr (a := w3.setCell ⟨g, f * 3 + 2, none⟩ (.slice (some ⟨bk, off, none⟩) n1 fs[f].cap))) (by simp; omega), ⟨Fr.trans (T := [w.heap.size]) stY (by exact FrX.fr (a := w3.setCell ⟨g, f * 3 + 2, none⟩ (.slice (some ⟨bk, off, none⟩) n1 fs[f].cap))) (fun b hb => .inr (Nat.le_of_eq (List.mem_singleton.1 hb).symm))⟩⟩
    · have kY := hid (hD3.out.modK hmq (pages := 1) (.inl rfl))
      go_wp2
      refine bodyPost_ret (v := .agg #[.slice (some ⟨gs, 0, none⟩) 3 3, .slice (some ⟨gi, 0, none⟩) 2 2, (.slice (some ⟨g, 0, none⟩) fs.length cf), .int .i64 1, .int .i64 (-1), .slice (some ⟨gg, 0, none⟩) 2 2, (.slice (some ⟨ge, 0, none⟩) 2 2), .slice (some ⟨gd, 0, none⟩) 1 1]) (by simp [results, Tryd.results10, go_sem]) rfl ?_
      exact ⟨modM fs true 1 expsM dataM, _, rfl, hid ((ModK.fr (S := [w.heap.size]) kY.out (by exact FrX.fr (a := w3)) (by simp)).weak (by omega)), Cur.fr (S := [w.heap.size]) cu3 (by exact FrX.fr (a := w3)) (by simp; omega), ⟨Fr.trans (T := [w.heap.size]) stw.fr (by exact FrX.fr (a := w3)) (fun b hb => .inr (Nat.le_of_eq (List.mem_singleton.1 hb).symm))⟩⟩
  · -- one export more
    have hge := ownsRow_blk hD3.out.be ge (by simp [blk])
    have hgA2 : ge < w1.heap.size := (ownsRow_blk hD.out.be ge (by simp [blk])).2
    have nge : NotIn ge [p] := ⟨by simp; omega⟩
    have own2 : ∀ W, FrX [p] w3 W → W.ownsRow w.heap.size 63 3 (.slice (some ⟨ge, 0, none⟩) expsM.length 2) expsM.length (expsM.flatMap exVs) := fun W f => ownsRow_mono (ownsRow_fr hD3.out.be f.fr (ge_ne nge.ne)) (by omega)
    replace own2 := hid own2
    have nMe : NotIn w1.heap.size (blk (some (⟨ge, 0, none⟩ : Addr))) := ⟨by simp [blk]; omega⟩
    go_wp2_with fail
    refine rg_begin (n := 9) AnyW (by kernel_rfl) rfl ?_
    refine rg_read (i := 0) (a1 := _) rfl (by kernel_rfl) rfl (by first | (simp; done) | (simp [Act.put]; done)) (by intro wq hwq; go_wp2; exact ⟨rfl, rfl⟩) trivial ?_
    refine rg_read (i := 2) (a1 := _) rfl (by kernel_rfl) rfl (by first | (simp; done) | (simp [Act.put]; done)) (by intro wq hwq; go_wp2; exact ⟨rfl, rfl⟩) trivial ?_
    refine rg_two (i := 1) (j := 3) rfl rfl (by kernel_rfl) ?_ ?_
    · simp only [List.getElem_toArray, List.getElem_cons_succ, List.getElem_cons_zero]
      go_wp2_with fail
      refine ⟨trivial, ?_⟩
      refine rg_eff (i := 3) rfl (by kernel_rfl) ?_
      simp only [List.getElem_toArray, List.getElem_cons_succ, List.getElem_cons_zero]
      go_wp2_with fail
      with_reducible refine Calls.mono (sbelowC _ _ (by omega)) ?_
      rintro e w4 ⟨x, hx, rfl, cu4, st4⟩
      go_wp2_with fail
      refine ⟨trivial, ?_⟩
      refine rg_read (i := 4) (a1 := _) rfl (by kernel_rfl) rfl (by first | (simp; done) | (simp [Act.put]; done)) (by intro wq hwq; go_wp2; exact ⟨rfl, rfl⟩) trivial ?_
      refine rg_eff (i := 5) rfl (by kernel_rfl) ?_
      simp only [List.getElem_toArray, List.getElem_cons_succ, List.getElem_cons_zero]
      go_wp2_with fail
      refine ⟨trivial, ?_⟩
      refine rg_eff (i := 6) rfl (by kernel_rfl) ?_
      simp only [List.getElem_toArray, List.getElem_cons_succ, List.getElem_cons_zero]
      obtain ⟨x9, hx9⟩ : ∃ x9 : ExportD, x9 = ⟨⟨#[109, 97, 105, 110]⟩, 3, (x : Int)⟩ := ⟨_, rfl⟩
      go_wp2_with (at_builtin; go_must (refine app_rowsY exVs 3 exVs_len exVs_one rfl (.tmp 64) (.tmp 68) 27 rfl 63 (.agg #[.string ByteArray.empty, .int .i64 0, .int .i64 0]) 32 exports_tab w (some ⟨ge, 0, none⟩) 2 expsM ⟨⟨#[109, 97, 105, 110]⟩, 3, (x : Int)⟩ rfl (own2.out _ inferInstance) _ 1 rfl (fun j u hj => ⟨((Box.new _ _ _).cell_eq j).trans (by simpa [exVs] using hj), (Box.new _ _ _).live j⟩) (by decide) ?_); intro ae ce w8 own8 sx8 hb8)
      refine ⟨trivial, ?_⟩
      refine rg_read (i := 7) (a1 := _) rfl (by kernel_rfl) rfl (by first | (simp; done) | (simp [Act.put]; done)) (by intro wq hwq; go_wp2; exact ⟨rfl, rfl⟩) trivial ?_
      refine rg_eff (i := 8) rfl (by kernel_rfl) ?_
      simp only [List.getElem_toArray, List.getElem_cons_succ, List.getElem_cons_zero]
      go_wp2_with fail
      refine ⟨trivial, ?_⟩
      refine rg_done (by kernel_rfl) ?_
      have e1 : (expsM ++ [(⟨⟨#[109, 97, 105, 110]⟩, 3, (x : Int)⟩ : ExportD)]).length = expsM.length + 1 := by simp
      have sbe : SubX w3 (blk (some (⟨ge, 0, none⟩ : Addr))) [p, ge] := ⟨fun b hb => .inl (by simp only [blk, List.mem_singleton] at hb; simp [hb])⟩
      have sbp : SubX w3 [p] [p, ge] := ⟨fun b hb => .inl (by rw [List.mem_singleton.1 hb]; simp)⟩
      have fr8 : Fr [p, ge] w3 w8 := FrX.fr (S := [p, ge]) (a := w3)
      have z4 := st4.fr.size
      simp only [World.size_alloc, World.size_drew] at hb8 z4
      have hae : ∀ b ∈ blk ae, b = ge ∨ w3.heap.size ≤ b := fun b hb => by
        rcases hb8 b hb with h | h
        · exact .inl (by simpa [blk] using h)
        · exact .inr (by omega)
      have frY : Fr [p, ge, w1.heap.size] w3 (w8.setCell ⟨w1.heap.size, 6, none⟩ (.slice ae (expsM.length + 1) ce)) := (fr8.mono (by intro b hb; exact .inl (by simp only [List.mem_cons, List.not_mem_nil, or_false] at hb ⊢; omega))).setCell (.inl (by simp)) _
      have own9 : (w8.setCell ⟨w1.heap.size, 6, none⟩ (.slice ae (expsM.length + 1) ce)).ownsRow w.heap.size 63 3 (.slice ae (expsM ++ [(⟨⟨#[109, 97, 105, 110]⟩, 3, (x : Int)⟩ : ExportD)]).length ce) (expsM ++ [(⟨⟨#[109, 97, 105, 110]⟩, 3, (x : Int)⟩ : ExportD)]).length ((expsM ++ [(⟨⟨#[109, 97, 105, 110]⟩, 3, (x : Int)⟩ : ExportD)]).flatMap exVs) := by
        rw [e1]
        exact ownsRow_fr own8 ((Fr.refl [w1.heap.size] _).setCell (.inl (List.mem_singleton_self _)) _ : Fr [w1.heap.size] w8 (w8.setCell ⟨w1.heap.size, 6, none⟩ (.slice ae (expsM.length + 1) ce))) (fun b hb hm => by rw [List.mem_singleton] at hm; rcases hae b hb with h | h <;> omega)
      have kY := hD3.out.modK_e (ex := expsM ++ [⟨⟨#[109, 97, 105, 110]⟩, 3, (x : Int)⟩]) hmq frY (fun b hb => by
        simp only [List.mem_cons, List.not_mem_nil, or_false] at hb
        have h4 := hD3.out.hi ge (by simp)
        have lo := hD3.out.lo
        have ne := hD3.out.ne
        rcases hb with rfl | rfl | rfl
        · exact ⟨offp3.1, offp3.2.1, offp3.2.2.1, offp3.2.2.2.2.1, offp3.2.2.2.2.1, offp3.2.2.2.2.2.1, offp3.2.2.2.2.2.2⟩
        · exact ⟨by omega, by omega, by omega, ne.1, ne.1, ne.2.1, h4.2⟩
        · exact ⟨offM.1, offM.2.1, offM.2.2.1, offM.2.2.2.2.1, offM.2.2.2.2.1, offM.2.2.2.2.2.1, offM.2.2.2.2.2.2⟩) (ownsRow_view own9) (ownsRow_cap own9) (fun e he => by
        rcases List.mem_append.1 he with h | h
        · exact exM_ok e h
        · rw [List.mem_singleton.1 h]; exact ⟨oks_lit (show (⟨#[109, 97, 105, 110]⟩ : ByteArray).size ≤ 100 by decide), in64_lit, by unfold In64; simp only; omega⟩) (by rw [show exportsCost (expsM ++ [⟨⟨#[109, 97, 105, 110]⟩, 3, (x : Int)⟩]) = exportsCost (expsM ++ [⟨⟨#[109, 97, 105, 110]⟩, 3, 0⟩]) from rfl]; decide) (fun b hb => by rcases hae b hb with h | h <;> omega)
      rw [e1] at kY
      replace kY := hid kY
      have bM4 : BoxL w8 w1.heap.size #[.slice (some ⟨gs, 0, none⟩) 3 3, .slice (some ⟨gi, 0, none⟩) 2 2, (.slice (some ⟨g, 0, none⟩) fs.length cf), .int .i64 1, .int .i64 (-1), .slice (some ⟨gg, 0, none⟩) 2 2, (.slice (some ⟨ge, 0, none⟩) 2 2), .slice (some ⟨gd, 0, none⟩) 1 1] := boxOf
      have nRe : NotIn w.heap.size (blk (some (⟨ge, 0, none⟩ : Addr))) := ⟨by simp [blk]; omega⟩
      have bR4 : BoxL w8 w.heap.size #[.slice none 0 0, .slice none 0 0, .slice none 0 0, .int .i64 0, .int .i64 0, .slice none 0 0, .slice none 0 0, .slice none 0 0] := boxOf
      have oM4 := bM4.old
      have oR4 := bR4.old
      have sbe4 : SubX w4 (blk (some (⟨ge, 0, none⟩ : Addr))) [ge] := ⟨fun b hb => .inl (by simpa [blk] using hb)⟩
      have cu8 : Cur w8 p := cu4.fr (S := [ge]) (FrX.fr (S := [ge]) (a := w4)) (by simp; omega)
      have cuY : Cur (w8.setCell ⟨w1.heap.size, 6, none⟩ (.slice ae (expsM.length + 1) ce)) p := inferInstance
      have stY : Fr [p] w (w8.setCell ⟨w1.heap.size, 6, none⟩ (.slice ae (expsM.length + 1) ce)) := stw.fr.trans frY (fun b hb => by simp only [List.mem_cons, List.not_mem_nil, or_false] at hb; rcases hb with rfl | rfl | rfl; exact .inl (by simp); exact .inr (by omega); exact .inr (by omega))
      go_wp2
      refine bodyPost_ret (v := .agg #[.slice (some ⟨gs, 0, none⟩) 3 3, .slice (some ⟨gi, 0, none⟩) 2 2, (.slice (some ⟨g, 0, none⟩) fs.length cf), .int .i64 1, .int .i64 (-1), .slice (some ⟨gg, 0, none⟩) 2 2, (.slice ae (expsM.length + 1) ce), .slice (some ⟨gd, 0, none⟩) 1 1]) (by simp [results, Tryd.results10, go_sem]) rfl ?_
      exact ⟨modM fs true 1 (expsM ++ [⟨⟨#[109, 97, 105, 110]⟩, 3, (x : Int)⟩]) dataM, _, rfl, hid ((ModK.fr (S := [w.heap.size]) kY.out (by exact FrX.fr (a := w8.setCell ⟨w1.heap.size, 6, none⟩ (.slice ae (expsM.length + 1) ce))) (by simp)).weak (by omega)), Cur.fr (S := [w.heap.size]) cuY (by exact FrX.fr (a := w8.setCell ⟨w1.heap.size, 6, none⟩ (.slice ae (expsM.length + 1) ce))) (by simp; omega), ⟨Fr.trans (T := [w.heap.size]) stY (by exact FrX.fr (a := w8.setCell ⟨w1.heap.size, 6, none⟩ (.slice ae (expsM.length + 1) ce))) (fun b hb => .inr (Nat.le_of_eq (List.mem_singleton.1 hb).symm))⟩⟩
    · simp only [List.getElem_toArray, List.getElem_cons_succ, List.getElem_cons_zero]
      go_wp2_with fail
      with_reducible refine Calls.mono (sbelowC _ _ (by omega)) ?_
      rintro e w4 ⟨x, hx, rfl, cu4, st4⟩
      go_wp2_with fail
      refine ⟨trivial, ?_⟩
      refine rg_read (i := 4) (a1 := _) rfl (by kernel_rfl) rfl (by first | (simp; done) | (simp [Act.put]; done)) (by intro wq hwq; go_wp2; exact ⟨rfl, rfl⟩) trivial ?_
      refine rg_two (i := 1) (j := 5) rfl rfl (by kernel_rfl) ?_ ?_
      · simp only [List.getElem_toArray, List.getElem_cons_succ, List.getElem_cons_zero]
        go_wp2_with fail
        refine ⟨trivial, ?_⟩
        refine rg_eff (i := 5) rfl (by kernel_rfl) ?_
        simp only [List.getElem_toArray, List.getElem_cons_succ, List.getElem_cons_zero]
        go_wp2_with fail
        refine ⟨trivial, ?_⟩
        refine rg_eff (i := 6) rfl (by kernel_rfl) ?_
        simp only [List.getElem_toArray, List.getElem_cons_succ, List.getElem_cons_zero]
        obtain ⟨x9, hx9⟩ : ∃ x9 : ExportD, x9 = ⟨⟨#[109, 97, 105, 110]⟩, 3, (x : Int)⟩ := ⟨_, rfl⟩
        go_wp2_with (at_builtin; go_must (refine app_rowsY exVs 3 exVs_len exVs_one rfl (.tmp 64) (.tmp 68) 27 rfl 63 (.agg #[.string ByteArray.empty, .int .i64 0, .int .i64 0]) 32 exports_tab w (some ⟨ge, 0, none⟩) 2 expsM ⟨⟨#[109, 97, 105, 110]⟩, 3, (x : Int)⟩ rfl (own2.out _ inferInstance) _ 1 rfl (fun j u hj => ⟨((Box.new _ _ _).cell_eq j).trans (by simpa [exVs] using hj), (Box.new _ _ _).live j⟩) (by decide) ?_); intro ae ce w8 own8 sx8 hb8)
        refine ⟨trivial, ?_⟩
        refine rg_read (i := 7) (a1 := _) rfl (by kernel_rfl) rfl (by first | (simp; done) | (simp [Act.put]; done)) (by intro wq hwq; go_wp2; exact ⟨rfl, rfl⟩) trivial ?_
        refine rg_eff (i := 8) rfl (by kernel_rfl) ?_
        simp only [List.getElem_toArray, List.getElem_cons_succ, List.getElem_cons_zero]
        go_wp2_with fail
        refine ⟨trivial, ?_⟩
        refine rg_done (by kernel_rfl) ?_
        have e1 : (expsM ++ [(⟨⟨#[109, 97, 105, 110]⟩, 3, (x : Int)⟩ : ExportD)]).length = expsM.length + 1 := by simp
        have sbe : SubX w3 (blk (some (⟨ge, 0, none⟩ : Addr))) [p, ge] := ⟨fun b hb => .inl (by simp only [blk, List.mem_singleton] at hb; simp [hb])⟩
        have sbp : SubX w3 [p] [p, ge] := ⟨fun b hb => .inl (by rw [List.mem_singleton.1 hb]; simp)⟩
        have fr8 : Fr [p, ge] w3 w8 := FrX.fr (S := [p, ge]) (a := w3)
        have z4 := st4.fr.size
        simp only [World.size_alloc, World.size_drew] at hb8 z4
        have hae : ∀ b ∈ blk ae, b = ge ∨ w3.heap.size ≤ b := fun b hb => by
          rcases hb8 b hb with h | h
          · exact .inl (by simpa [blk] using h)
          · exact .inr (by omega)
        have frY : Fr [p, ge, w1.heap.size] w3 (w8.setCell ⟨w1.heap.size, 6, none⟩ (.slice ae (expsM.length + 1) ce)) := (fr8.mono (by intro b hb; exact .inl (by simp only [List.mem_cons, List.not_mem_nil, or_false] at hb ⊢; omega))).setCell (.inl (by simp)) _
        have own9 : (w8.setCell ⟨w1.heap.size, 6, none⟩ (.slice ae (expsM.length + 1) ce)).ownsRow w.heap.size 63 3 (.slice ae (expsM ++ [(⟨⟨#[109, 97, 105, 110]⟩, 3, (x : Int)⟩ : ExportD)]).length ce) (expsM ++ [(⟨⟨#[109, 97, 105, 110]⟩, 3, (x : Int)⟩ : ExportD)]).length ((expsM ++ [(⟨⟨#[109, 97, 105, 110]⟩, 3, (x : Int)⟩ : ExportD)]).flatMap exVs) := by
          rw [e1]
          exact ownsRow_fr own8 ((Fr.refl [w1.heap.size] _).setCell (.inl (List.mem_singleton_self _)) _ : Fr [w1.heap.size] w8 (w8.setCell ⟨w1.heap.size, 6, none⟩ (.slice ae (expsM.length + 1) ce))) (fun b hb hm => by rw [List.mem_singleton] at hm; rcases hae b hb with h | h <;> omega)
        have kY := hD3.out.modK_e (ex := expsM ++ [⟨⟨#[109, 97, 105, 110]⟩, 3, (x : Int)⟩]) hmq frY (fun b hb => by
          simp only [List.mem_cons, List.not_mem_nil, or_false] at hb
          have h4 := hD3.out.hi ge (by simp)
          have lo := hD3.out.lo
          have ne := hD3.out.ne
          rcases hb with rfl | rfl | rfl
          · exact ⟨offp3.1, offp3.2.1, offp3.2.2.1, offp3.2.2.2.2.1, offp3.2.2.2.2.1, offp3.2.2.2.2.2.1, offp3.2.2.2.2.2.2⟩
          · exact ⟨by omega, by omega, by omega, ne.1, ne.1, ne.2.1, h4.2⟩
          · exact ⟨offM.1, offM.2.1, offM.2.2.1, offM.2.2.2.2.1, offM.2.2.2.2.1, offM.2.2.2.2.2.1, offM.2.2.2.2.2.2⟩) (ownsRow_view own9) (ownsRow_cap own9) (fun e he => by
          rcases List.mem_append.1 he with h | h
          · exact exM_ok e h
          · rw [List.mem_singleton.1 h]; exact ⟨oks_lit (show (⟨#[109, 97, 105, 110]⟩ : ByteArray).size ≤ 100 by decide), in64_lit, by unfold In64; simp only; omega⟩) (by rw [show exportsCost (expsM ++ [⟨⟨#[109, 97, 105, 110]⟩, 3, (x : Int)⟩]) = exportsCost (expsM ++ [⟨⟨#[109, 97, 105, 110]⟩, 3, 0⟩]) from rfl]; decide) (fun b hb => by rcases hae b hb with h | h <;> omega)
        rw [e1] at kY
        replace kY := hid kY
        have bM4 : BoxL w8 w1.heap.size #[.slice (some ⟨gs, 0, none⟩) 3 3, .slice (some ⟨gi, 0, none⟩) 2 2, (.slice (some ⟨g, 0, none⟩) fs.length cf), .int .i64 1, .int .i64 (-1), .slice (some ⟨gg, 0, none⟩) 2 2, (.slice (some ⟨ge, 0, none⟩) 2 2), .slice (some ⟨gd, 0, none⟩) 1 1] := boxOf
        have nRe : NotIn w.heap.size (blk (some (⟨ge, 0, none⟩ : Addr))) := ⟨by simp [blk]; omega⟩
        have bR4 : BoxL w8 w.heap.size #[.slice none 0 0, .slice none 0 0, .slice none 0 0, .int .i64 0, .int .i64 0, .slice none 0 0, .slice none 0 0, .slice none 0 0] := boxOf
        have oM4 := bM4.old
        have oR4 := bR4.old
        have sbe4 : SubX w4 (blk (some (⟨ge, 0, none⟩ : Addr))) [ge] := ⟨fun b hb => .inl (by simpa [blk] using hb)⟩
        have cu8 : Cur w8 p := cu4.fr (S := [ge]) (FrX.fr (S := [ge]) (a := w4)) (by simp; omega)
        have cuY : Cur (w8.setCell ⟨w1.heap.size, 6, none⟩ (.slice ae (expsM.length + 1) ce)) p := inferInstance
        have stY : Fr [p] w (w8.setCell ⟨w1.heap.size, 6, none⟩ (.slice ae (expsM.length + 1) ce)) := stw.fr.trans frY (fun b hb => by simp only [List.mem_cons, List.not_mem_nil, or_false] at hb; rcases hb with rfl | rfl | rfl; exact .inl (by simp); exact .inr (by omega); exact .inr (by omega))
        go_wp2
        refine bodyPost_ret (v := .agg #[.slice (some ⟨gs, 0, none⟩) 3 3, .slice (some ⟨gi, 0, none⟩) 2 2, (.slice (some ⟨g, 0, none⟩) fs.length cf), .int .i64 1, .int .i64 (-1), .slice (some ⟨gg, 0, none⟩) 2 2, (.slice ae (expsM.length + 1) ce), .slice (some ⟨gd, 0, none⟩) 1 1]) (by simp [results, Tryd.results10, go_sem]) rfl ?_
        exact ⟨modM fs true 1 (expsM ++ [⟨⟨#[109, 97, 105, 110]⟩, 3, (x : Int)⟩]) dataM, _, rfl, hid ((ModK.fr (S := [w.heap.size]) kY.out (by exact FrX.fr (a := w8.setCell ⟨w1.heap.size, 6, none⟩ (.slice ae (expsM.length + 1) ce))) (by simp)).weak (by omega)), Cur.fr (S := [w.heap.size]) cuY (by exact FrX.fr (a := w8.setCell ⟨w1.heap.size, 6, none⟩ (.slice ae (expsM.length + 1) ce))) (by simp; omega), ⟨Fr.trans (T := [w.heap.size]) stY (by exact FrX.fr (a := w8.setCell ⟨w1.heap.size, 6, none⟩ (.slice ae (expsM.length + 1) ce))) (fun b hb => .inr (Nat.le_of_eq (List.mem_singleton.1 hb).symm))⟩⟩
      · simp only [List.getElem_toArray, List.getElem_cons_succ, List.getElem_cons_zero]
        go_wp2_with fail
        refine ⟨trivial, ?_⟩
        refine rg_eff (i := 1) rfl (by kernel_rfl) ?_
        simp only [List.getElem_toArray, List.getElem_cons_succ, List.getElem_cons_zero]
        go_wp2_with fail
        refine ⟨trivial, ?_⟩
        refine rg_eff (i := 6) rfl (by kernel_rfl) ?_
        simp only [List.getElem_toArray, List.getElem_cons_succ, List.getElem_cons_zero]
        obtain ⟨x9, hx9⟩ : ∃ x9 : ExportD, x9 = ⟨⟨#[109, 97, 105, 110]⟩, 3, (x : Int)⟩ := ⟨_, rfl⟩
        go_wp2_with (at_builtin; go_must (refine app_rowsY exVs 3 exVs_len exVs_one rfl (.tmp 64) (.tmp 68) 27 rfl 63 (.agg #[.string ByteArray.empty, .int .i64 0, .int .i64 0]) 32 exports_tab w (some ⟨ge, 0, none⟩) 2 expsM ⟨⟨#[109, 97, 105, 110]⟩, 3, (x : Int)⟩ rfl (own2.out _ inferInstance) _ 1 rfl (fun j u hj => ⟨((Box.new _ _ _).cell_eq j).trans (by simpa [exVs] using hj), (Box.new _ _ _).live j⟩) (by decide) ?_); intro ae ce w8 own8 sx8 hb8)
        refine ⟨trivial, ?_⟩
        refine rg_read (i := 7) (a1 := _) rfl (by kernel_rfl) rfl (by first | (simp; done) | (simp [Act.put]; done)) (by intro wq hwq; go_wp2; exact ⟨rfl, rfl⟩) trivial ?_
        refine rg_eff (i := 8) rfl (by kernel_rfl) ?_
        simp only [List.getElem_toArray, List.getElem_cons_succ, List.getElem_cons_zero]
        go_wp2_with fail
        refine ⟨trivial, ?_⟩
        refine rg_done (by kernel_rfl) ?_
        have e1 : (expsM ++ [(⟨⟨#[109, 97, 105, 110]⟩, 3, (x : Int)⟩ : ExportD)]).length = expsM.length + 1 := by simp
        have sbe : SubX w3 (blk (some (⟨ge, 0, none⟩ : Addr))) [p, ge] := ⟨fun b hb => .inl (by simp only [blk, List.mem_singleton] at hb; simp [hb])⟩
        have sbp : SubX w3 [p] [p, ge] := ⟨fun b hb => .inl (by rw [List.mem_singleton.1 hb]; simp)⟩
        have fr8 : Fr [p, ge] w3 w8 := FrX.fr (S := [p, ge]) (a := w3)
        have z4 := st4.fr.size
        simp only [World.size_alloc, World.size_drew] at hb8 z4
        have hae : ∀ b ∈ blk ae, b = ge ∨ w3.heap.size ≤ b := fun b hb => by
          rcases hb8 b hb with h | h
          · exact .inl (by simpa [blk] using h)
          · exact .inr (by omega)
        have frY : Fr [p, ge, w1.heap.size] w3 (w8.setCell ⟨w1.heap.size, 6, none⟩ (.slice ae (expsM.length + 1) ce)) := (fr8.mono (by intro b hb; exact .inl (by simp only [List.mem_cons, List.not_mem_nil, or_false] at hb ⊢; omega))).setCell (.inl (by simp)) _
        have own9 : (w8.setCell ⟨w1.heap.size, 6, none⟩ (.slice ae (expsM.length + 1) ce)).ownsRow w.heap.size 63 3 (.slice ae (expsM ++ [(⟨⟨#[109, 97, 105, 110]⟩, 3, (x : Int)⟩ : ExportD)]).length ce) (expsM ++ [(⟨⟨#[109, 97, 105, 110]⟩, 3, (x : Int)⟩ : ExportD)]).length ((expsM ++ [(⟨⟨#[109, 97, 105, 110]⟩, 3, (x : Int)⟩ : ExportD)]).flatMap exVs) := by
          rw [e1]
          exact ownsRow_fr own8 ((Fr.refl [w1.heap.size] _).setCell (.inl (List.mem_singleton_self _)) _ : Fr [w1.heap.size] w8 (w8.setCell ⟨w1.heap.size, 6, none⟩ (.slice ae (expsM.length + 1) ce))) (fun b hb hm => by rw [List.mem_singleton] at hm; rcases hae b hb with h | h <;> omega)
        have kY := hD3.out.modK_e (ex := expsM ++ [⟨⟨#[109, 97, 105, 110]⟩, 3, (x : Int)⟩]) hmq frY (fun b hb => by
          simp only [List.mem_cons, List.not_mem_nil, or_false] at hb
          have h4 := hD3.out.hi ge (by simp)
          have lo := hD3.out.lo
          have ne := hD3.out.ne
          rcases hb with rfl | rfl | rfl
          · exact ⟨offp3.1, offp3.2.1, offp3.2.2.1, offp3.2.2.2.2.1, offp3.2.2.2.2.1, offp3.2.2.2.2.2.1, offp3.2.2.2.2.2.2⟩
          · exact ⟨by omega, by omega, by omega, ne.1, ne.1, ne.2.1, h4.2⟩
          · exact ⟨offM.1, offM.2.1, offM.2.2.1, offM.2.2.2.2.1, offM.2.2.2.2.1, offM.2.2.2.2.2.1, offM.2.2.2.2.2.2⟩) (ownsRow_view own9) (ownsRow_cap own9) (fun e he => by
          rcases List.mem_append.1 he with h | h
          · exact exM_ok e h
          · rw [List.mem_singleton.1 h]; exact ⟨oks_lit (show (⟨#[109, 97, 105, 110]⟩ : ByteArray).size ≤ 100 by decide), in64_lit, by unfold In64; simp only; omega⟩) (by rw [show exportsCost (expsM ++ [⟨⟨#[109, 97, 105, 110]⟩, 3, (x : Int)⟩]) = exportsCost (expsM ++ [⟨⟨#[109, 97, 105, 110]⟩, 3, 0⟩]) from rfl]; decide) (fun b hb => by rcases hae b hb with h | h <;> omega)
        rw [e1] at kY
        replace kY := hid kY
        have bM4 : BoxL w8 w1.heap.size #[.slice (some ⟨gs, 0, none⟩) 3 3, .slice (some ⟨gi, 0, none⟩) 2 2, (.slice (some ⟨g, 0, none⟩) fs.length cf), .int .i64 1, .int .i64 (-1), .slice (some ⟨gg, 0, none⟩) 2 2, (.slice (some ⟨ge, 0, none⟩) 2 2), .slice (some ⟨gd, 0, none⟩) 1 1] := boxOf
        have nRe : NotIn w.heap.size (blk (some (⟨ge, 0, none⟩ : Addr))) := ⟨by simp [blk]; omega⟩
        have bR4 : BoxL w8 w.heap.size #[.slice none 0 0, .slice none 0 0, .slice none 0 0, .int .i64 0, .int .i64 0, .slice none 0 0, .slice none 0 0, .slice none 0 0] := boxOf
        have oM4 := bM4.old
        have oR4 := bR4.old
        have sbe4 : SubX w4 (blk (some (⟨ge, 0, none⟩ : Addr))) [ge] := ⟨fun b hb => .inl (by simpa [blk] using hb)⟩
        have cu8 : Cur w8 p := cu4.fr (S := [ge]) (FrX.fr (S := [ge]) (a := w4)) (by simp; omega)
        have cuY : Cur (w8.setCell ⟨w1.heap.size, 6, none⟩ (.slice ae (expsM.length + 1) ce)) p := inferInstance
        have stY : Fr [p] w (w8.setCell ⟨w1.heap.size, 6, none⟩ (.slice ae (expsM.length + 1) ce)) := stw.fr.trans frY (fun b hb => by simp only [List.mem_cons, List.not_mem_nil, or_false] at hb; rcases hb with rfl | rfl | rfl; exact .inl (by simp); exact .inr (by omega); exact .inr (by omega))
        go_wp2
        refine bodyPost_ret (v := .agg #[.slice (some ⟨gs, 0, none⟩) 3 3, .slice (some ⟨gi, 0, none⟩) 2 2, (.slice (some ⟨g, 0, none⟩) fs.length cf), .int .i64 1, .int .i64 (-1), .slice (some ⟨gg, 0, none⟩) 2 2, (.slice ae (expsM.length + 1) ce), .slice (some ⟨gd, 0, none⟩) 1 1]) (by simp [results, Tryd.results10, go_sem]) rfl ?_
        exact ⟨modM fs true 1 (expsM ++ [⟨⟨#[109, 97, 105, 110]⟩, 3, (x : Int)⟩]) dataM, _, rfl, hid ((ModK.fr (S := [w.heap.size]) kY.out (by exact FrX.fr (a := w8.setCell ⟨w1.heap.size, 6, none⟩ (.slice ae (expsM.length + 1) ce))) (by simp)).weak (by omega)), Cur.fr (S := [w.heap.size]) cuY (by exact FrX.fr (a := w8.setCell ⟨w1.heap.size, 6, none⟩ (.slice ae (expsM.length + 1) ce))) (by simp; omega), ⟨Fr.trans (T := [w.heap.size]) stY (by exact FrX.fr (a := w8.setCell ⟨w1.heap.size, 6, none⟩ (.slice ae (expsM.length + 1) ce))) (fun b hb => .inr (Nat.le_of_eq (List.mem_singleton.1 hb).symm))⟩⟩
  · -- no memory
    have kY := ((hD3.out.fr (X := w3.setCell ⟨w1.heap.size, 3, none⟩ (.int .i64 (-1))) ((Fr.refl [w1.heap.size] _).setCell (.inl (List.mem_singleton_self _)) _) (fun x hx => by rw [List.mem_singleton.1 hx]; exact offM)).modK hmq (pages := -1) (.inr rfl))
    replace kY := hid kY
    have cuY : Cur (w3.setCell ⟨w1.heap.size, 3, none⟩ (.int .i64 (-1))) p := inferInstance
    have stY : Fr [p] w (w3.setCell ⟨w1.heap.size, 3, none⟩ (.int .i64 (-1))) := stw.fr.trans (T := [w1.heap.size]) ((Fr.refl [w1.heap.size] _).setCell (.inl (List.mem_singleton_self _)) _) (fun b hb => .inr (by rw [List.mem_singleton.1 hb]; omega))
    go_wp2
    refine bodyPost_ret (v := .agg #[.slice (some ⟨gs, 0, none⟩) 3 3, .slice (some ⟨gi, 0, none⟩) 2 2, (.slice (some ⟨g, 0, none⟩) fs.length cf), .int .i64 (-1), .int .i64 (-1), .slice (some ⟨gg, 0, none⟩) 2 2, (.slice (some ⟨ge, 0, none⟩) 2 2), .slice (some ⟨gd, 0, none⟩) 1 1]) (by simp [results, Tryd.results10, go_sem]) rfl ?_
    exact ⟨modM fs true (-1) expsM dataM, _, rfl, hid ((ModK.fr (S := [w.heap.size]) kY.out (by exact FrX.fr (a := w3.setCell ⟨w1.heap.size, 3, none⟩ (.int .i64 (-1)))) (by simp)).weak (by omega)), Cur.fr (S := [w.heap.size]) cuY (by exact FrX.fr (a := w3.setCell ⟨w1.heap.size, 3, none⟩ (.int .i64 (-1)))) (by simp; omega), ⟨Fr.trans (T := [w.heap.size]) stY (by exact FrX.fr (a := w3.setCell ⟨w1.heap.size, 3, none⟩ (.int .i64 (-1)))) (fun b hb => .inr (Nat.le_of_eq (List.mem_singleton.1 hb).symm))⟩⟩
  · -- another body
    go_wp2_with fail
    refine rg_begin (n := 8) (StepX [p, g] w3) (by kernel_rfl) rfl ?_
    have rg0 := (show (StepX [p, g] w3) (World.drew _) from (show StepX [p, g] w3 w3.drew from mkStepX))
    refine rg_read (i := 0) (a1 := _) rfl (by kernel_rfl) rfl (by first | (simp; done) | (simp [Act.put]; done)) (by intro wq hwq; go_wp2; exact ⟨rfl, rfl⟩) rg0 ?_
    refine rg_read (i := 1) (a1 := _) rfl (by kernel_rfl) rfl (by first | (simp; done) | (simp [Act.put]; done)) (by intro wq hwq; go_wp2; exact ⟨rfl, rfl⟩) rg0 ?_
    refine rg_read (i := 2) (a1 := _) rfl (by kernel_rfl) rfl (by first | (simp; done) | (simp [Act.put]; done)) (by intro wq hwq; go_wp2; exact ⟨rfl, rfl⟩) rg0 ?_
    refine rg_read (i := 3) (a1 := _) rfl (by kernel_rfl) rfl (by first | (simp; done) | (simp [Act.put]; done)) (by intro wq hwq; go_wp2; exact ⟨rfl, rfl⟩) rg0 ?_
    refine rg_eff (i := 4) rfl (by kernel_rfl) ?_
    simp only [List.getElem_toArray, List.getElem_cons_succ, List.getElem_cons_zero]
    go_wp2_with fail
    with_reducible refine Calls.mono (sdraw0 _) ?_
    rintro e w4 ⟨ao, co, l, rfl, hll, hli, ownl, cu4, st4⟩
    go_wp2_with fail
    refine ⟨mkStepX, ?_⟩
    refine rg_read (i := 5) (a1 := _) rfl (by kernel_rfl) rfl (by first | (simp; done) | (simp [Act.put]; done)) (by intro wq hwq; go_wp2; exact ⟨rfl, rfl⟩) mkStepX ?_
    refine rg_read (i := 6) (a1 := _) rfl (by kernel_rfl) rfl (by first | (simp; done) | (simp [Act.put]; done)) (by intro wq hwq; go_wp2; exact ⟨rfl, rfl⟩) mkStepX ?_
    refine rg_eff (i := 7) rfl (by kernel_rfl) ?_
    simp only [List.getElem_toArray, List.getElem_cons_succ, List.getElem_cons_zero]
    go_wp2_with fail
    refine ⟨mkStepX, ?_⟩
    refine rg_done (by kernel_rfl) ?_
    have hao : ∀ b ∈ blk ao, w3.heap.size ≤ b := fun b hb => (ownsRow_blk ownl b hb).1
    have hD4 : DrM w4 B p gs gi gg ge gd gh (some ⟨g, 0, none⟩) cf fs := hD3.out.fr (FrX.fr (S := [p]) (a := w3)) (fun x hx => by rw [List.mem_singleton.1 hx]; exact offp3)
    obtain ⟨y, hy⟩ : ∃ y : FB, y = ⟨fs[f].sig, fs[f].loc, ao, co, l⟩ := ⟨_, rfl⟩
    have hyB : BodyO w4 w3.heap.size 70000 y := by rw [hy]; exact ⟨RowO.of_own ownl, by simp only; omega, hli.out, hB3.out.sg, hB3.out.lo⟩
    have kY := hD4.modK_f (k := f) (y := y) hmq hf2 hyB (by omega) (fun hm => by rw [hy] at hm; have := hao g hm; omega) (by rw [hy]; exact ⟨rfl, rfl⟩)
    rw [hy] at kY
    replace kY := hid kY
    clear hyB hy
    have bM4 : BoxL w4 w1.heap.size #[.slice (some ⟨gs, 0, none⟩) 3 3, .slice (some ⟨gi, 0, none⟩) 2 2, (.slice (some ⟨g, 0, none⟩) fs.length cf), .int .i64 1, .int .i64 (-1), .slice (some ⟨gg, 0, none⟩) 2 2, (.slice (some ⟨ge, 0, none⟩) 2 2), .slice (some ⟨gd, 0, none⟩) 1 1] := boxOf
    have bR4 : BoxL w4 w.heap.size #[.slice none 0 0, .slice none 0 0, .slice none 0 0, .int .i64 0, .int .i64 0, .slice none 0 0, .slice none 0 0, .slice none 0 0] := boxOf
    have oM4 := bM4.old
    have oR4 := bR4.old
    have neg1 : NeB g w1.heap.size := ⟨ngM⟩
    have neg2 : NeB g w.heap.size := ⟨ngR⟩
    have gtg : Gt p g := ⟨by omega⟩
    have cuY : Cur (w4.setCell ⟨g, f * 3 + 2, none⟩ (.slice ao l.length co)) p := inferInstance
    have st4w : Fr [p] w w4 := stw.fr.trans (FrX.fr (S := [p]) (a := w3)) (fun b hb => .inl hb)
    have stY : Fr [p] w (w4.setCell ⟨g, f * 3 + 2, none⟩ (.slice ao l.length co)) := st4w.trans (T := [g]) ((Fr.refl [g] _).setCell (.inl (List.mem_singleton_self _)) _) (fun b hb => .inr (by rw [List.mem_singleton.1 hb]; omega))
    go_wp2
    refine bodyPost_ret (v := .agg #[.slice (some ⟨gs, 0, none⟩) 3 3, .slice (some ⟨gi, 0, none⟩) 2 2, (.slice (some ⟨g, 0, none⟩) fs.length cf), .int .i64 1, .int .i64 (-1), .slice (some ⟨gg, 0, none⟩) 2 2, (.slice (some ⟨ge, 0, none⟩) 2 2), .slice (some ⟨gd, 0, none⟩) 1 1]) (by simp [results, Tryd.results10, go_sem]) rfl ?_
    exact ⟨modM (fs.set f ⟨fs[f].sig, fs[f].loc, ao, co, l⟩) true 1 expsM dataM, _, rfl, hid ((ModK.fr (S := [w.heap.size]) kY.out (by exact FrX.fr (a := w4.setCell ⟨g, f * 3 + 2, none⟩ (.slice ao l.length co))) (by simp)).weak (by omega)), Cur.fr (S := [w.heap.size]) cuY (by exact FrX.fr (a := w4.setCell ⟨g, f * 3 + 2, none⟩ (.slice ao l.length co))) (by simp; omega), ⟨Fr.trans (T := [w.heap.size]) stY (by exact FrX.fr (a := w4.setCell ⟨g, f * 3 + 2, none⟩ (.slice ao l.length co))) (fun b hb => .inr (Nat.le_of_eq (List.mem_singleton.1 hb).symm))⟩⟩
  · -- two instructions more
    have hcap := hB3.out.own.cap_ok
    unfold maxLen at hcap
    go_wp2_with fail
    have nML : NotIn w1.heap.size (p :: g :: blk fs[f].a) := ⟨fun hm => by
      rcases List.mem_cons.1 hm with h | h
      · omega
      · rcases List.mem_cons.1 h with h | h
        · omega
        · have := (hD.out.inv.lt _ (List.getElem_mem hf2) _ h).2; omega⟩
    have sbL : SubX w3 [p] (p :: g :: blk fs[f].a) := ⟨fun b hb => .inl (by rw [List.mem_singleton.1 hb]; simp)⟩
    have sbM : SubX w3 (blk fs[f].a) (p :: g :: blk fs[f].a) := ⟨fun b hb => .inl (by simp [hb])⟩
    have mgL : MemB g (p :: g :: blk fs[f].a) := ⟨by simp⟩
    have hBw : B ≤ w3.heap.size := by omega
    have hpa : p ∉ blk fs[f].a := offp3.2.2.2.2.2.2.2 _ (List.getElem_mem hf2)
    have rowW : Hid (∀ W, FrX [p] w3 W → RowO W B 50 3 fs[f].a fs[f].body.length fs[f].cap (fs[f].body.flatMap insVs)) := hid fun W fx => hB3.out.own.fr fx.fr (fun b hb hm => by rw [List.mem_singleton] at hm; subst hm; exact hpa hb)
    have nga : NotIn g (blk fs[f].a) := ⟨fun hm => hD3.out.inv.apart _ (List.getElem_mem hf2) g hm (by simp [blk])⟩
    have nMa : NotIn w1.heap.size (blk fs[f].a) := ⟨fun hm => by have := (hD.out.inv.lt _ (List.getElem_mem hf2) _ hm).2; omega⟩
    have nRa : NotIn w.heap.size (blk fs[f].a) := ⟨fun hm => by have := (hD.out.inv.lt _ (List.getElem_mem hf2) _ hm).1; omega⟩
    have sb1 : SubX w3 [p] (p :: blk fs[f].a) := ⟨fun b hb => .inl (by rw [List.mem_singleton.1 hb]; simp)⟩
    have sb2 : SubX w3 (blk fs[f].a) (p :: blk fs[f].a) := ⟨fun b hb => .inl (by simp [hb])⟩
    have hsS : Hid (∀ b ∈ p :: blk fs[f].a, b ≠ gs ∧ b ≠ gi ∧ b ≠ gg ∧ b ≠ ge ∧ b ≠ gd ∧ b ≠ gh ∧ b ≠ g ∧ ∀ j (hj : j < fs.length), j ≠ f → b ∉ blk fs[j].a) := hid fun b hb => by
      have lo := hD3.out.lo
      have h4 := hD3.out.hi ge (by simp)
      have h5 := hD3.out.hi gd (by simp)
      have h6 := hD3.out.hi gh (by simp)
      rcases List.mem_cons.1 hb with rfl | hmb
      · exact ⟨offp3.1, offp3.2.1, offp3.2.2.1, offp3.2.2.2.1, offp3.2.2.2.2.1, offp3.2.2.2.2.2.1, by omega, fun j hj _ => offp3.2.2.2.2.2.2.2 _ (List.getElem_mem hj)⟩
      · have hbl := hD3.out.inv.lt _ (List.getElem_mem hf2) b hmb
        exact ⟨by omega, by omega, by omega, fun e => h4.2.2 _ (List.getElem_mem hf2) (by rw [← e]; exact hmb), fun e => h5.2.2 _ (List.getElem_mem hf2) (by rw [← e]; exact hmb), fun e => h6.2.2 _ (List.getElem_mem hf2) (by rw [← e]; exact hmb), fun e => nga.ne (by rw [← e]; exact hmb), fun j hj hjf hm => hD3.out.inv.pair f j hf2 hj (fun e => hjf e.symm) b hmb hm⟩
    have own3g : Hid (∀ W, Fr (p :: blk fs[f].a) w3 W → W.ownsRow B 39 3 (.slice (some ⟨g, 0, none⟩) fs.length cf) fs.length (fs.flatMap fbVs)) := hid fun W fx => ownsRow_fr hD3.out.own fx (fun b hb hm => by simp only [blk, List.mem_singleton] at hb; subst hb; exact (hsS.out _ hm).2.2.2.2.2.2.1 rfl)
    refine rg_begin (n := 22) (StepX (p :: g :: blk fs[f].a) w3) (by kernel_rfl) rfl ?_
    have rg0 := (show (StepX (p :: g :: blk fs[f].a) w3) (World.drew _) from (show StepX (p :: g :: blk fs[f].a) w3 w3.drew from mkStepX))
    refine rg_read (i := 0) (a1 := _) rfl (by kernel_rfl) rfl (by first | (simp; done) | (simp [Act.put]; done)) (by intro wq hwq; go_wp2; exact ⟨rfl, rfl⟩) rg0 ?_
    refine rg_read (i := 1) (a1 := _) rfl (by kernel_rfl) rfl (by first | (simp; done) | (simp [Act.put]; done)) (by intro wq hwq; go_wp2; exact ⟨rfl, rfl⟩) rg0 ?_
    refine rg_read (i := 2) (a1 := _) rfl (by kernel_rfl) rfl (by first | (simp; done) | (simp [Act.put]; done)) (by intro wq hwq; go_wp2; exact ⟨rfl, rfl⟩) rg0 ?_
    refine rg_read (i := 3) (a1 := _) rfl (by kernel_rfl) rfl (by first | (simp; done) | (simp [Act.put]; done)) (by intro wq hwq; go_wp2; exact ⟨rfl, rfl⟩) rg0 ?_
    refine rg_read (i := 4) (a1 := _) rfl (by kernel_rfl) rfl (by first | (simp; done) | (simp [Act.put]; done)) (by intro wq hwq; go_wp2; exact ⟨rfl, rfl⟩) rg0 ?_
    refine rg_read (i := 5) (a1 := _) rfl (by kernel_rfl) rfl (by first | (simp; done) | (simp [Act.put]; done)) (by intro wq hwq; go_wp2; exact ⟨rfl, rfl⟩) rg0 ?_
    refine rg_read (i := 6) (a1 := _) rfl (by kernel_rfl) rfl (by first | (simp; done) | (simp [Act.put]; done)) (by intro wq hwq; go_wp2; exact ⟨rfl, rfl⟩) rg0 ?_
    refine rg_read (i := 7) (a1 := _) rfl (by kernel_rfl) rfl (by first | (simp; done) | (simp [Act.put]; done)) (by intro wq hwq; go_wp2; exact ⟨rfl, rfl⟩) rg0 ?_
    refine rg_read (i := 10) (a1 := _) rfl (by kernel_rfl) rfl (by first | (simp; done) | (simp [Act.put]; done)) (by intro wq hwq; go_wp2; exact ⟨rfl, rfl⟩) rg0 ?_
    refine rg_read (i := 15) (a1 := _) rfl (by kernel_rfl) rfl (by first | (simp; done) | (simp [Act.put]; done)) (by intro wq hwq; go_wp2; exact ⟨rfl, rfl⟩) rg0 ?_
    refine rg_three (i := 8) (j := 9) (k := 11) rfl rfl rfl (by kernel_rfl) ?_ ?_ ?_
    · simp only [List.getElem_toArray, List.getElem_cons_succ, List.getElem_cons_zero]
      go_wp2_with fail
      refine ⟨mkStepX, ?_⟩
      refine rg_two (i := 9) (j := 11) rfl rfl (by kernel_rfl) ?_ ?_
      · simp only [List.getElem_toArray, List.getElem_cons_succ, List.getElem_cons_zero]
        go_wp2_with fail
        refine ⟨mkStepX, ?_⟩
        refine rg_eff (i := 11) rfl (by kernel_rfl) ?_
        simp only [List.getElem_toArray, List.getElem_cons_succ, List.getElem_cons_zero]
        go_wp2_with fail
        with_reducible refine Calls.mono (sbelowC _ _ (by omega)) ?_
        rintro e w4 ⟨x, hx, rfl, cu4, st4⟩
        go_wp2_with fail
        refine ⟨mkStepX, ?_⟩
        refine rg_read (i := 12) (a1 := _) rfl (by kernel_rfl) rfl (by first | (simp; done) | (simp [Act.put]; done)) (by intro wq hwq; go_wp2; exact ⟨rfl, rfl⟩) mkStepX ?_
        refine rg_two (i := 13) (j := 16) rfl rfl (by kernel_rfl) ?_ ?_
        · simp only [List.getElem_toArray, List.getElem_cons_succ, List.getElem_cons_zero]
          obtain ⟨o, ho, hlo⟩ := lit_ex x (by omega)
          go_wp2_with fail
          refine ⟨mkStepX, ?_⟩
          refine rg_read (i := 14) (a1 := _) rfl (by kernel_rfl) rfl (by first | (simp; done) | (simp [Act.put]; done)) (by intro wq hwq; go_wp2; exact ⟨rfl, rfl⟩) mkStepX ?_
          refine rg_eff (i := 16) rfl (by kernel_rfl) ?_
          simp only [List.getElem_toArray, List.getElem_cons_succ, List.getElem_cons_zero]
          go_wp2_with fail
          with_reducible refine Calls.mono (sinsC _) ?_
          rintro e w5 ⟨q, hq, rfl, cu5, st5⟩
          go_wp2_with fail
          refine ⟨mkStepX, ?_⟩
          refine rg_eff (i := 17) rfl (by kernel_rfl) ?_
          simp only [List.getElem_toArray, List.getElem_cons_succ, List.getElem_cons_zero]
          go_wp2_with fail
          refine ⟨mkStepX, ?_⟩
          refine rg_eff (i := 18) rfl (by kernel_rfl) ?_
          simp only [List.getElem_toArray, List.getElem_cons_succ, List.getElem_cons_zero]
          go_wp2_with (at_builtin; go_must (refine app_o _ rfl (.tmp 93) (.tmp 102) 37 rfl 50 (.agg #[.int .i64 0, .int .i64 0, .int .i64 0]) 3 24 Tryd.inss_tab B fs[f].a fs[f].body.length fs[f].cap (fs[f].body.flatMap insVs) rfl (rowW.out _ inferInstance) _ 2 2 (([⟨o, 0, 0⟩, q] : List InsD).flatMap insVs) rfl (view_litZ _ _ _ _ _ _ rfl (by simp)) (insVs_allD _) (by decide) (by omega) (Nat.le_trans hBw (FrX.fr (S := [p]) (a := w3)).size) ?_); intro ae ce w8 row8 fr8)
          have sx8 : StepX (blk fs[f].a) _ w8 := ⟨fr8⟩
          refine ⟨mkStepX, ?_⟩
          refine rg_read (i := 19) (a1 := _) rfl (by kernel_rfl) rfl (by first | (simp; done) | (simp [Act.put]; done)) (by intro wq hwq; go_wp2; exact ⟨rfl, rfl⟩) mkStepX ?_
          refine rg_read (i := 20) (a1 := _) rfl (by kernel_rfl) rfl (by first | (simp; done) | (simp [Act.put]; done)) (by intro wq hwq; go_wp2; exact ⟨rfl, rfl⟩) mkStepX ?_
          refine rg_eff (i := 21) rfl (by kernel_rfl) ?_
          simp only [List.getElem_toArray, List.getElem_cons_succ, List.getElem_cons_zero]
          go_wp2_with fail
          refine ⟨mkStepX, ?_⟩
          refine rg_done (by kernel_rfl) ?_
          have frS : Fr (p :: blk fs[f].a) w3 w8 := FrX.fr (S := p :: blk fs[f].a) (a := w3)
          have hyl : (fs[f].body ++ [⟨o, 0, 0⟩, q]).length = fs[f].body.length + 2 := by simp
          obtain ⟨y, hy⟩ : ∃ y : FB, y = ⟨fs[f].sig, fs[f].loc, ae, ce, fs[f].body ++ [⟨o, 0, 0⟩, q]⟩ := ⟨_, rfl⟩
          have hyB : BodyO w8 B 70000 y := by
            rw [hy]
            refine ⟨by simp only [hyl, List.flatMap_append]; exact row8, by simp only [hyl]; omega, fun i hi => ?_, hB3.out.sg, hB3.out.lo⟩
            rcases List.mem_append.1 hi with h | h
            · exact hB3.out.in3 i h
            · simp only [List.mem_cons, List.not_mem_nil, or_false] at h
              rcases h with rfl | rfl
              · exact ⟨ho, in64_lit, in64_lit⟩
              · exact hq
          have kY := hD3.out.modK_a (k := f) (y := y) hmq hf2 frS hsS.out hyB (Nat.le_refl _) (by rw [hy]; exact row_other row8 (own3g.out _ frS) (by decide)) (by rw [hy]; exact ⟨rfl, rfl⟩)
          have ey : (.slice y.a y.body.length y.cap : Value) = .slice ae (fs[f].body.length + 2) ce := by rw [hy]; simp only [hyl]
          rw [ey] at kY
          replace kY := hid kY
          clear hyB hy ey hyl
          have bM4 : BoxL w8 w1.heap.size #[.slice (some ⟨gs, 0, none⟩) 3 3, .slice (some ⟨gi, 0, none⟩) 2 2, (.slice (some ⟨g, 0, none⟩) fs.length cf), .int .i64 1, .int .i64 (-1), .slice (some ⟨gg, 0, none⟩) 2 2, (.slice (some ⟨ge, 0, none⟩) 2 2), .slice (some ⟨gd, 0, none⟩) 1 1] := boxOf
          have bR4 : BoxL w8 w.heap.size #[.slice none 0 0, .slice none 0 0, .slice none 0 0, .int .i64 0, .int .i64 0, .slice none 0 0, .slice none 0 0, .slice none 0 0] := boxOf
          have oM4 := bM4.old
          have oR4 := bR4.old
          have neg1 : NeB g w1.heap.size := ⟨ngM⟩
          have neg2 : NeB g w.heap.size := ⟨ngR⟩
          have gtg : Gt p g := ⟨by omega⟩
          have aba : Abv p (blk fs[f].a) := ⟨fun b hb => by have := (hD3.out.inv.lt _ (List.getElem_mem hf2) b hb).1; omega⟩
          have cuY : Cur (w8.setCell ⟨g, f * 3 + 2, none⟩ (.slice ae (fs[f].body.length + 2) ce)) p := inferInstance
          have stY : Fr [p] w (w8.setCell ⟨g, f * 3 + 2, none⟩ (.slice ae (fs[f].body.length + 2) ce)) := (stw.fr.trans frS (fun b hb => by rcases List.mem_cons.1 hb with h | h; exact .inl (by simp [h]); exact .inr (by have := (hD3.out.inv.lt _ (List.getElem_mem hf2) b h).1; omega))).trans (T := [g]) ((Fr.refl [g] _).setCell (.inl (List.mem_singleton_self _)) _) (fun b hb => .inr (by rw [List.mem_singleton.1 hb]; omega))
          go_wp2
          refine bodyPost_ret (v := .agg #[.slice (some ⟨gs, 0, none⟩) 3 3, .slice (some ⟨gi, 0, none⟩) 2 2, (.slice (some ⟨g, 0, none⟩) fs.length cf), .int .i64 1, .int .i64 (-1), .slice (some ⟨gg, 0, none⟩) 2 2, (.slice (some ⟨ge, 0, none⟩) 2 2), .slice (some ⟨gd, 0, none⟩) 1 1]) (by simp [results, Tryd.results10, go_sem]) rfl ?_
          exact ⟨modM (fs.set f y) true 1 expsM dataM, _, rfl, hid ((ModK.fr (S := [w.heap.size]) kY.out (by exact FrX.fr (a := w8.setCell ⟨g, f * 3 + 2, none⟩ (.slice ae (fs[f].body.length + 2) ce))) (by simp)).weak (by omega)), Cur.fr (S := [w.heap.size]) cuY (by exact FrX.fr (a := w8.setCell ⟨g, f * 3 + 2, none⟩ (.slice ae (fs[f].body.length + 2) ce))) (by simp; omega), ⟨Fr.trans (T := [w.heap.size]) stY (by exact FrX.fr (a := w8.setCell ⟨g, f * 3 + 2, none⟩ (.slice ae (fs[f].body.length + 2) ce))) (fun b hb => .inr (Nat.le_of_eq (List.mem_singleton.1 hb).symm))⟩⟩
        · simp only [List.getElem_toArray, List.getElem_cons_succ, List.getElem_cons_zero]
          go_wp2_with fail
          with_reducible refine Calls.mono (sinsC _) ?_
          rintro e w5 ⟨q, hq, rfl, cu5, st5⟩
          go_wp2_with fail
          refine ⟨mkStepX, ?_⟩
          refine rg_eff (i := 13) rfl (by kernel_rfl) ?_
          simp only [List.getElem_toArray, List.getElem_cons_succ, List.getElem_cons_zero]
          obtain ⟨o, ho, hlo⟩ := lit_ex x (by omega)
          go_wp2_with fail
          refine ⟨mkStepX, ?_⟩
          refine rg_read (i := 14) (a1 := _) rfl (by kernel_rfl) rfl (by first | (simp; done) | (simp [Act.put]; done)) (by intro wq hwq; go_wp2; exact ⟨rfl, rfl⟩) mkStepX ?_
          refine rg_eff (i := 17) rfl (by kernel_rfl) ?_
          simp only [List.getElem_toArray, List.getElem_cons_succ, List.getElem_cons_zero]
          go_wp2_with fail
          refine ⟨mkStepX, ?_⟩
          refine rg_eff (i := 18) rfl (by kernel_rfl) ?_
          simp only [List.getElem_toArray, List.getElem_cons_succ, List.getElem_cons_zero]
          go_wp2_with (at_builtin; go_must (refine app_o _ rfl (.tmp 93) (.tmp 102) 37 rfl 50 (.agg #[.int .i64 0, .int .i64 0, .int .i64 0]) 3 24 Tryd.inss_tab B fs[f].a fs[f].body.length fs[f].cap (fs[f].body.flatMap insVs) rfl (rowW.out _ inferInstance) _ 2 2 (([⟨o, 0, 0⟩, q] : List InsD).flatMap insVs) rfl (view_litZ _ _ _ _ _ _ rfl (by simp)) (insVs_allD _) (by decide) (by omega) (Nat.le_trans hBw (FrX.fr (S := [p]) (a := w3)).size) ?_); intro ae ce w8 row8 fr8)
          have sx8 : StepX (blk fs[f].a) _ w8 := ⟨fr8⟩
          refine ⟨mkStepX, ?_⟩
          refine rg_read (i := 19) (a1 := _) rfl (by kernel_rfl) rfl (by first | (simp; done) | (simp [Act.put]; done)) (by intro wq hwq; go_wp2; exact ⟨rfl, rfl⟩) mkStepX ?_
          refine rg_read (i := 20) (a1 := _) rfl (by kernel_rfl) rfl (by first | (simp; done) | (simp [Act.put]; done)) (by intro wq hwq; go_wp2; exact ⟨rfl, rfl⟩) mkStepX ?_
          refine rg_eff (i := 21) rfl (by kernel_rfl) ?_
          simp only [List.getElem_toArray, List.getElem_cons_succ, List.getElem_cons_zero]
          go_wp2_with fail
          refine ⟨mkStepX, ?_⟩
          refine rg_done (by kernel_rfl) ?_
          have frS : Fr (p :: blk fs[f].a) w3 w8 := FrX.fr (S := p :: blk fs[f].a) (a := w3)
          have hyl : (fs[f].body ++ [⟨o, 0, 0⟩, q]).length = fs[f].body.length + 2 := by simp
          obtain ⟨y, hy⟩ : ∃ y : FB, y = ⟨fs[f].sig, fs[f].loc, ae, ce, fs[f].body ++ [⟨o, 0, 0⟩, q]⟩ := ⟨_, rfl⟩
          have hyB : BodyO w8 B 70000 y := by
            rw [hy]
            refine ⟨by simp only [hyl, List.flatMap_append]; exact row8, by simp only [hyl]; omega, fun i hi => ?_, hB3.out.sg, hB3.out.lo⟩
            rcases List.mem_append.1 hi with h | h
            · exact hB3.out.in3 i h
            · simp only [List.mem_cons, List.not_mem_nil, or_false] at h
              rcases h with rfl | rfl
              · exact ⟨ho, in64_lit, in64_lit⟩
              · exact hq
          have kY := hD3.out.modK_a (k := f) (y := y) hmq hf2 frS hsS.out hyB (Nat.le_refl _) (by rw [hy]; exact row_other row8 (own3g.out _ frS) (by decide)) (by rw [hy]; exact ⟨rfl, rfl⟩)
          have ey : (.slice y.a y.body.length y.cap : Value) = .slice ae (fs[f].body.length + 2) ce := by rw [hy]; simp only [hyl]
          rw [ey] at kY
          replace kY := hid kY
          clear hyB hy ey hyl
          have bM4 : BoxL w8 w1.heap.size #[.slice (some ⟨gs, 0, none⟩) 3 3, .slice (some ⟨gi, 0, none⟩) 2 2, (.slice (some ⟨g, 0, none⟩) fs.length cf), .int .i64 1, .int .i64 (-1), .slice (some ⟨gg, 0, none⟩) 2 2, (.slice (some ⟨ge, 0, none⟩) 2 2), .slice (some ⟨gd, 0, none⟩) 1 1] := boxOf
          have bR4 : BoxL w8 w.heap.size #[.slice none 0 0, .slice none 0 0, .slice none 0 0, .int .i64 0, .int .i64 0, .slice none 0 0, .slice none 0 0, .slice none 0 0] := boxOf
          have oM4 := bM4.old
          have oR4 := bR4.old
          have neg1 : NeB g w1.heap.size := ⟨ngM⟩
          have neg2 : NeB g w.heap.size := ⟨ngR⟩
          have gtg : Gt p g := ⟨by omega⟩
          have aba : Abv p (blk fs[f].a) := ⟨fun b hb => by have := (hD3.out.inv.lt _ (List.getElem_mem hf2) b hb).1; omega⟩
          have cuY : Cur (w8.setCell ⟨g, f * 3 + 2, none⟩ (.slice ae (fs[f].body.length + 2) ce)) p := inferInstance
          have stY : Fr [p] w (w8.setCell ⟨g, f * 3 + 2, none⟩ (.slice ae (fs[f].body.length + 2) ce)) := (stw.fr.trans frS (fun b hb => by rcases List.mem_cons.1 hb with h | h; exact .inl (by simp [h]); exact .inr (by have := (hD3.out.inv.lt _ (List.getElem_mem hf2) b h).1; omega))).trans (T := [g]) ((Fr.refl [g] _).setCell (.inl (List.mem_singleton_self _)) _) (fun b hb => .inr (by rw [List.mem_singleton.1 hb]; omega))
          go_wp2
          refine bodyPost_ret (v := .agg #[.slice (some ⟨gs, 0, none⟩) 3 3, .slice (some ⟨gi, 0, none⟩) 2 2, (.slice (some ⟨g, 0, none⟩) fs.length cf), .int .i64 1, .int .i64 (-1), .slice (some ⟨gg, 0, none⟩) 2 2, (.slice (some ⟨ge, 0, none⟩) 2 2), .slice (some ⟨gd, 0, none⟩) 1 1]) (by simp [results, Tryd.results10, go_sem]) rfl ?_
          exact ⟨modM (fs.set f y) true 1 expsM dataM, _, rfl, hid ((ModK.fr (S := [w.heap.size]) kY.out (by exact FrX.fr (a := w8.setCell ⟨g, f * 3 + 2, none⟩ (.slice ae (fs[f].body.length + 2) ce))) (by simp)).weak (by omega)), Cur.fr (S := [w.heap.size]) cuY (by exact FrX.fr (a := w8.setCell ⟨g, f * 3 + 2, none⟩ (.slice ae (fs[f].body.length + 2) ce))) (by simp; omega), ⟨Fr.trans (T := [w.heap.size]) stY (by exact FrX.fr (a := w8.setCell ⟨g, f * 3 + 2, none⟩ (.slice ae (fs[f].body.length + 2) ce))) (fun b hb => .inr (Nat.le_of_eq (List.mem_singleton.1 hb).symm))⟩⟩
      · simp only [List.getElem_toArray, List.getElem_cons_succ, List.getElem_cons_zero]
        go_wp2_with fail
        with_reducible refine Calls.mono (sbelowC _ _ (by omega)) ?_
        rintro e w4 ⟨x, hx, rfl, cu4, st4⟩
        go_wp2_with fail
        refine ⟨mkStepX, ?_⟩
        refine rg_two (i := 9) (j := 16) rfl rfl (by kernel_rfl) ?_ ?_
        · simp only [List.getElem_toArray, List.getElem_cons_succ, List.getElem_cons_zero]
          go_wp2_with fail
          refine ⟨mkStepX, ?_⟩
          refine rg_read (i := 12) (a1 := _) rfl (by kernel_rfl) rfl (by first | (simp; done) | (simp [Act.put]; done)) (by intro wq hwq; go_wp2; exact ⟨rfl, rfl⟩) mkStepX ?_
          refine rg_two (i := 13) (j := 16) rfl rfl (by kernel_rfl) ?_ ?_
          · simp only [List.getElem_toArray, List.getElem_cons_succ, List.getElem_cons_zero]
            obtain ⟨o, ho, hlo⟩ := lit_ex x (by omega)
            go_wp2_with fail
            refine ⟨mkStepX, ?_⟩
            refine rg_read (i := 14) (a1 := _) rfl (by kernel_rfl) rfl (by first | (simp; done) | (simp [Act.put]; done)) (by intro wq hwq; go_wp2; exact ⟨rfl, rfl⟩) mkStepX ?_
            refine rg_eff (i := 16) rfl (by kernel_rfl) ?_
            simp only [List.getElem_toArray, List.getElem_cons_succ, List.getElem_cons_zero]
            go_wp2_with fail
            with_reducible refine Calls.mono (sinsC _) ?_
            rintro e w5 ⟨q, hq, rfl, cu5, st5⟩
            go_wp2_with fail
            refine ⟨mkStepX, ?_⟩
            refine rg_eff (i := 17) rfl (by kernel_rfl) ?_
            simp only [List.getElem_toArray, List.getElem_cons_succ, List.getElem_cons_zero]
            go_wp2_with fail
            refine ⟨mkStepX, ?_⟩
            refine rg_eff (i := 18) rfl (by kernel_rfl) ?_
            simp only [List.getElem_toArray, List.getElem_cons_succ, List.getElem_cons_zero]
            go_wp2_with (at_builtin; go_must (refine app_o _ rfl (.tmp 93) (.tmp 102) 37 rfl 50 (.agg #[.int .i64 0, .int .i64 0, .int .i64 0]) 3 24 Tryd.inss_tab B fs[f].a fs[f].body.length fs[f].cap (fs[f].body.flatMap insVs) rfl (rowW.out _ inferInstance) _ 2 2 (([⟨o, 0, 0⟩, q] : List InsD).flatMap insVs) rfl (view_litZ _ _ _ _ _ _ rfl (by simp)) (insVs_allD _) (by decide) (by omega) (Nat.le_trans hBw (FrX.fr (S := [p]) (a := w3)).size) ?_); intro ae ce w8 row8 fr8)
            have sx8 : StepX (blk fs[f].a) _ w8 := ⟨fr8⟩
            refine ⟨mkStepX, ?_⟩
            refine rg_read (i := 19) (a1 := _) rfl (by kernel_rfl) rfl (by first | (simp; done) | (simp [Act.put]; done)) (by intro wq hwq; go_wp2; exact ⟨rfl, rfl⟩) mkStepX ?_
            refine rg_read (i := 20) (a1 := _) rfl (by kernel_rfl) rfl (by first | (simp; done) | (simp [Act.put]; done)) (by intro wq hwq; go_wp2; exact ⟨rfl, rfl⟩) mkStepX ?_
            refine rg_eff (i := 21) rfl (by kernel_rfl) ?_
            simp only [List.getElem_toArray, List.getElem_cons_succ, List.getElem_cons_zero]
            go_wp2_with fail
            refine ⟨mkStepX, ?_⟩
            refine rg_done (by kernel_rfl) ?_
            have frS : Fr (p :: blk fs[f].a) w3 w8 := FrX.fr (S := p :: blk fs[f].a) (a := w3)
            have hyl : (fs[f].body ++ [⟨o, 0, 0⟩, q]).length = fs[f].body.length + 2 := by simp
            obtain ⟨y, hy⟩ : ∃ y : FB, y = ⟨fs[f].sig, fs[f].loc, ae, ce, fs[f].body ++ [⟨o, 0, 0⟩, q]⟩ := ⟨_, rfl⟩
            have hyB : BodyO w8 B 70000 y := by
              rw [hy]
              refine ⟨by simp only [hyl, List.flatMap_append]; exact row8, by simp only [hyl]; omega, fun i hi => ?_, hB3.out.sg, hB3.out.lo⟩
              rcases List.mem_append.1 hi with h | h
              · exact hB3.out.in3 i h
              · simp only [List.mem_cons, List.not_mem_nil, or_false] at h
                rcases h with rfl | rfl
                · exact ⟨ho, in64_lit, in64_lit⟩
                · exact hq
            have kY := hD3.out.modK_a (k := f) (y := y) hmq hf2 frS hsS.out hyB (Nat.le_refl _) (by rw [hy]; exact row_other row8 (own3g.out _ frS) (by decide)) (by rw [hy]; exact ⟨rfl, rfl⟩)
            have ey : (.slice y.a y.body.length y.cap : Value) = .slice ae (fs[f].body.length + 2) ce := by rw [hy]; simp only [hyl]
            rw [ey] at kY
            replace kY := hid kY
            clear hyB hy ey hyl
            have bM4 : BoxL w8 w1.heap.size #[.slice (some ⟨gs, 0, none⟩) 3 3, .slice (some ⟨gi, 0, none⟩) 2 2, (.slice (some ⟨g, 0, none⟩) fs.length cf), .int .i64 1, .int .i64 (-1), .slice (some ⟨gg, 0, none⟩) 2 2, (.slice (some ⟨ge, 0, none⟩) 2 2), .slice (some ⟨gd, 0, none⟩) 1 1] := boxOf
            have bR4 : BoxL w8 w.heap.size #[.slice none 0 0, .slice none 0 0, .slice none 0 0, .int .i64 0, .int .i64 0, .slice none 0 0, .slice none 0 0, .slice none 0 0] := boxOf
            have oM4 := bM4.old
            have oR4 := bR4.old
            have neg1 : NeB g w1.heap.size := ⟨ngM⟩
            have neg2 : NeB g w.heap.size := ⟨ngR⟩
            have gtg : Gt p g := ⟨by omega⟩
            have aba : Abv p (blk fs[f].a) := ⟨fun b hb => by have := (hD3.out.inv.lt _ (List.getElem_mem hf2) b hb).1; omega⟩
            have cuY : Cur (w8.setCell ⟨g, f * 3 + 2, none⟩ (.slice ae (fs[f].body.length + 2) ce)) p := inferInstance
            have stY : Fr [p] w (w8.setCell ⟨g, f * 3 + 2, none⟩ (.slice ae (fs[f].body.length + 2) ce)) := (stw.fr.trans frS (fun b hb => by rcases List.mem_cons.1 hb with h | h; exact .inl (by simp [h]); exact .inr (by have := (hD3.out.inv.lt _ (List.getElem_mem hf2) b h).1; omega))).trans (T := [g]) ((Fr.refl [g] _).setCell (.inl (List.mem_singleton_self _)) _) (fun b hb => .inr (by rw [List.mem_singleton.1 hb]; omega))
            go_wp2
            refine bodyPost_ret (v := .agg #[.slice (some ⟨gs, 0, none⟩) 3 3, .slice (some ⟨gi, 0, none⟩) 2 2, (.slice (some ⟨g, 0, none⟩) fs.length cf), .int .i64 1, .int .i64 (-1), .slice (some ⟨gg, 0, none⟩) 2 2, (.slice (some ⟨ge, 0, none⟩) 2 2), .slice (some ⟨gd, 0, none⟩) 1 1]) (by simp [results, Tryd.results10, go_sem]) rfl ?_
            exact ⟨modM (fs.set f y) true 1 expsM dataM, _, rfl, hid ((ModK.fr (S := [w.heap.size]) kY.out (by exact FrX.fr (a := w8.setCell ⟨g, f * 3 + 2, none⟩ (.slice ae (fs[f].body.length + 2) ce))) (by simp)).weak (by omega)), Cur.fr (S := [w.heap.size]) cuY (by exact FrX.fr (a := w8.setCell ⟨g, f * 3 + 2, none⟩ (.slice ae (fs[f].body.length + 2) ce))) (by simp; omega), ⟨Fr.trans (T := [w.heap.size]) stY (by exact FrX.fr (a := w8.setCell ⟨g, f * 3 + 2, none⟩ (.slice ae (fs[f].body.length + 2) ce))) (fun b hb => .inr (Nat.le_of_eq (List.mem_singleton.1 hb).symm))⟩⟩
          · simp only [List.getElem_toArray, List.getElem_cons_succ, List.getElem_cons_zero]
            go_wp2_with fail
            with_reducible refine Calls.mono (sinsC _) ?_
            rintro e w5 ⟨q, hq, rfl, cu5, st5⟩
            go_wp2_with fail
            refine ⟨mkStepX, ?_⟩
            refine rg_eff (i := 13) rfl (by kernel_rfl) ?_
            simp only [List.getElem_toArray, List.getElem_cons_succ, List.getElem_cons_zero]
            obtain ⟨o, ho, hlo⟩ := lit_ex x (by omega)
            go_wp2_with fail
            refine ⟨mkStepX, ?_⟩
            refine rg_read (i := 14) (a1 := _) rfl (by kernel_rfl) rfl (by first | (simp; done) | (simp [Act.put]; done)) (by intro wq hwq; go_wp2; exact ⟨rfl, rfl⟩) mkStepX ?_
            refine rg_eff (i := 17) rfl (by kernel_rfl) ?_
            simp only [List.getElem_toArray, List.getElem_cons_succ, List.getElem_cons_zero]
            go_wp2_with fail
            refine ⟨mkStepX, ?_⟩
            refine rg_eff (i := 18) rfl (by kernel_rfl) ?_
            simp only [List.getElem_toArray, List.getElem_cons_succ, List.getElem_cons_zero]
            go_wp2_with (at_builtin; go_must (refine app_o _ rfl (.tmp 93) (.tmp 102) 37 rfl 50 (.agg #[.int .i64 0, .int .i64 0, .int .i64 0]) 3 24 Tryd.inss_tab B fs[f].a fs[f].body.length fs[f].cap (fs[f].body.flatMap insVs) rfl (rowW.out _ inferInstance) _ 2 2 (([⟨o, 0, 0⟩, q] : List InsD).flatMap insVs) rfl (view_litZ _ _ _ _ _ _ rfl (by simp)) (insVs_allD _) (by decide) (by omega) (Nat.le_trans hBw (FrX.fr (S := [p]) (a := w3)).size) ?_); intro ae ce w8 row8 fr8)
            have sx8 : StepX (blk fs[f].a) _ w8 := ⟨fr8⟩
            refine ⟨mkStepX, ?_⟩
            refine rg_read (i := 19) (a1 := _) rfl (by kernel_rfl) rfl (by first | (simp; done) | (simp [Act.put]; done)) (by intro wq hwq; go_wp2; exact ⟨rfl, rfl⟩) mkStepX ?_
            refine rg_read (i := 20) (a1 := _) rfl (by kernel_rfl) rfl (by first | (simp; done) | (simp [Act.put]; done)) (by intro wq hwq; go_wp2; exact ⟨rfl, rfl⟩) mkStepX ?_
            refine rg_eff (i := 21) rfl (by kernel_rfl) ?_
            simp only [List.getElem_toArray, List.getElem_cons_succ, List.getElem_cons_zero]
            go_wp2_with fail
            refine ⟨mkStepX, ?_⟩
            refine rg_done (by kernel_rfl) ?_
            have frS : Fr (p :: blk fs[f].a) w3 w8 := FrX.fr (S := p :: blk fs[f].a) (a := w3)
            have hyl : (fs[f].body ++ [⟨o, 0, 0⟩, q]).length = fs[f].body.length + 2 := by simp
            obtain ⟨y, hy⟩ : ∃ y : FB, y = ⟨fs[f].sig, fs[f].loc, ae, ce, fs[f].body ++ [⟨o, 0, 0⟩, q]⟩ := ⟨_, rfl⟩
            have hyB : BodyO w8 B 70000 y := by
              rw [hy]
              refine ⟨by simp only [hyl, List.flatMap_append]; exact row8, by simp only [hyl]; omega, fun i hi => ?_, hB3.out.sg, hB3.out.lo⟩
              rcases List.mem_append.1 hi with h | h
              · exact hB3.out.in3 i h
              · simp only [List.mem_cons, List.not_mem_nil, or_false] at h
                rcases h with rfl | rfl
                · exact ⟨ho, in64_lit, in64_lit⟩
                · exact hq
            have kY := hD3.out.modK_a (k := f) (y := y) hmq hf2 frS hsS.out hyB (Nat.le_refl _) (by rw [hy]; exact row_other row8 (own3g.out _ frS) (by decide)) (by rw [hy]; exact ⟨rfl, rfl⟩)
            have ey : (.slice y.a y.body.length y.cap : Value) = .slice ae (fs[f].body.length + 2) ce := by rw [hy]; simp only [hyl]
            rw [ey] at kY
            replace kY := hid kY
            clear hyB hy ey hyl
            have bM4 : BoxL w8 w1.heap.size #[.slice (some ⟨gs, 0, none⟩) 3 3, .slice (some ⟨gi, 0, none⟩) 2 2, (.slice (some ⟨g, 0, none⟩) fs.length cf), .int .i64 1, .int .i64 (-1), .slice (some ⟨gg, 0, none⟩) 2 2, (.slice (some ⟨ge, 0, none⟩) 2 2), .slice (some ⟨gd, 0, none⟩) 1 1] := boxOf
            have bR4 : BoxL w8 w.heap.size #[.slice none 0 0, .slice none 0 0, .slice none 0 0, .int .i64 0, .int .i64 0, .slice none 0 0, .slice none 0 0, .slice none 0 0] := boxOf
            have oM4 := bM4.old
            have oR4 := bR4.old
            have neg1 : NeB g w1.heap.size := ⟨ngM⟩
            have neg2 : NeB g w.heap.size := ⟨ngR⟩
            have gtg : Gt p g := ⟨by omega⟩
            have aba : Abv p (blk fs[f].a) := ⟨fun b hb => by have := (hD3.out.inv.lt _ (List.getElem_mem hf2) b hb).1; omega⟩
            have cuY : Cur (w8.setCell ⟨g, f * 3 + 2, none⟩ (.slice ae (fs[f].body.length + 2) ce)) p := inferInstance
            have stY : Fr [p] w (w8.setCell ⟨g, f * 3 + 2, none⟩ (.slice ae (fs[f].body.length + 2) ce)) := (stw.fr.trans frS (fun b hb => by rcases List.mem_cons.1 hb with h | h; exact .inl (by simp [h]); exact .inr (by have := (hD3.out.inv.lt _ (List.getElem_mem hf2) b h).1; omega))).trans (T := [g]) ((Fr.refl [g] _).setCell (.inl (List.mem_singleton_self _)) _) (fun b hb => .inr (by rw [List.mem_singleton.1 hb]; omega))
            go_wp2
            refine bodyPost_ret (v := .agg #[.slice (some ⟨gs, 0, none⟩) 3 3, .slice (some ⟨gi, 0, none⟩) 2 2, (.slice (some ⟨g, 0, none⟩) fs.length cf), .int .i64 1, .int .i64 (-1), .slice (some ⟨gg, 0, none⟩) 2 2, (.slice (some ⟨ge, 0, none⟩) 2 2), .slice (some ⟨gd, 0, none⟩) 1 1]) (by simp [results, Tryd.results10, go_sem]) rfl ?_
            exact ⟨modM (fs.set f y) true 1 expsM dataM, _, rfl, hid ((ModK.fr (S := [w.heap.size]) kY.out (by exact FrX.fr (a := w8.setCell ⟨g, f * 3 + 2, none⟩ (.slice ae (fs[f].body.length + 2) ce))) (by simp)).weak (by omega)), Cur.fr (S := [w.heap.size]) cuY (by exact FrX.fr (a := w8.setCell ⟨g, f * 3 + 2, none⟩ (.slice ae (fs[f].body.length + 2) ce))) (by simp; omega), ⟨Fr.trans (T := [w.heap.size]) stY (by exact FrX.fr (a := w8.setCell ⟨g, f * 3 + 2, none⟩ (.slice ae (fs[f].body.length + 2) ce))) (fun b hb => .inr (Nat.le_of_eq (List.mem_singleton.1 hb).symm))⟩⟩
        · simp only [List.getElem_toArray, List.getElem_cons_succ, List.getElem_cons_zero]
          go_wp2_with fail
          with_reducible refine Calls.mono (sinsC _) ?_
          rintro e w5 ⟨q, hq, rfl, cu5, st5⟩
          go_wp2_with fail
          refine ⟨mkStepX, ?_⟩
          refine rg_eff (i := 9) rfl (by kernel_rfl) ?_
          simp only [List.getElem_toArray, List.getElem_cons_succ, List.getElem_cons_zero]
          go_wp2_with fail
          refine ⟨mkStepX, ?_⟩
          refine rg_read (i := 12) (a1 := _) rfl (by kernel_rfl) rfl (by first | (simp; done) | (simp [Act.put]; done)) (by intro wq hwq; go_wp2; exact ⟨rfl, rfl⟩) mkStepX ?_
          refine rg_eff (i := 13) rfl (by kernel_rfl) ?_
          simp only [List.getElem_toArray, List.getElem_cons_succ, List.getElem_cons_zero]
          obtain ⟨o, ho, hlo⟩ := lit_ex x (by omega)
          go_wp2_with fail
          refine ⟨mkStepX, ?_⟩
          refine rg_read (i := 14) (a1 := _) rfl (by kernel_rfl) rfl (by first | (simp; done) | (simp [Act.put]; done)) (by intro wq hwq; go_wp2; exact ⟨rfl, rfl⟩) mkStepX ?_
          refine rg_eff (i := 17) rfl (by kernel_rfl) ?_
          simp only [List.getElem_toArray, List.getElem_cons_succ, List.getElem_cons_zero]
          go_wp2_with fail
          refine ⟨mkStepX, ?_⟩
          refine rg_eff (i := 18) rfl (by kernel_rfl) ?_
          simp only [List.getElem_toArray, List.getElem_cons_succ, List.getElem_cons_zero]
          go_wp2_with (at_builtin; go_must (refine app_o _ rfl (.tmp 93) (.tmp 102) 37 rfl 50 (.agg #[.int .i64 0, .int .i64 0, .int .i64 0]) 3 24 Tryd.inss_tab B fs[f].a fs[f].body.length fs[f].cap (fs[f].body.flatMap insVs) rfl (rowW.out _ inferInstance) _ 2 2 (([⟨o, 0, 0⟩, q] : List InsD).flatMap insVs) rfl (view_litZ _ _ _ _ _ _ rfl (by simp)) (insVs_allD _) (by decide) (by omega) (Nat.le_trans hBw (FrX.fr (S := [p]) (a := w3)).size) ?_); intro ae ce w8 row8 fr8)
          have sx8 : StepX (blk fs[f].a) _ w8 := ⟨fr8⟩
          refine ⟨mkStepX, ?_⟩
          refine rg_read (i := 19) (a1 := _) rfl (by kernel_rfl) rfl (by first | (simp; done) | (simp [Act.put]; done)) (by intro wq hwq; go_wp2; exact ⟨rfl, rfl⟩) mkStepX ?_
          refine rg_read (i := 20) (a1 := _) rfl (by kernel_rfl) rfl (by first | (simp; done) | (simp [Act.put]; done)) (by intro wq hwq; go_wp2; exact ⟨rfl, rfl⟩) mkStepX ?_
          refine rg_eff (i := 21) rfl (by kernel_rfl) ?_
          simp only [List.getElem_toArray, List.getElem_cons_succ, List.getElem_cons_zero]
          go_wp2_with fail
          refine ⟨mkStepX, ?_⟩
          refine rg_done (by kernel_rfl) ?_
          have frS : Fr (p :: blk fs[f].a) w3 w8 := FrX.fr (S := p :: blk fs[f].a) (a := w3)
          have hyl : (fs[f].body ++ [⟨o, 0, 0⟩, q]).length = fs[f].body.length + 2 := by simp
          obtain ⟨y, hy⟩ : ∃ y : FB, y = ⟨fs[f].sig, fs[f].loc, ae, ce, fs[f].body ++ [⟨o, 0, 0⟩, q]⟩ := ⟨_, rfl⟩
          have hyB : BodyO w8 B 70000 y := by
            rw [hy]
            refine ⟨by simp only [hyl, List.flatMap_append]; exact row8, by simp only [hyl]; omega, fun i hi => ?_, hB3.out.sg, hB3.out.lo⟩
            rcases List.mem_append.1 hi with h | h
            · exact hB3.out.in3 i h
            · simp only [List.mem_cons, List.not_mem_nil, or_false] at h
              rcases h with rfl | rfl
              · exact ⟨ho, in64_lit, in64_lit⟩
              · exact hq
          have kY := hD3.out.modK_a (k := f) (y := y) hmq hf2 frS hsS.out hyB (Nat.le_refl _) (by rw [hy]; exact row_other row8 (own3g.out _ frS) (by decide)) (by rw [hy]; exact ⟨rfl, rfl⟩)
          have ey : (.slice y.a y.body.length y.cap : Value) = .slice ae (fs[f].body.length + 2) ce := by rw [hy]; simp only [hyl]
          rw [ey] at kY
          replace kY := hid kY
          clear hyB hy ey hyl
          have bM4 : BoxL w8 w1.heap.size #[.slice (some ⟨gs, 0, none⟩) 3 3, .slice (some ⟨gi, 0, none⟩) 2 2, (.slice (some ⟨g, 0, none⟩) fs.length cf), .int .i64 1, .int .i64 (-1), .slice (some ⟨gg, 0, none⟩) 2 2, (.slice (some ⟨ge, 0, none⟩) 2 2), .slice (some ⟨gd, 0, none⟩) 1 1] := boxOf
          have bR4 : BoxL w8 w.heap.size #[.slice none 0 0, .slice none 0 0, .slice none 0 0, .int .i64 0, .int .i64 0, .slice none 0 0, .slice none 0 0, .slice none 0 0] := boxOf
          have oM4 := bM4.old
          have oR4 := bR4.old
          have neg1 : NeB g w1.heap.size := ⟨ngM⟩
          have neg2 : NeB g w.heap.size := ⟨ngR⟩
          have gtg : Gt p g := ⟨by omega⟩
          have aba : Abv p (blk fs[f].a) := ⟨fun b hb => by have := (hD3.out.inv.lt _ (List.getElem_mem hf2) b hb).1; omega⟩
          have cuY : Cur (w8.setCell ⟨g, f * 3 + 2, none⟩ (.slice ae (fs[f].body.length + 2) ce)) p := inferInstance
          have stY : Fr [p] w (w8.setCell ⟨g, f * 3 + 2, none⟩ (.slice ae (fs[f].body.length + 2) ce)) := (stw.fr.trans frS (fun b hb => by rcases List.mem_cons.1 hb with h | h; exact .inl (by simp [h]); exact .inr (by have := (hD3.out.inv.lt _ (List.getElem_mem hf2) b h).1; omega))).trans (T := [g]) ((Fr.refl [g] _).setCell (.inl (List.mem_singleton_self _)) _) (fun b hb => .inr (by rw [List.mem_singleton.1 hb]; omega))
          go_wp2
          refine bodyPost_ret (v := .agg #[.slice (some ⟨gs, 0, none⟩) 3 3, .slice (some ⟨gi, 0, none⟩) 2 2, (.slice (some ⟨g, 0, none⟩) fs.length cf), .int .i64 1, .int .i64 (-1), .slice (some ⟨gg, 0, none⟩) 2 2, (.slice (some ⟨ge, 0, none⟩) 2 2), .slice (some ⟨gd, 0, none⟩) 1 1]) (by simp [results, Tryd.results10, go_sem]) rfl ?_
          exact ⟨modM (fs.set f y) true 1 expsM dataM, _, rfl, hid ((ModK.fr (S := [w.heap.size]) kY.out (by exact FrX.fr (a := w8.setCell ⟨g, f * 3 + 2, none⟩ (.slice ae (fs[f].body.length + 2) ce))) (by simp)).weak (by omega)), Cur.fr (S := [w.heap.size]) cuY (by exact FrX.fr (a := w8.setCell ⟨g, f * 3 + 2, none⟩ (.slice ae (fs[f].body.length + 2) ce))) (by simp; omega), ⟨Fr.trans (T := [w.heap.size]) stY (by exact FrX.fr (a := w8.setCell ⟨g, f * 3 + 2, none⟩ (.slice ae (fs[f].body.length + 2) ce))) (fun b hb => .inr (Nat.le_of_eq (List.mem_singleton.1 hb).symm))⟩⟩
    · simp only [List.getElem_toArray, List.getElem_cons_succ, List.getElem_cons_zero]
      go_wp2_with fail
      refine ⟨mkStepX, ?_⟩
      refine rg_two (i := 8) (j := 11) rfl rfl (by kernel_rfl) ?_ ?_
      · simp only [List.getElem_toArray, List.getElem_cons_succ, List.getElem_cons_zero]
        go_wp2_with fail
        refine ⟨mkStepX, ?_⟩
        refine rg_eff (i := 11) rfl (by kernel_rfl) ?_
        simp only [List.getElem_toArray, List.getElem_cons_succ, List.getElem_cons_zero]
        go_wp2_with fail
        with_reducible refine Calls.mono (sbelowC _ _ (by omega)) ?_
        rintro e w4 ⟨x, hx, rfl, cu4, st4⟩
        go_wp2_with fail
        refine ⟨mkStepX, ?_⟩
        refine rg_read (i := 12) (a1 := _) rfl (by kernel_rfl) rfl (by first | (simp; done) | (simp [Act.put]; done)) (by intro wq hwq; go_wp2; exact ⟨rfl, rfl⟩) mkStepX ?_
        refine rg_two (i := 13) (j := 16) rfl rfl (by kernel_rfl) ?_ ?_
        · simp only [List.getElem_toArray, List.getElem_cons_succ, List.getElem_cons_zero]
          obtain ⟨o, ho, hlo⟩ := lit_ex x (by omega)
          go_wp2_with fail
          refine ⟨mkStepX, ?_⟩
          refine rg_read (i := 14) (a1 := _) rfl (by kernel_rfl) rfl (by first | (simp; done) | (simp [Act.put]; done)) (by intro wq hwq; go_wp2; exact ⟨rfl, rfl⟩) mkStepX ?_
          refine rg_eff (i := 16) rfl (by kernel_rfl) ?_
          simp only [List.getElem_toArray, List.getElem_cons_succ, List.getElem_cons_zero]
          go_wp2_with fail
          with_reducible refine Calls.mono (sinsC _) ?_
          rintro e w5 ⟨q, hq, rfl, cu5, st5⟩
          go_wp2_with fail
          refine ⟨mkStepX, ?_⟩
          refine rg_eff (i := 17) rfl (by kernel_rfl) ?_
          simp only [List.getElem_toArray, List.getElem_cons_succ, List.getElem_cons_zero]
          go_wp2_with fail
          refine ⟨mkStepX, ?_⟩
          refine rg_eff (i := 18) rfl (by kernel_rfl) ?_
          simp only [List.getElem_toArray, List.getElem_cons_succ, List.getElem_cons_zero]
          go_wp2_with (at_builtin; go_must (refine app_o _ rfl (.tmp 93) (.tmp 102) 37 rfl 50 (.agg #[.int .i64 0, .int .i64 0, .int .i64 0]) 3 24 Tryd.inss_tab B fs[f].a fs[f].body.length fs[f].cap (fs[f].body.flatMap insVs) rfl (rowW.out _ inferInstance) _ 2 2 (([⟨o, 0, 0⟩, q] : List InsD).flatMap insVs) rfl (view_litZ _ _ _ _ _ _ rfl (by simp)) (insVs_allD _) (by decide) (by omega) (Nat.le_trans hBw (FrX.fr (S := [p]) (a := w3)).size) ?_); intro ae ce w8 row8 fr8)
          have sx8 : StepX (blk fs[f].a) _ w8 := ⟨fr8⟩
          refine ⟨mkStepX, ?_⟩
          refine rg_read (i := 19) (a1 := _) rfl (by kernel_rfl) rfl (by first | (simp; done) | (simp [Act.put]; done)) (by intro wq hwq; go_wp2; exact ⟨rfl, rfl⟩) mkStepX ?_
          refine rg_read (i := 20) (a1 := _) rfl (by kernel_rfl) rfl (by first | (simp; done) | (simp [Act.put]; done)) (by intro wq hwq; go_wp2; exact ⟨rfl, rfl⟩) mkStepX ?_
          refine rg_eff (i := 21) rfl (by kernel_rfl) ?_
          simp only [List.getElem_toArray, List.getElem_cons_succ, List.getElem_cons_zero]
          go_wp2_with fail
          refine ⟨mkStepX, ?_⟩
          refine rg_done (by kernel_rfl) ?_
          have frS : Fr (p :: blk fs[f].a) w3 w8 := FrX.fr (S := p :: blk fs[f].a) (a := w3)
          have hyl : (fs[f].body ++ [⟨o, 0, 0⟩, q]).length = fs[f].body.length + 2 := by simp
          obtain ⟨y, hy⟩ : ∃ y : FB, y = ⟨fs[f].sig, fs[f].loc, ae, ce, fs[f].body ++ [⟨o, 0, 0⟩, q]⟩ := ⟨_, rfl⟩
          have hyB : BodyO w8 B 70000 y := by
            rw [hy]
            refine ⟨by simp only [hyl, List.flatMap_append]; exact row8, by simp only [hyl]; omega, fun i hi => ?_, hB3.out.sg, hB3.out.lo⟩
            rcases List.mem_append.1 hi with h | h
            · exact hB3.out.in3 i h
            · simp only [List.mem_cons, List.not_mem_nil, or_false] at h
              rcases h with rfl | rfl
              · exact ⟨ho, in64_lit, in64_lit⟩
              · exact hq
          have kY := hD3.out.modK_a (k := f) (y := y) hmq hf2 frS hsS.out hyB (Nat.le_refl _) (by rw [hy]; exact row_other row8 (own3g.out _ frS) (by decide)) (by rw [hy]; exact ⟨rfl, rfl⟩)
          have ey : (.slice y.a y.body.length y.cap : Value) = .slice ae (fs[f].body.length + 2) ce := by rw [hy]; simp only [hyl]
          rw [ey] at kY
          replace kY := hid kY
          clear hyB hy ey hyl
          have bM4 : BoxL w8 w1.heap.size #[.slice (some ⟨gs, 0, none⟩) 3 3, .slice (some ⟨gi, 0, none⟩) 2 2, (.slice (some ⟨g, 0, none⟩) fs.length cf), .int .i64 1, .int .i64 (-1), .slice (some ⟨gg, 0, none⟩) 2 2, (.slice (some ⟨ge, 0, none⟩) 2 2), .slice (some ⟨gd, 0, none⟩) 1 1] := boxOf
          have bR4 : BoxL w8 w.heap.size #[.slice none 0 0, .slice none 0 0, .slice none 0 0, .int .i64 0, .int .i64 0, .slice none 0 0, .slice none 0 0, .slice none 0 0] := boxOf
          have oM4 := bM4.old
          have oR4 := bR4.old
          have neg1 : NeB g w1.heap.size := ⟨ngM⟩
          have neg2 : NeB g w.heap.size := ⟨ngR⟩
          have gtg : Gt p g := ⟨by omega⟩
          have aba : Abv p (blk fs[f].a) := ⟨fun b hb => by have := (hD3.out.inv.lt _ (List.getElem_mem hf2) b hb).1; omega⟩
          have cuY : Cur (w8.setCell ⟨g, f * 3 + 2, none⟩ (.slice ae (fs[f].body.length + 2) ce)) p := inferInstance
          have stY : Fr [p] w (w8.setCell ⟨g, f * 3 + 2, none⟩ (.slice ae (fs[f].body.length + 2) ce)) := (stw.fr.trans frS (fun b hb => by rcases List.mem_cons.1 hb with h | h; exact .inl (by simp [h]); exact .inr (by have := (hD3.out.inv.lt _ (List.getElem_mem hf2) b h).1; omega))).trans (T := [g]) ((Fr.refl [g] _).setCell (.inl (List.mem_singleton_self _)) _) (fun b hb => .inr (by rw [List.mem_singleton.1 hb]; omega))
          go_wp2
          refine bodyPost_ret (v := .agg #[.slice (some ⟨gs, 0, none⟩) 3 3, .slice (some ⟨gi, 0, none⟩) 2 2, (.slice (some ⟨g, 0, none⟩) fs.length cf), .int .i64 1, .int .i64 (-1), .slice (some ⟨gg, 0, none⟩) 2 2, (.slice (some ⟨ge, 0, none⟩) 2 2), .slice (some ⟨gd, 0, none⟩) 1 1]) (by simp [results, Tryd.results10, go_sem]) rfl ?_
          exact ⟨modM (fs.set f y) true 1 expsM dataM, _, rfl, hid ((ModK.fr (S := [w.heap.size]) kY.out (by exact FrX.fr (a := w8.setCell ⟨g, f * 3 + 2, none⟩ (.slice ae (fs[f].body.length + 2) ce))) (by simp)).weak (by omega)), Cur.fr (S := [w.heap.size]) cuY (by exact FrX.fr (a := w8.setCell ⟨g, f * 3 + 2, none⟩ (.slice ae (fs[f].body.length + 2) ce))) (by simp; omega), ⟨Fr.trans (T := [w.heap.size]) stY (by exact FrX.fr (a := w8.setCell ⟨g, f * 3 + 2, none⟩ (.slice ae (fs[f].body.length + 2) ce))) (fun b hb => .inr (Nat.le_of_eq (List.mem_singleton.1 hb).symm))⟩⟩
        · simp only [List.getElem_toArray, List.getElem_cons_succ, List.getElem_cons_zero]
          go_wp2_with fail
          with_reducible refine Calls.mono (sinsC _) ?_
          rintro e w5 ⟨q, hq, rfl, cu5, st5⟩
          go_wp2_with fail
          refine ⟨mkStepX, ?_⟩
          refine rg_eff (i := 13) rfl (by kernel_rfl) ?_
          simp only [List.getElem_toArray, List.getElem_cons_succ, List.getElem_cons_zero]
          obtain ⟨o, ho, hlo⟩ := lit_ex x (by omega)
          go_wp2_with fail
          refine ⟨mkStepX, ?_⟩
          refine rg_read (i := 14) (a1 := _) rfl (by kernel_rfl) rfl (by first | (simp; done) | (simp [Act.put]; done)) (by intro wq hwq; go_wp2; exact ⟨rfl, rfl⟩) mkStepX ?_
          refine rg_eff (i := 17) rfl (by kernel_rfl) ?_
          simp only [List.getElem_toArray, List.getElem_cons_succ, List.getElem_cons_zero]
          go_wp2_with fail
          refine ⟨mkStepX, ?_⟩
          refine rg_eff (i := 18) rfl (by kernel_rfl) ?_
          simp only [List.getElem_toArray, List.getElem_cons_succ, List.getElem_cons_zero]
          go_wp2_with (at_builtin; go_must (refine app_o _ rfl (.tmp 93) (.tmp 102) 37 rfl 50 (.agg #[.int .i64 0, .int .i64 0, .int .i64 0]) 3 24 Tryd.inss_tab B fs[f].a fs[f].body.length fs[f].cap (fs[f].body.flatMap insVs) rfl (rowW.out _ inferInstance) _ 2 2 (([⟨o, 0, 0⟩, q] : List InsD).flatMap insVs) rfl (view_litZ _ _ _ _ _ _ rfl (by simp)) (insVs_allD _) (by decide) (by omega) (Nat.le_trans hBw (FrX.fr (S := [p]) (a := w3)).size) ?_); intro ae ce w8 row8 fr8)
          have sx8 : StepX (blk fs[f].a) _ w8 := ⟨fr8⟩
          refine ⟨mkStepX, ?_⟩
          refine rg_read (i := 19) (a1 := _) rfl (by kernel_rfl) rfl (by first | (simp; done) | (simp [Act.put]; done)) (by intro wq hwq; go_wp2; exact ⟨rfl, rfl⟩) mkStepX ?_
          refine rg_read (i := 20) (a1 := _) rfl (by kernel_rfl) rfl (by first | (simp; done) | (simp [Act.put]; done)) (by intro wq hwq; go_wp2; exact ⟨rfl, rfl⟩) mkStepX ?_
          refine rg_eff (i := 21) rfl (by kernel_rfl) ?_
          simp only [List.getElem_toArray, List.getElem_cons_succ, List.getElem_cons_zero]
          go_wp2_with fail
          refine ⟨mkStepX, ?_⟩
          refine rg_done (by kernel_rfl) ?_
          have frS : Fr (p :: blk fs[f].a) w3 w8 := FrX.fr (S := p :: blk fs[f].a) (a := w3)
          have hyl : (fs[f].body ++ [⟨o, 0, 0⟩, q]).length = fs[f].body.length + 2 := by simp
          obtain ⟨y, hy⟩ : ∃ y : FB, y = ⟨fs[f].sig, fs[f].loc, ae, ce, fs[f].body ++ [⟨o, 0, 0⟩, q]⟩ := ⟨_, rfl⟩
          have hyB : BodyO w8 B 70000 y := by
            rw [hy]
            refine ⟨by simp only [hyl, List.flatMap_append]; exact row8, by simp only [hyl]; omega, fun i hi => ?_, hB3.out.sg, hB3.out.lo⟩
            rcases List.mem_append.1 hi with h | h
            · exact hB3.out.in3 i h
            · simp only [List.mem_cons, List.not_mem_nil, or_false] at h
              rcases h with rfl | rfl
              · exact ⟨ho, in64_lit, in64_lit⟩
              · exact hq
          have kY := hD3.out.modK_a (k := f) (y := y) hmq hf2 frS hsS.out hyB (Nat.le_refl _) (by rw [hy]; exact row_other row8 (own3g.out _ frS) (by decide)) (by rw [hy]; exact ⟨rfl, rfl⟩)
          have ey : (.slice y.a y.body.length y.cap : Value) = .slice ae (fs[f].body.length + 2) ce := by rw [hy]; simp only [hyl]
          rw [ey] at kY
          replace kY := hid kY
          clear hyB hy ey hyl
          have bM4 : BoxL w8 w1.heap.size #[.slice (some ⟨gs, 0, none⟩) 3 3, .slice (some ⟨gi, 0, none⟩) 2 2, (.slice (some ⟨g, 0, none⟩) fs.length cf), .int .i64 1, .int .i64 (-1), .slice (some ⟨gg, 0, none⟩) 2 2, (.slice (some ⟨ge, 0, none⟩) 2 2), .slice (some ⟨gd, 0, none⟩) 1 1] := boxOf
          have bR4 : BoxL w8 w.heap.size #[.slice none 0 0, .slice none 0 0, .slice none 0 0, .int .i64 0, .int .i64 0, .slice none 0 0, .slice none 0 0, .slice none 0 0] := boxOf
          have oM4 := bM4.old
          have oR4 := bR4.old
          have neg1 : NeB g w1.heap.size := ⟨ngM⟩
          have neg2 : NeB g w.heap.size := ⟨ngR⟩
          have gtg : Gt p g := ⟨by omega⟩
          have aba : Abv p (blk fs[f].a) := ⟨fun b hb => by have := (hD3.out.inv.lt _ (List.getElem_mem hf2) b hb).1; omega⟩
          have cuY : Cur (w8.setCell ⟨g, f * 3 + 2, none⟩ (.slice ae (fs[f].body.length + 2) ce)) p := inferInstance
          have stY : Fr [p] w (w8.setCell ⟨g, f * 3 + 2, none⟩ (.slice ae (fs[f].body.length + 2) ce)) := (stw.fr.trans frS (fun b hb => by rcases List.mem_cons.1 hb with h | h; exact .inl (by simp [h]); exact .inr (by have := (hD3.out.inv.lt _ (List.getElem_mem hf2) b h).1; omega))).trans (T := [g]) ((Fr.refl [g] _).setCell (.inl (List.mem_singleton_self _)) _) (fun b hb => .inr (by rw [List.mem_singleton.1 hb]; omega))
          go_wp2
          refine bodyPost_ret (v := .agg #[.slice (some ⟨gs, 0, none⟩) 3 3, .slice (some ⟨gi, 0, none⟩) 2 2, (.slice (some ⟨g, 0, none⟩) fs.length cf), .int .i64 1, .int .i64 (-1), .slice (some ⟨gg, 0, none⟩) 2 2, (.slice (some ⟨ge, 0, none⟩) 2 2), .slice (some ⟨gd, 0, none⟩) 1 1]) (by simp [results, Tryd.results10, go_sem]) rfl ?_
          exact ⟨modM (fs.set f y) true 1 expsM dataM, _, rfl, hid ((ModK.fr (S := [w.heap.size]) kY.out (by exact FrX.fr (a := w8.setCell ⟨g, f * 3 + 2, none⟩ (.slice ae (fs[f].body.length + 2) ce))) (by simp)).weak (by omega)), Cur.fr (S := [w.heap.size]) cuY (by exact FrX.fr (a := w8.setCell ⟨g, f * 3 + 2, none⟩ (.slice ae (fs[f].body.length + 2) ce))) (by simp; omega), ⟨Fr.trans (T := [w.heap.size]) stY (by exact FrX.fr (a := w8.setCell ⟨g, f * 3 + 2, none⟩ (.slice ae (fs[f].body.length + 2) ce))) (fun b hb => .inr (Nat.le_of_eq (List.mem_singleton.1 hb).symm))⟩⟩
      · simp only [List.getElem_toArray, List.getElem_cons_succ, List.getElem_cons_zero]
        go_wp2_with fail
        with_reducible refine Calls.mono (sbelowC _ _ (by omega)) ?_
        rintro e w4 ⟨x, hx, rfl, cu4, st4⟩
        go_wp2_with fail
        refine ⟨mkStepX, ?_⟩
        refine rg_read (i := 12) (a1 := _) rfl (by kernel_rfl) rfl (by first | (simp; done) | (simp [Act.put]; done)) (by intro wq hwq; go_wp2; exact ⟨rfl, rfl⟩) mkStepX ?_
        refine rg_three (i := 8) (j := 13) (k := 16) rfl rfl rfl (by kernel_rfl) ?_ ?_ ?_
        · simp only [List.getElem_toArray, List.getElem_cons_succ, List.getElem_cons_zero]
          go_wp2_with fail
          refine ⟨mkStepX, ?_⟩
          refine rg_two (i := 13) (j := 16) rfl rfl (by kernel_rfl) ?_ ?_
          · simp only [List.getElem_toArray, List.getElem_cons_succ, List.getElem_cons_zero]
            obtain ⟨o, ho, hlo⟩ := lit_ex x (by omega)
            go_wp2_with fail
            refine ⟨mkStepX, ?_⟩
            refine rg_read (i := 14) (a1 := _) rfl (by kernel_rfl) rfl (by first | (simp; done) | (simp [Act.put]; done)) (by intro wq hwq; go_wp2; exact ⟨rfl, rfl⟩) mkStepX ?_
            refine rg_eff (i := 16) rfl (by kernel_rfl) ?_
            simp only [List.getElem_toArray, List.getElem_cons_succ, List.getElem_cons_zero]
            go_wp2_with fail
            with_reducible refine Calls.mono (sinsC _) ?_
            rintro e w5 ⟨q, hq, rfl, cu5, st5⟩
            go_wp2_with fail
            refine ⟨mkStepX, ?_⟩
            refine rg_eff (i := 17) rfl (by kernel_rfl) ?_
            simp only [List.getElem_toArray, List.getElem_cons_succ, List.getElem_cons_zero]
            go_wp2_with fail
            refine ⟨mkStepX, ?_⟩
            refine rg_eff (i := 18) rfl (by kernel_rfl) ?_
            simp only [List.getElem_toArray, List.getElem_cons_succ, List.getElem_cons_zero]
            go_wp2_with (at_builtin; go_must (refine app_o _ rfl (.tmp 93) (.tmp 102) 37 rfl 50 (.agg #[.int .i64 0, .int .i64 0, .int .i64 0]) 3 24 Tryd.inss_tab B fs[f].a fs[f].body.length fs[f].cap (fs[f].body.flatMap insVs) rfl (rowW.out _ inferInstance) _ 2 2 (([⟨o, 0, 0⟩, q] : List InsD).flatMap insVs) rfl (view_litZ _ _ _ _ _ _ rfl (by simp)) (insVs_allD _) (by decide) (by omega) (Nat.le_trans hBw (FrX.fr (S := [p]) (a := w3)).size) ?_); intro ae ce w8 row8 fr8)
            have sx8 : StepX (blk fs[f].a) _ w8 := ⟨fr8⟩
            refine ⟨mkStepX, ?_⟩
            refine rg_read (i := 19) (a1 := _) rfl (by kernel_rfl) rfl (by first | (simp; done) | (simp [Act.put]; done)) (by intro wq hwq; go_wp2; exact ⟨rfl, rfl⟩) mkStepX ?_
            refine rg_read (i := 20) (a1 := _) rfl (by kernel_rfl) rfl (by first | (simp; done) | (simp [Act.put]; done)) (by intro wq hwq; go_wp2; exact ⟨rfl, rfl⟩) mkStepX ?_
            refine rg_eff (i := 21) rfl (by kernel_rfl) ?_
            simp only [List.getElem_toArray, List.getElem_cons_succ, List.getElem_cons_zero]
            go_wp2_with fail
            refine ⟨mkStepX, ?_⟩
            refine rg_done (by kernel_rfl) ?_
            have frS : Fr (p :: blk fs[f].a) w3 w8 := FrX.fr (S := p :: blk fs[f].a) (a := w3)
            have hyl : (fs[f].body ++ [⟨o, 0, 0⟩, q]).length = fs[f].body.length + 2 := by simp
            obtain ⟨y, hy⟩ : ∃ y : FB, y = ⟨fs[f].sig, fs[f].loc, ae, ce, fs[f].body ++ [⟨o, 0, 0⟩, q]⟩ := ⟨_, rfl⟩
            have hyB : BodyO w8 B 70000 y := by
              rw [hy]
              refine ⟨by simp only [hyl, List.flatMap_append]; exact row8, by simp only [hyl]; omega, fun i hi => ?_, hB3.out.sg, hB3.out.lo⟩
              rcases List.mem_append.1 hi with h | h
              · exact hB3.out.in3 i h
              · simp only [List.mem_cons, List.not_mem_nil, or_false] at h
                rcases h with rfl | rfl
                · exact ⟨ho, in64_lit, in64_lit⟩
                · exact hq
            have kY := hD3.out.modK_a (k := f) (y := y) hmq hf2 frS hsS.out hyB (Nat.le_refl _) (by rw [hy]; exact row_other row8 (own3g.out _ frS) (by decide)) (by rw [hy]; exact ⟨rfl, rfl⟩)
            have ey : (.slice y.a y.body.length y.cap : Value) = .slice ae (fs[f].body.length + 2) ce := by rw [hy]; simp only [hyl]
            rw [ey] at kY
            replace kY := hid kY
            clear hyB hy ey hyl
            have bM4 : BoxL w8 w1.heap.size #[.slice (some ⟨gs, 0, none⟩) 3 3, .slice (some ⟨gi, 0, none⟩) 2 2, (.slice (some ⟨g, 0, none⟩) fs.length cf), .int .i64 1, .int .i64 (-1), .slice (some ⟨gg, 0, none⟩) 2 2, (.slice (some ⟨ge, 0, none⟩) 2 2), .slice (some ⟨gd, 0, none⟩) 1 1] := boxOf
            have bR4 : BoxL w8 w.heap.size #[.slice none 0 0, .slice none 0 0, .slice none 0 0, .int .i64 0, .int .i64 0, .slice none 0 0, .slice none 0 0, .slice none 0 0] := boxOf
            have oM4 := bM4.old
            have oR4 := bR4.old
            have neg1 : NeB g w1.heap.size := ⟨ngM⟩
            have neg2 : NeB g w.heap.size := ⟨ngR⟩
            have gtg : Gt p g := ⟨by omega⟩
            have aba : Abv p (blk fs[f].a) := ⟨fun b hb => by have := (hD3.out.inv.lt _ (List.getElem_mem hf2) b hb).1; omega⟩
            have cuY : Cur (w8.setCell ⟨g, f * 3 + 2, none⟩ (.slice ae (fs[f].body.length + 2) ce)) p := inferInstance
            have stY : Fr [p] w (w8.setCell ⟨g, f * 3 + 2, none⟩ (.slice ae (fs[f].body.length + 2) ce)) := (stw.fr.trans frS (fun b hb => by rcases List.mem_cons.1 hb with h | h; exact .inl (by simp [h]); exact .inr (by have := (hD3.out.inv.lt _ (List.getElem_mem hf2) b h).1; omega))).trans (T := [g]) ((Fr.refl [g] _).setCell (.inl (List.mem_singleton_self _)) _) (fun b hb => .inr (by rw [List.mem_singleton.1 hb]; omega))
            go_wp2
            refine bodyPost_ret (v := .agg #[.slice (some ⟨gs, 0, none⟩) 3 3, .slice (some ⟨gi, 0, none⟩) 2 2, (.slice (some ⟨g, 0, none⟩) fs.length cf), .int .i64 1, .int .i64 (-1), .slice (some ⟨gg, 0, none⟩) 2 2, (.slice (some ⟨ge, 0, none⟩) 2 2), .slice (some ⟨gd, 0, none⟩) 1 1]) (by simp [results, Tryd.results10, go_sem]) rfl ?_
            exact ⟨modM (fs.set f y) true 1 expsM dataM, _, rfl, hid ((ModK.fr (S := [w.heap.size]) kY.out (by exact FrX.fr (a := w8.setCell ⟨g, f * 3 + 2, none⟩ (.slice ae (fs[f].body.length + 2) ce))) (by simp)).weak (by omega)), Cur.fr (S := [w.heap.size]) cuY (by exact FrX.fr (a := w8.setCell ⟨g, f * 3 + 2, none⟩ (.slice ae (fs[f].body.length + 2) ce))) (by simp; omega), ⟨Fr.trans (T := [w.heap.size]) stY (by exact FrX.fr (a := w8.setCell ⟨g, f * 3 + 2, none⟩ (.slice ae (fs[f].body.length + 2) ce))) (fun b hb => .inr (Nat.le_of_eq (List.mem_singleton.1 hb).symm))⟩⟩
          · simp only [List.getElem_toArray, List.getElem_cons_succ, List.getElem_cons_zero]
            go_wp2_with fail
            with_reducible refine Calls.mono (sinsC _) ?_
            rintro e w5 ⟨q, hq, rfl, cu5, st5⟩
            go_wp2_with fail
            refine ⟨mkStepX, ?_⟩
            refine rg_eff (i := 13) rfl (by kernel_rfl) ?_
            simp only [List.getElem_toArray, List.getElem_cons_succ, List.getElem_cons_zero]
            obtain ⟨o, ho, hlo⟩ := lit_ex x (by omega)
            go_wp2_with fail
            refine ⟨mkStepX, ?_⟩
            refine rg_read (i := 14) (a1 := _) rfl (by kernel_rfl) rfl (by first | (simp; done) | (simp [Act.put]; done)) (by intro wq hwq; go_wp2; exact ⟨rfl, rfl⟩) mkStepX ?_
            refine rg_eff (i := 17) rfl (by kernel_rfl) ?_
            simp only [List.getElem_toArray, List.getElem_cons_succ, List.getElem_cons_zero]
            go_wp2_with fail
            refine ⟨mkStepX, ?_⟩
            refine rg_eff (i := 18) rfl (by kernel_rfl) ?_
            simp only [List.getElem_toArray, List.getElem_cons_succ, List.getElem_cons_zero]
            go_wp2_with (at_builtin; go_must (refine app_o _ rfl (.tmp 93) (.tmp 102) 37 rfl 50 (.agg #[.int .i64 0, .int .i64 0, .int .i64 0]) 3 24 Tryd.inss_tab B fs[f].a fs[f].body.length fs[f].cap (fs[f].body.flatMap insVs) rfl (rowW.out _ inferInstance) _ 2 2 (([⟨o, 0, 0⟩, q] : List InsD).flatMap insVs) rfl (view_litZ _ _ _ _ _ _ rfl (by simp)) (insVs_allD _) (by decide) (by omega) (Nat.le_trans hBw (FrX.fr (S := [p]) (a := w3)).size) ?_); intro ae ce w8 row8 fr8)
            have sx8 : StepX (blk fs[f].a) _ w8 := ⟨fr8⟩
            refine ⟨mkStepX, ?_⟩
            refine rg_read (i := 19) (a1 := _) rfl (by kernel_rfl) rfl (by first | (simp; done) | (simp [Act.put]; done)) (by intro wq hwq; go_wp2; exact ⟨rfl, rfl⟩) mkStepX ?_
            refine rg_read (i := 20) (a1 := _) rfl (by kernel_rfl) rfl (by first | (simp; done) | (simp [Act.put]; done)) (by intro wq hwq; go_wp2; exact ⟨rfl, rfl⟩) mkStepX ?_
            refine rg_eff (i := 21) rfl (by kernel_rfl) ?_
            simp only [List.getElem_toArray, List.getElem_cons_succ, List.getElem_cons_zero]
            go_wp2_with fail
            refine ⟨mkStepX, ?_⟩
            refine rg_done (by kernel_rfl) ?_
            have frS : Fr (p :: blk fs[f].a) w3 w8 := FrX.fr (S := p :: blk fs[f].a) (a := w3)
            have hyl : (fs[f].body ++ [⟨o, 0, 0⟩, q]).length = fs[f].body.length + 2 := by simp
            obtain ⟨y, hy⟩ : ∃ y : FB, y = ⟨fs[f].sig, fs[f].loc, ae, ce, fs[f].body ++ [⟨o, 0, 0⟩, q]⟩ := ⟨_, rfl⟩
            have hyB : BodyO w8 B 70000 y := by
              rw [hy]
              refine ⟨by simp only [hyl, List.flatMap_append]; exact row8, by simp only [hyl]; omega, fun i hi => ?_, hB3.out.sg, hB3.out.lo⟩
              rcases List.mem_append.1 hi with h | h
              · exact hB3.out.in3 i h
              · simp only [List.mem_cons, List.not_mem_nil, or_false] at h
                rcases h with rfl | rfl
                · exact ⟨ho, in64_lit, in64_lit⟩
                · exact hq
            have kY := hD3.out.modK_a (k := f) (y := y) hmq hf2 frS hsS.out hyB (Nat.le_refl _) (by rw [hy]; exact row_other row8 (own3g.out _ frS) (by decide)) (by rw [hy]; exact ⟨rfl, rfl⟩)
            have ey : (.slice y.a y.body.length y.cap : Value) = .slice ae (fs[f].body.length + 2) ce := by rw [hy]; simp only [hyl]
            rw [ey] at kY
            replace kY := hid kY
            clear hyB hy ey hyl
            have bM4 : BoxL w8 w1.heap.size #[.slice (some ⟨gs, 0, none⟩) 3 3, .slice (some ⟨gi, 0, none⟩) 2 2, (.slice (some ⟨g, 0, none⟩) fs.length cf), .int .i64 1, .int .i64 (-1), .slice (some ⟨gg, 0, none⟩) 2 2, (.slice (some ⟨ge, 0, none⟩) 2 2), .slice (some ⟨gd, 0, none⟩) 1 1] := boxOf
            have bR4 : BoxL w8 w.heap.size #[.slice none 0 0, .slice none 0 0, .slice none 0 0, .int .i64 0, .int .i64 0, .slice none 0 0, .slice none 0 0, .slice none 0 0] := boxOf
            have oM4 := bM4.old
            have oR4 := bR4.old
            have neg1 : NeB g w1.heap.size := ⟨ngM⟩
            have neg2 : NeB g w.heap.size := ⟨ngR⟩
            have gtg : Gt p g := ⟨by omega⟩
            have aba : Abv p (blk fs[f].a) := ⟨fun b hb => by have := (hD3.out.inv.lt _ (List.getElem_mem hf2) b hb).1; omega⟩
            have cuY : Cur (w8.setCell ⟨g, f * 3 + 2, none⟩ (.slice ae (fs[f].body.length + 2) ce)) p := inferInstance
            have stY : Fr [p] w (w8.setCell ⟨g, f * 3 + 2, none⟩ (.slice ae (fs[f].body.length + 2) ce)) := (stw.fr.trans frS (fun b hb => by rcases List.mem_cons.1 hb with h | h; exact .inl (by simp [h]); exact .inr (by have := (hD3.out.inv.lt _ (List.getElem_mem hf2) b h).1; omega))).trans (T := [g]) ((Fr.refl [g] _).setCell (.inl (List.mem_singleton_self _)) _) (fun b hb => .inr (by rw [List.mem_singleton.1 hb]; omega))
            go_wp2
            refine bodyPost_ret (v := .agg #[.slice (some ⟨gs, 0, none⟩) 3 3, .slice (some ⟨gi, 0, none⟩) 2 2, (.slice (some ⟨g, 0, none⟩) fs.length cf), .int .i64 1, .int .i64 (-1), .slice (some ⟨gg, 0, none⟩) 2 2, (.slice (some ⟨ge, 0, none⟩) 2 2), .slice (some ⟨gd, 0, none⟩) 1 1]) (by simp [results, Tryd.results10, go_sem]) rfl ?_
            exact ⟨modM (fs.set f y) true 1 expsM dataM, _, rfl, hid ((ModK.fr (S := [w.heap.size]) kY.out (by exact FrX.fr (a := w8.setCell ⟨g, f * 3 + 2, none⟩ (.slice ae (fs[f].body.length + 2) ce))) (by simp)).weak (by omega)), Cur.fr (S := [w.heap.size]) cuY (by exact FrX.fr (a := w8.setCell ⟨g, f * 3 + 2, none⟩ (.slice ae (fs[f].body.length + 2) ce))) (by simp; omega), ⟨Fr.trans (T := [w.heap.size]) stY (by exact FrX.fr (a := w8.setCell ⟨g, f * 3 + 2, none⟩ (.slice ae (fs[f].body.length + 2) ce))) (fun b hb => .inr (Nat.le_of_eq (List.mem_singleton.1 hb).symm))⟩⟩
        · simp only [List.getElem_toArray, List.getElem_cons_succ, List.getElem_cons_zero]
          obtain ⟨o, ho, hlo⟩ := lit_ex x (by omega)
          go_wp2_with fail
          refine ⟨mkStepX, ?_⟩
          refine rg_read (i := 14) (a1 := _) rfl (by kernel_rfl) rfl (by first | (simp; done) | (simp [Act.put]; done)) (by intro wq hwq; go_wp2; exact ⟨rfl, rfl⟩) mkStepX ?_
          refine rg_two (i := 8) (j := 16) rfl rfl (by kernel_rfl) ?_ ?_
          · simp only [List.getElem_toArray, List.getElem_cons_succ, List.getElem_cons_zero]
            go_wp2_with fail
            refine ⟨mkStepX, ?_⟩
            refine rg_eff (i := 16) rfl (by kernel_rfl) ?_
            simp only [List.getElem_toArray, List.getElem_cons_succ, List.getElem_cons_zero]
            go_wp2_with fail
            with_reducible refine Calls.mono (sinsC _) ?_
            rintro e w5 ⟨q, hq, rfl, cu5, st5⟩
            go_wp2_with fail
            refine ⟨mkStepX, ?_⟩
            refine rg_eff (i := 17) rfl (by kernel_rfl) ?_
            simp only [List.getElem_toArray, List.getElem_cons_succ, List.getElem_cons_zero]
            go_wp2_with fail
            refine ⟨mkStepX, ?_⟩
            refine rg_eff (i := 18) rfl (by kernel_rfl) ?_
            simp only [List.getElem_toArray, List.getElem_cons_succ, List.getElem_cons_zero]
            go_wp2_with (at_builtin; go_must (refine app_o _ rfl (.tmp 93) (.tmp 102) 37 rfl 50 (.agg #[.int .i64 0, .int .i64 0, .int .i64 0]) 3 24 Tryd.inss_tab B fs[f].a fs[f].body.length fs[f].cap (fs[f].body.flatMap insVs) rfl (rowW.out _ inferInstance) _ 2 2 (([⟨o, 0, 0⟩, q] : List InsD).flatMap insVs) rfl (view_litZ _ _ _ _ _ _ rfl (by simp)) (insVs_allD _) (by decide) (by omega) (Nat.le_trans hBw (FrX.fr (S := [p]) (a := w3)).size) ?_); intro ae ce w8 row8 fr8)
            have sx8 : StepX (blk fs[f].a) _ w8 := ⟨fr8⟩
            refine ⟨mkStepX, ?_⟩
            refine rg_read (i := 19) (a1 := _) rfl (by kernel_rfl) rfl (by first | (simp; done) | (simp [Act.put]; done)) (by intro wq hwq; go_wp2; exact ⟨rfl, rfl⟩) mkStepX ?_
            refine rg_read (i := 20) (a1 := _) rfl (by kernel_rfl) rfl (by first | (simp; done) | (simp [Act.put]; done)) (by intro wq hwq; go_wp2; exact ⟨rfl, rfl⟩) mkStepX ?_
            refine rg_eff (i := 21) rfl (by kernel_rfl) ?_
            simp only [List.getElem_toArray, List.getElem_cons_succ, List.getElem_cons_zero]
            go_wp2_with fail
            refine ⟨mkStepX, ?_⟩
            refine rg_done (by kernel_rfl) ?_
            have frS : Fr (p :: blk fs[f].a) w3 w8 := FrX.fr (S := p :: blk fs[f].a) (a := w3)
            have hyl : (fs[f].body ++ [⟨o, 0, 0⟩, q]).length = fs[f].body.length + 2 := by simp
            obtain ⟨y, hy⟩ : ∃ y : FB, y = ⟨fs[f].sig, fs[f].loc, ae, ce, fs[f].body ++ [⟨o, 0, 0⟩, q]⟩ := ⟨_, rfl⟩
            have hyB : BodyO w8 B 70000 y := by
              rw [hy]
              refine ⟨by simp only [hyl, List.flatMap_append]; exact row8, by simp only [hyl]; omega, fun i hi => ?_, hB3.out.sg, hB3.out.lo⟩
              rcases List.mem_append.1 hi with h | h
              · exact hB3.out.in3 i h
              · simp only [List.mem_cons, List.not_mem_nil, or_false] at h
                rcases h with rfl | rfl
                · exact ⟨ho, in64_lit, in64_lit⟩
                · exact hq
            have kY := hD3.out.modK_a (k := f) (y := y) hmq hf2 frS hsS.out hyB (Nat.le_refl _) (by rw [hy]; exact row_other row8 (own3g.out _ frS) (by decide)) (by rw [hy]; exact ⟨rfl, rfl⟩)
            have ey : (.slice y.a y.body.length y.cap : Value) = .slice ae (fs[f].body.length + 2) ce := by rw [hy]; simp only [hyl]
            rw [ey] at kY
            replace kY := hid kY
            clear hyB hy ey hyl
            have bM4 : BoxL w8 w1.heap.size #[.slice (some ⟨gs, 0, none⟩) 3 3, .slice (some ⟨gi, 0, none⟩) 2 2, (.slice (some ⟨g, 0, none⟩) fs.length cf), .int .i64 1, .int .i64 (-1), .slice (some ⟨gg, 0, none⟩) 2 2, (.slice (some ⟨ge, 0, none⟩) 2 2), .slice (some ⟨gd, 0, none⟩) 1 1] := boxOf
            have bR4 : BoxL w8 w.heap.size #[.slice none 0 0, .slice none 0 0, .slice none 0 0, .int .i64 0, .int .i64 0, .slice none 0 0, .slice none 0 0, .slice none 0 0] := boxOf
            have oM4 := bM4.old
            have oR4 := bR4.old
            have neg1 : NeB g w1.heap.size := ⟨ngM⟩
            have neg2 : NeB g w.heap.size := ⟨ngR⟩
            have gtg : Gt p g := ⟨by omega⟩
            have aba : Abv p (blk fs[f].a) := ⟨fun b hb => by have := (hD3.out.inv.lt _ (List.getElem_mem hf2) b hb).1; omega⟩
            have cuY : Cur (w8.setCell ⟨g, f * 3 + 2, none⟩ (.slice ae (fs[f].body.length + 2) ce)) p := inferInstance
            have stY : Fr [p] w (w8.setCell ⟨g, f * 3 + 2, none⟩ (.slice ae (fs[f].body.length + 2) ce)) := (stw.fr.trans frS (fun b hb => by rcases List.mem_cons.1 hb with h | h; exact .inl (by simp [h]); exact .inr (by have := (hD3.out.inv.lt _ (List.getElem_mem hf2) b h).1; omega))).trans (T := [g]) ((Fr.refl [g] _).setCell (.inl (List.mem_singleton_self _)) _) (fun b hb => .inr (by rw [List.mem_singleton.1 hb]; omega))
            go_wp2
            refine bodyPost_ret (v := .agg #[.slice (some ⟨gs, 0, none⟩) 3 3, .slice (some ⟨gi, 0, none⟩) 2 2, (.slice (some ⟨g, 0, none⟩) fs.length cf), .int .i64 1, .int .i64 (-1), .slice (some ⟨gg, 0, none⟩) 2 2, (.slice (some ⟨ge, 0, none⟩) 2 2), .slice (some ⟨gd, 0, none⟩) 1 1]) (by simp [results, Tryd.results10, go_sem]) rfl ?_
            exact ⟨modM (fs.set f y) true 1 expsM dataM, _, rfl, hid ((ModK.fr (S := [w.heap.size]) kY.out (by exact FrX.fr (a := w8.setCell ⟨g, f * 3 + 2, none⟩ (.slice ae (fs[f].body.length + 2) ce))) (by simp)).weak (by omega)), Cur.fr (S := [w.heap.size]) cuY (by exact FrX.fr (a := w8.setCell ⟨g, f * 3 + 2, none⟩ (.slice ae (fs[f].body.length + 2) ce))) (by simp; omega), ⟨Fr.trans (T := [w.heap.size]) stY (by exact FrX.fr (a := w8.setCell ⟨g, f * 3 + 2, none⟩ (.slice ae (fs[f].body.length + 2) ce))) (fun b hb => .inr (Nat.le_of_eq (List.mem_singleton.1 hb).symm))⟩⟩
          · simp only [List.getElem_toArray, List.getElem_cons_succ, List.getElem_cons_zero]
            go_wp2_with fail
            with_reducible refine Calls.mono (sinsC _) ?_
            rintro e w5 ⟨q, hq, rfl, cu5, st5⟩
            go_wp2_with fail
            refine ⟨mkStepX, ?_⟩
            refine rg_two (i := 8) (j := 17) rfl rfl (by kernel_rfl) ?_ ?_
            · simp only [List.getElem_toArray, List.getElem_cons_succ, List.getElem_cons_zero]
              go_wp2_with fail
              refine ⟨mkStepX, ?_⟩
              refine rg_eff (i := 17) rfl (by kernel_rfl) ?_
              simp only [List.getElem_toArray, List.getElem_cons_succ, List.getElem_cons_zero]
              go_wp2_with fail
              refine ⟨mkStepX, ?_⟩
              refine rg_eff (i := 18) rfl (by kernel_rfl) ?_
              simp only [List.getElem_toArray, List.getElem_cons_succ, List.getElem_cons_zero]
              go_wp2_with (at_builtin; go_must (refine app_o _ rfl (.tmp 93) (.tmp 102) 37 rfl 50 (.agg #[.int .i64 0, .int .i64 0, .int .i64 0]) 3 24 Tryd.inss_tab B fs[f].a fs[f].body.length fs[f].cap (fs[f].body.flatMap insVs) rfl (rowW.out _ inferInstance) _ 2 2 (([⟨o, 0, 0⟩, q] : List InsD).flatMap insVs) rfl (view_litZ _ _ _ _ _ _ rfl (by simp)) (insVs_allD _) (by decide) (by omega) (Nat.le_trans hBw (FrX.fr (S := [p]) (a := w3)).size) ?_); intro ae ce w8 row8 fr8)
              have sx8 : StepX (blk fs[f].a) _ w8 := ⟨fr8⟩
              refine ⟨mkStepX, ?_⟩
              refine rg_read (i := 19) (a1 := _) rfl (by kernel_rfl) rfl (by first | (simp; done) | (simp [Act.put]; done)) (by intro wq hwq; go_wp2; exact ⟨rfl, rfl⟩) mkStepX ?_
              refine rg_read (i := 20) (a1 := _) rfl (by kernel_rfl) rfl (by first | (simp; done) | (simp [Act.put]; done)) (by intro wq hwq; go_wp2; exact ⟨rfl, rfl⟩) mkStepX ?_
              refine rg_eff (i := 21) rfl (by kernel_rfl) ?_
              simp only [List.getElem_toArray, List.getElem_cons_succ, List.getElem_cons_zero]
              go_wp2_with fail
              refine ⟨mkStepX, ?_⟩
              refine rg_done (by kernel_rfl) ?_
              have frS : Fr (p :: blk fs[f].a) w3 w8 := FrX.fr (S := p :: blk fs[f].a) (a := w3)
              have hyl : (fs[f].body ++ [⟨o, 0, 0⟩, q]).length = fs[f].body.length + 2 := by simp
              obtain ⟨y, hy⟩ : ∃ y : FB, y = ⟨fs[f].sig, fs[f].loc, ae, ce, fs[f].body ++ [⟨o, 0, 0⟩, q]⟩ := ⟨_, rfl⟩
              have hyB : BodyO w8 B 70000 y := by
                rw [hy]
                refine ⟨by simp only [hyl, List.flatMap_append]; exact row8, by simp only [hyl]; omega, fun i hi => ?_, hB3.out.sg, hB3.out.lo⟩
                rcases List.mem_append.1 hi with h | h
                · exact hB3.out.in3 i h
                · simp only [List.mem_cons, List.not_mem_nil, or_false] at h
                  rcases h with rfl | rfl
                  · exact ⟨ho, in64_lit, in64_lit⟩
                  · exact hq
              have kY := hD3.out.modK_a (k := f) (y := y) hmq hf2 frS hsS.out hyB (Nat.le_refl _) (by rw [hy]; exact row_other row8 (own3g.out _ frS) (by decide)) (by rw [hy]; exact ⟨rfl, rfl⟩)
              have ey : (.slice y.a y.body.length y.cap : Value) = .slice ae (fs[f].body.length + 2) ce := by rw [hy]; simp only [hyl]
              rw [ey] at kY
              replace kY := hid kY
              clear hyB hy ey hyl
              have bM4 : BoxL w8 w1.heap.size #[.slice (some ⟨gs, 0, none⟩) 3 3, .slice (some ⟨gi, 0, none⟩) 2 2, (.slice (some ⟨g, 0, none⟩) fs.length cf), .int .i64 1, .int .i64 (-1), .slice (some ⟨gg, 0, none⟩) 2 2, (.slice (some ⟨ge, 0, none⟩) 2 2), .slice (some ⟨gd, 0, none⟩) 1 1] := boxOf
              have bR4 : BoxL w8 w.heap.size #[.slice none 0 0, .slice none 0 0, .slice none 0 0, .int .i64 0, .int .i64 0, .slice none 0 0, .slice none 0 0, .slice none 0 0] := boxOf
              have oM4 := bM4.old
              have oR4 := bR4.old
              have neg1 : NeB g w1.heap.size := ⟨ngM⟩
              have neg2 : NeB g w.heap.size := ⟨ngR⟩
              have gtg : Gt p g := ⟨by omega⟩
              have aba : Abv p (blk fs[f].a) := ⟨fun b hb => by have := (hD3.out.inv.lt _ (List.getElem_mem hf2) b hb).1; omega⟩
              have cuY : Cur (w8.setCell ⟨g, f * 3 + 2, none⟩ (.slice ae (fs[f].body.length + 2) ce)) p := inferInstance
              have stY : Fr [p] w (w8.setCell ⟨g, f * 3 + 2, none⟩ (.slice ae (fs[f].body.length + 2) ce)) := (stw.fr.trans frS (fun b hb => by rcases List.mem_cons.1 hb with h | h; exact .inl (by simp [h]); exact .inr (by have := (hD3.out.inv.lt _ (List.getElem_mem hf2) b h).1; omega))).trans (T := [g]) ((Fr.refl [g] _).setCell (.inl (List.mem_singleton_self _)) _) (fun b hb => .inr (by rw [List.mem_singleton.1 hb]; omega))
              go_wp2
              refine bodyPost_ret (v := .agg #[.slice (some ⟨gs, 0, none⟩) 3 3, .slice (some ⟨gi, 0, none⟩) 2 2, (.slice (some ⟨g, 0, none⟩) fs.length cf), .int .i64 1, .int .i64 (-1), .slice (some ⟨gg, 0, none⟩) 2 2, (.slice (some ⟨ge, 0, none⟩) 2 2), .slice (some ⟨gd, 0, none⟩) 1 1]) (by simp [results, Tryd.results10, go_sem]) rfl ?_
              exact ⟨modM (fs.set f y) true 1 expsM dataM, _, rfl, hid ((ModK.fr (S := [w.heap.size]) kY.out (by exact FrX.fr (a := w8.setCell ⟨g, f * 3 + 2, none⟩ (.slice ae (fs[f].body.length + 2) ce))) (by simp)).weak (by omega)), Cur.fr (S := [w.heap.size]) cuY (by exact FrX.fr (a := w8.setCell ⟨g, f * 3 + 2, none⟩ (.slice ae (fs[f].body.length + 2) ce))) (by simp; omega), ⟨Fr.trans (T := [w.heap.size]) stY (by exact FrX.fr (a := w8.setCell ⟨g, f * 3 + 2, none⟩ (.slice ae (fs[f].body.length + 2) ce))) (fun b hb => .inr (Nat.le_of_eq (List.mem_singleton.1 hb).symm))⟩⟩
            · simp only [List.getElem_toArray, List.getElem_cons_succ, List.getElem_cons_zero]
              go_wp2_with fail
              refine ⟨mkStepX, ?_⟩
              refine rg_eff (i := 8) rfl (by kernel_rfl) ?_
              simp only [List.getElem_toArray, List.getElem_cons_succ, List.getElem_cons_zero]
              go_wp2_with fail
              refine ⟨mkStepX, ?_⟩
              refine rg_eff (i := 18) rfl (by kernel_rfl) ?_
              simp only [List.getElem_toArray, List.getElem_cons_succ, List.getElem_cons_zero]
              go_wp2_with (at_builtin; go_must (refine app_o _ rfl (.tmp 93) (.tmp 102) 37 rfl 50 (.agg #[.int .i64 0, .int .i64 0, .int .i64 0]) 3 24 Tryd.inss_tab B fs[f].a fs[f].body.length fs[f].cap (fs[f].body.flatMap insVs) rfl (rowW.out _ inferInstance) _ 2 2 (([⟨o, 0, 0⟩, q] : List InsD).flatMap insVs) rfl (view_litZ _ _ _ _ _ _ rfl (by simp)) (insVs_allD _) (by decide) (by omega) (Nat.le_trans hBw (FrX.fr (S := [p]) (a := w3)).size) ?_); intro ae ce w8 row8 fr8)
              have sx8 : StepX (blk fs[f].a) _ w8 := ⟨fr8⟩
              refine ⟨mkStepX, ?_⟩
              refine rg_read (i := 19) (a1 := _) rfl (by kernel_rfl) rfl (by first | (simp; done) | (simp [Act.put]; done)) (by intro wq hwq; go_wp2; exact ⟨rfl, rfl⟩) mkStepX ?_
              refine rg_read (i := 20) (a1 := _) rfl (by kernel_rfl) rfl (by first | (simp; done) | (simp [Act.put]; done)) (by intro wq hwq; go_wp2; exact ⟨rfl, rfl⟩) mkStepX ?_
              refine rg_eff (i := 21) rfl (by kernel_rfl) ?_
              simp only [List.getElem_toArray, List.getElem_cons_succ, List.getElem_cons_zero]
              go_wp2_with fail
              refine ⟨mkStepX, ?_⟩
              refine rg_done (by kernel_rfl) ?_
              have frS : Fr (p :: blk fs[f].a) w3 w8 := FrX.fr (S := p :: blk fs[f].a) (a := w3)
              have hyl : (fs[f].body ++ [⟨o, 0, 0⟩, q]).length = fs[f].body.length + 2 := by simp
              obtain ⟨y, hy⟩ : ∃ y : FB, y = ⟨fs[f].sig, fs[f].loc, ae, ce, fs[f].body ++ [⟨o, 0, 0⟩, q]⟩ := ⟨_, rfl⟩
              have hyB : BodyO w8 B 70000 y := by
                rw [hy]
                refine ⟨by simp only [hyl, List.flatMap_append]; exact row8, by simp only [hyl]; omega, fun i hi => ?_, hB3.out.sg, hB3.out.lo⟩
                rcases List.mem_append.1 hi with h | h
                · exact hB3.out.in3 i h
                · simp only [List.mem_cons, List.not_mem_nil, or_false] at h
                  rcases h with rfl | rfl
                  · exact ⟨ho, in64_lit, in64_lit⟩
                  · exact hq
              have kY := hD3.out.modK_a (k := f) (y := y) hmq hf2 frS hsS.out hyB (Nat.le_refl _) (by rw [hy]; exact row_other row8 (own3g.out _ frS) (by decide)) (by rw [hy]; exact ⟨rfl, rfl⟩)
              have ey : (.slice y.a y.body.length y.cap : Value) = .slice ae (fs[f].body.length + 2) ce := by rw [hy]; simp only [hyl]
              rw [ey] at kY
              replace kY := hid kY
              clear hyB hy ey hyl
              have bM4 : BoxL w8 w1.heap.size #[.slice (some ⟨gs, 0, none⟩) 3 3, .slice (some ⟨gi, 0, none⟩) 2 2, (.slice (some ⟨g, 0, none⟩) fs.length cf), .int .i64 1, .int .i64 (-1), .slice (some ⟨gg, 0, none⟩) 2 2, (.slice (some ⟨ge, 0, none⟩) 2 2), .slice (some ⟨gd, 0, none⟩) 1 1] := boxOf
              have bR4 : BoxL w8 w.heap.size #[.slice none 0 0, .slice none 0 0, .slice none 0 0, .int .i64 0, .int .i64 0, .slice none 0 0, .slice none 0 0, .slice none 0 0] := boxOf
              have oM4 := bM4.old
              have oR4 := bR4.old
              have neg1 : NeB g w1.heap.size := ⟨ngM⟩
              have neg2 : NeB g w.heap.size := ⟨ngR⟩
              have gtg : Gt p g := ⟨by omega⟩
              have aba : Abv p (blk fs[f].a) := ⟨fun b hb => by have := (hD3.out.inv.lt _ (List.getElem_mem hf2) b hb).1; omega⟩
              have cuY : Cur (w8.setCell ⟨g, f * 3 + 2, none⟩ (.slice ae (fs[f].body.length + 2) ce)) p := inferInstance
              have stY : Fr [p] w (w8.setCell ⟨g, f * 3 + 2, none⟩ (.slice ae (fs[f].body.length + 2) ce)) := (stw.fr.trans frS (fun b hb => by rcases List.mem_cons.1 hb with h | h; exact .inl (by simp [h]); exact .inr (by have := (hD3.out.inv.lt _ (List.getElem_mem hf2) b h).1; omega))).trans (T := [g]) ((Fr.refl [g] _).setCell (.inl (List.mem_singleton_self _)) _) (fun b hb => .inr (by rw [List.mem_singleton.1 hb]; omega))
              go_wp2
              refine bodyPost_ret (v := .agg #[.slice (some ⟨gs, 0, none⟩) 3 3, .slice (some ⟨gi, 0, none⟩) 2 2, (.slice (some ⟨g, 0, none⟩) fs.length cf), .int .i64 1, .int .i64 (-1), .slice (some ⟨gg, 0, none⟩) 2 2, (.slice (some ⟨ge, 0, none⟩) 2 2), .slice (some ⟨gd, 0, none⟩) 1 1]) (by simp [results, Tryd.results10, go_sem]) rfl ?_
              exact ⟨modM (fs.set f y) true 1 expsM dataM, _, rfl, hid ((ModK.fr (S := [w.heap.size]) kY.out (by exact FrX.fr (a := w8.setCell ⟨g, f * 3 + 2, none⟩ (.slice ae (fs[f].body.length + 2) ce))) (by simp)).weak (by omega)), Cur.fr (S := [w.heap.size]) cuY (by exact FrX.fr (a := w8.setCell ⟨g, f * 3 + 2, none⟩ (.slice ae (fs[f].body.length + 2) ce))) (by simp; omega), ⟨Fr.trans (T := [w.heap.size]) stY (by exact FrX.fr (a := w8.setCell ⟨g, f * 3 + 2, none⟩ (.slice ae (fs[f].body.length + 2) ce))) (fun b hb => .inr (Nat.le_of_eq (List.mem_singleton.1 hb).symm))⟩⟩
        · simp only [List.getElem_toArray, List.getElem_cons_succ, List.getElem_cons_zero]
          go_wp2_with fail
          with_reducible refine Calls.mono (sinsC _) ?_
          rintro e w5 ⟨q, hq, rfl, cu5, st5⟩
          go_wp2_with fail
          refine ⟨mkStepX, ?_⟩
          refine rg_two (i := 8) (j := 13) rfl rfl (by kernel_rfl) ?_ ?_
          · simp only [List.getElem_toArray, List.getElem_cons_succ, List.getElem_cons_zero]
            go_wp2_with fail
            refine ⟨mkStepX, ?_⟩
            refine rg_eff (i := 13) rfl (by kernel_rfl) ?_
            simp only [List.getElem_toArray, List.getElem_cons_succ, List.getElem_cons_zero]
            obtain ⟨o, ho, hlo⟩ := lit_ex x (by omega)
            go_wp2_with fail
            refine ⟨mkStepX, ?_⟩
            refine rg_read (i := 14) (a1 := _) rfl (by kernel_rfl) rfl (by first | (simp; done) | (simp [Act.put]; done)) (by intro wq hwq; go_wp2; exact ⟨rfl, rfl⟩) mkStepX ?_
            refine rg_eff (i := 17) rfl (by kernel_rfl) ?_
            simp only [List.getElem_toArray, List.getElem_cons_succ, List.getElem_cons_zero]
            go_wp2_with fail
            refine ⟨mkStepX, ?_⟩
            refine rg_eff (i := 18) rfl (by kernel_rfl) ?_
            simp only [List.getElem_toArray, List.getElem_cons_succ, List.getElem_cons_zero]
            go_wp2_with (at_builtin; go_must (refine app_o _ rfl (.tmp 93) (.tmp 102) 37 rfl 50 (.agg #[.int .i64 0, .int .i64 0, .int .i64 0]) 3 24 Tryd.inss_tab B fs[f].a fs[f].body.length fs[f].cap (fs[f].body.flatMap insVs) rfl (rowW.out _ inferInstance) _ 2 2 (([⟨o, 0, 0⟩, q] : List InsD).flatMap insVs) rfl (view_litZ _ _ _ _ _ _ rfl (by simp)) (insVs_allD _) (by decide) (by omega) (Nat.le_trans hBw (FrX.fr (S := [p]) (a := w3)).size) ?_); intro ae ce w8 row8 fr8)
            have sx8 : StepX (blk fs[f].a) _ w8 := ⟨fr8⟩
            refine ⟨mkStepX, ?_⟩
            refine rg_read (i := 19) (a1 := _) rfl (by kernel_rfl) rfl (by first | (simp; done) | (simp [Act.put]; done)) (by intro wq hwq; go_wp2; exact ⟨rfl, rfl⟩) mkStepX ?_
            refine rg_read (i := 20) (a1 := _) rfl (by kernel_rfl) rfl (by first | (simp; done) | (simp [Act.put]; done)) (by intro wq hwq; go_wp2; exact ⟨rfl, rfl⟩) mkStepX ?_
            refine rg_eff (i := 21) rfl (by kernel_rfl) ?_
            simp only [List.getElem_toArray, List.getElem_cons_succ, List.getElem_cons_zero]
            go_wp2_with fail
            refine ⟨mkStepX, ?_⟩
            refine rg_done (by kernel_rfl) ?_
            have frS : Fr (p :: blk fs[f].a) w3 w8 := FrX.fr (S := p :: blk fs[f].a) (a := w3)
            have hyl : (fs[f].body ++ [⟨o, 0, 0⟩, q]).length = fs[f].body.length + 2 := by simp
            obtain ⟨y, hy⟩ : ∃ y : FB, y = ⟨fs[f].sig, fs[f].loc, ae, ce, fs[f].body ++ [⟨o, 0, 0⟩, q]⟩ := ⟨_, rfl⟩
            have hyB : BodyO w8 B 70000 y := by
              rw [hy]
              refine ⟨by simp only [hyl, List.flatMap_append]; exact row8, by simp only [hyl]; omega, fun i hi => ?_, hB3.out.sg, hB3.out.lo⟩
              rcases List.mem_append.1 hi with h | h
              · exact hB3.out.in3 i h
              · simp only [List.mem_cons, List.not_mem_nil, or_false] at h
                rcases h with rfl | rfl
                · exact ⟨ho, in64_lit, in64_lit⟩
                · exact hq
            have kY := hD3.out.modK_a (k := f) (y := y) hmq hf2 frS hsS.out hyB (Nat.le_refl _) (by rw [hy]; exact row_other row8 (own3g.out _ frS) (by decide)) (by rw [hy]; exact ⟨rfl, rfl⟩)
            have ey : (.slice y.a y.body.length y.cap : Value) = .slice ae (fs[f].body.length + 2) ce := by rw [hy]; simp only [hyl]
            rw [ey] at kY
            replace kY := hid kY
            clear hyB hy ey hyl
            have bM4 : BoxL w8 w1.heap.size #[.slice (some ⟨gs, 0, none⟩) 3 3, .slice (some ⟨gi, 0, none⟩) 2 2, (.slice (some ⟨g, 0, none⟩) fs.length cf), .int .i64 1, .int .i64 (-1), .slice (some ⟨gg, 0, none⟩) 2 2, (.slice (some ⟨ge, 0, none⟩) 2 2), .slice (some ⟨gd, 0, none⟩) 1 1] := boxOf
            have bR4 : BoxL w8 w.heap.size #[.slice none 0 0, .slice none 0 0, .slice none 0 0, .int .i64 0, .int .i64 0, .slice none 0 0, .slice none 0 0, .slice none 0 0] := boxOf
            have oM4 := bM4.old
            have oR4 := bR4.old
            have neg1 : NeB g w1.heap.size := ⟨ngM⟩
            have neg2 : NeB g w.heap.size := ⟨ngR⟩
            have gtg : Gt p g := ⟨by omega⟩
            have aba : Abv p (blk fs[f].a) := ⟨fun b hb => by have := (hD3.out.inv.lt _ (List.getElem_mem hf2) b hb).1; omega⟩
            have cuY : Cur (w8.setCell ⟨g, f * 3 + 2, none⟩ (.slice ae (fs[f].body.length + 2) ce)) p := inferInstance
            have stY : Fr [p] w (w8.setCell ⟨g, f * 3 + 2, none⟩ (.slice ae (fs[f].body.length + 2) ce)) := (stw.fr.trans frS (fun b hb => by rcases List.mem_cons.1 hb with h | h; exact .inl (by simp [h]); exact .inr (by have := (hD3.out.inv.lt _ (List.getElem_mem hf2) b h).1; omega))).trans (T := [g]) ((Fr.refl [g] _).setCell (.inl (List.mem_singleton_self _)) _) (fun b hb => .inr (by rw [List.mem_singleton.1 hb]; omega))
            go_wp2
            refine bodyPost_ret (v := .agg #[.slice (some ⟨gs, 0, none⟩) 3 3, .slice (some ⟨gi, 0, none⟩) 2 2, (.slice (some ⟨g, 0, none⟩) fs.length cf), .int .i64 1, .int .i64 (-1), .slice (some ⟨gg, 0, none⟩) 2 2, (.slice (some ⟨ge, 0, none⟩) 2 2), .slice (some ⟨gd, 0, none⟩) 1 1]) (by simp [results, Tryd.results10, go_sem]) rfl ?_
            exact ⟨modM (fs.set f y) true 1 expsM dataM, _, rfl, hid ((ModK.fr (S := [w.heap.size]) kY.out (by exact FrX.fr (a := w8.setCell ⟨g, f * 3 + 2, none⟩ (.slice ae (fs[f].body.length + 2) ce))) (by simp)).weak (by omega)), Cur.fr (S := [w.heap.size]) cuY (by exact FrX.fr (a := w8.setCell ⟨g, f * 3 + 2, none⟩ (.slice ae (fs[f].body.length + 2) ce))) (by simp; omega), ⟨Fr.trans (T := [w.heap.size]) stY (by exact FrX.fr (a := w8.setCell ⟨g, f * 3 + 2, none⟩ (.slice ae (fs[f].body.length + 2) ce))) (fun b hb => .inr (Nat.le_of_eq (List.mem_singleton.1 hb).symm))⟩⟩
          · simp only [List.getElem_toArray, List.getElem_cons_succ, List.getElem_cons_zero]
            obtain ⟨o, ho, hlo⟩ := lit_ex x (by omega)
            go_wp2_with fail
            refine ⟨mkStepX, ?_⟩
            refine rg_read (i := 14) (a1 := _) rfl (by kernel_rfl) rfl (by first | (simp; done) | (simp [Act.put]; done)) (by intro wq hwq; go_wp2; exact ⟨rfl, rfl⟩) mkStepX ?_
            refine rg_two (i := 8) (j := 17) rfl rfl (by kernel_rfl) ?_ ?_
            · simp only [List.getElem_toArray, List.getElem_cons_succ, List.getElem_cons_zero]
              go_wp2_with fail
              refine ⟨mkStepX, ?_⟩
              refine rg_eff (i := 17) rfl (by kernel_rfl) ?_
              simp only [List.getElem_toArray, List.getElem_cons_succ, List.getElem_cons_zero]
              go_wp2_with fail
              refine ⟨mkStepX, ?_⟩
              refine rg_eff (i := 18) rfl (by kernel_rfl) ?_
              simp only [List.getElem_toArray, List.getElem_cons_succ, List.getElem_cons_zero]
              go_wp2_with (at_builtin; go_must (refine app_o _ rfl (.tmp 93) (.tmp 102) 37 rfl 50 (.agg #[.int .i64 0, .int .i64 0, .int .i64 0]) 3 24 Tryd.inss_tab B fs[f].a fs[f].body.length fs[f].cap (fs[f].body.flatMap insVs) rfl (rowW.out _ inferInstance) _ 2 2 (([⟨o, 0, 0⟩, q] : List InsD).flatMap insVs) rfl (view_litZ _ _ _ _ _ _ rfl (by simp)) (insVs_allD _) (by decide) (by omega) (Nat.le_trans hBw (FrX.fr (S := [p]) (a := w3)).size) ?_); intro ae ce w8 row8 fr8)
              have sx8 : StepX (blk fs[f].a) _ w8 := ⟨fr8⟩
              refine ⟨mkStepX, ?_⟩
              refine rg_read (i := 19) (a1 := _) rfl (by kernel_rfl) rfl (by first | (simp; done) | (simp [Act.put]; done)) (by intro wq hwq; go_wp2; exact ⟨rfl, rfl⟩) mkStepX ?_
              refine rg_read (i := 20) (a1 := _) rfl (by kernel_rfl) rfl (by first | (simp; done) | (simp [Act.put]; done)) (by intro wq hwq; go_wp2; exact ⟨rfl, rfl⟩) mkStepX ?_
              refine rg_eff (i := 21) rfl (by kernel_rfl) ?_
              simp only [List.getElem_toArray, List.getElem_cons_succ, List.getElem_cons_zero]
              go_wp2_with fail
              refine ⟨mkStepX, ?_⟩
              refine rg_done (by kernel_rfl) ?_
              have frS : Fr (p :: blk fs[f].a) w3 w8 := FrX.fr (S := p :: blk fs[f].a) (a := w3)
              have hyl : (fs[f].body ++ [⟨o, 0, 0⟩, q]).length = fs[f].body.length + 2 := by simp
              obtain ⟨y, hy⟩ : ∃ y : FB, y = ⟨fs[f].sig, fs[f].loc, ae, ce, fs[f].body ++ [⟨o, 0, 0⟩, q]⟩ := ⟨_, rfl⟩
              have hyB : BodyO w8 B 70000 y := by
                rw [hy]
                refine ⟨by simp only [hyl, List.flatMap_append]; exact row8, by simp only [hyl]; omega, fun i hi => ?_, hB3.out.sg, hB3.out.lo⟩
                rcases List.mem_append.1 hi with h | h
                · exact hB3.out.in3 i h
                · simp only [List.mem_cons, List.not_mem_nil, or_false] at h
                  rcases h with rfl | rfl
                  · exact ⟨ho, in64_lit, in64_lit⟩
                  · exact hq
              have kY := hD3.out.modK_a (k := f) (y := y) hmq hf2 frS hsS.out hyB (Nat.le_refl _) (by rw [hy]; exact row_other row8 (own3g.out _ frS) (by decide)) (by rw [hy]; exact ⟨rfl, rfl⟩)
              have ey : (.slice y.a y.body.length y.cap : Value) = .slice ae (fs[f].body.length + 2) ce := by rw [hy]; simp only [hyl]
              rw [ey] at kY
              replace kY := hid kY
              clear hyB hy ey hyl
              have bM4 : BoxL w8 w1.heap.size #[.slice (some ⟨gs, 0, none⟩) 3 3, .slice (some ⟨gi, 0, none⟩) 2 2, (.slice (some ⟨g, 0, none⟩) fs.length cf), .int .i64 1, .int .i64 (-1), .slice (some ⟨gg, 0, none⟩) 2 2, (.slice (some ⟨ge, 0, none⟩) 2 2), .slice (some ⟨gd, 0, none⟩) 1 1] := boxOf
              have bR4 : BoxL w8 w.heap.size #[.slice none 0 0, .slice none 0 0, .slice none 0 0, .int .i64 0, .int .i64 0, .slice none 0 0, .slice none 0 0, .slice none 0 0] := boxOf
              have oM4 := bM4.old
              have oR4 := bR4.old
              have neg1 : NeB g w1.heap.size := ⟨ngM⟩
              have neg2 : NeB g w.heap.size := ⟨ngR⟩
              have gtg : Gt p g := ⟨by omega⟩
              have aba : Abv p (blk fs[f].a) := ⟨fun b hb => by have := (hD3.out.inv.lt _ (List.getElem_mem hf2) b hb).1; omega⟩
              have cuY : Cur (w8.setCell ⟨g, f * 3 + 2, none⟩ (.slice ae (fs[f].body.length + 2) ce)) p := inferInstance
              have stY : Fr [p] w (w8.setCell ⟨g, f * 3 + 2, none⟩ (.slice ae (fs[f].body.length + 2) ce)) := (stw.fr.trans frS (fun b hb => by rcases List.mem_cons.1 hb with h | h; exact .inl (by simp [h]); exact .inr (by have := (hD3.out.inv.lt _ (List.getElem_mem hf2) b h).1; omega))).trans (T := [g]) ((Fr.refl [g] _).setCell (.inl (List.mem_singleton_self _)) _) (fun b hb => .inr (by rw [List.mem_singleton.1 hb]; omega))
              go_wp2
              refine bodyPost_ret (v := .agg #[.slice (some ⟨gs, 0, none⟩) 3 3, .slice (some ⟨gi, 0, none⟩) 2 2, (.slice (some ⟨g, 0, none⟩) fs.length cf), .int .i64 1, .int .i64 (-1), .slice (some ⟨gg, 0, none⟩) 2 2, (.slice (some ⟨ge, 0, none⟩) 2 2), .slice (some ⟨gd, 0, none⟩) 1 1]) (by simp [results, Tryd.results10, go_sem]) rfl ?_
              exact ⟨modM (fs.set f y) true 1 expsM dataM, _, rfl, hid ((ModK.fr (S := [w.heap.size]) kY.out (by exact FrX.fr (a := w8.setCell ⟨g, f * 3 + 2, none⟩ (.slice ae (fs[f].body.length + 2) ce))) (by simp)).weak (by omega)), Cur.fr (S := [w.heap.size]) cuY (by exact FrX.fr (a := w8.setCell ⟨g, f * 3 + 2, none⟩ (.slice ae (fs[f].body.length + 2) ce))) (by simp; omega), ⟨Fr.trans (T := [w.heap.size]) stY (by exact FrX.fr (a := w8.setCell ⟨g, f * 3 + 2, none⟩ (.slice ae (fs[f].body.length + 2) ce))) (fun b hb => .inr (Nat.le_of_eq (List.mem_singleton.1 hb).symm))⟩⟩
            · simp only [List.getElem_toArray, List.getElem_cons_succ, List.getElem_cons_zero]
              go_wp2_with fail
              refine ⟨mkStepX, ?_⟩
              refine rg_eff (i := 8) rfl (by kernel_rfl) ?_
              simp only [List.getElem_toArray, List.getElem_cons_succ, List.getElem_cons_zero]
              go_wp2_with fail
              refine ⟨mkStepX, ?_⟩
              refine rg_eff (i := 18) rfl (by kernel_rfl) ?_
              simp only [List.getElem_toArray, List.getElem_cons_succ, List.getElem_cons_zero]
              go_wp2_with (at_builtin; go_must (refine app_o _ rfl (.tmp 93) (.tmp 102) 37 rfl 50 (.agg #[.int .i64 0, .int .i64 0, .int .i64 0]) 3 24 Tryd.inss_tab B fs[f].a fs[f].body.length fs[f].cap (fs[f].body.flatMap insVs) rfl (rowW.out _ inferInstance) _ 2 2 (([⟨o, 0, 0⟩, q] : List InsD).flatMap insVs) rfl (view_litZ _ _ _ _ _ _ rfl (by simp)) (insVs_allD _) (by decide) (by omega) (Nat.le_trans hBw (FrX.fr (S := [p]) (a := w3)).size) ?_); intro ae ce w8 row8 fr8)
              have sx8 : StepX (blk fs[f].a) _ w8 := ⟨fr8⟩
              refine ⟨mkStepX, ?_⟩
              refine rg_read (i := 19) (a1 := _) rfl (by kernel_rfl) rfl (by first | (simp; done) | (simp [Act.put]; done)) (by intro wq hwq; go_wp2; exact ⟨rfl, rfl⟩) mkStepX ?_
              refine rg_read (i := 20) (a1 := _) rfl (by kernel_rfl) rfl (by first | (simp; done) | (simp [Act.put]; done)) (by intro wq hwq; go_wp2; exact ⟨rfl, rfl⟩) mkStepX ?_
              refine rg_eff (i := 21) rfl (by kernel_rfl) ?_
              simp only [List.getElem_toArray, List.getElem_cons_succ, List.getElem_cons_zero]
              go_wp2_with fail
              refine ⟨mkStepX, ?_⟩
              refine rg_done (by kernel_rfl) ?_
              have frS : Fr (p :: blk fs[f].a) w3 w8 := FrX.fr (S := p :: blk fs[f].a) (a := w3)
              have hyl : (fs[f].body ++ [⟨o, 0, 0⟩, q]).length = fs[f].body.length + 2 := by simp
              obtain ⟨y, hy⟩ : ∃ y : FB, y = ⟨fs[f].sig, fs[f].loc, ae, ce, fs[f].body ++ [⟨o, 0, 0⟩, q]⟩ := ⟨_, rfl⟩
              have hyB : BodyO w8 B 70000 y := by
                rw [hy]
                refine ⟨by simp only [hyl, List.flatMap_append]; exact row8, by simp only [hyl]; omega, fun i hi => ?_, hB3.out.sg, hB3.out.lo⟩
                rcases List.mem_append.1 hi with h | h
                · exact hB3.out.in3 i h
                · simp only [List.mem_cons, List.not_mem_nil, or_false] at h
                  rcases h with rfl | rfl
                  · exact ⟨ho, in64_lit, in64_lit⟩
                  · exact hq
              have kY := hD3.out.modK_a (k := f) (y := y) hmq hf2 frS hsS.out hyB (Nat.le_refl _) (by rw [hy]; exact row_other row8 (own3g.out _ frS) (by decide)) (by rw [hy]; exact ⟨rfl, rfl⟩)
              have ey : (.slice y.a y.body.length y.cap : Value) = .slice ae (fs[f].body.length + 2) ce := by rw [hy]; simp only [hyl]
              rw [ey] at kY
              replace kY := hid kY
              clear hyB hy ey hyl
              have bM4 : BoxL w8 w1.heap.size #[.slice (some ⟨gs, 0, none⟩) 3 3, .slice (some ⟨gi, 0, none⟩) 2 2, (.slice (some ⟨g, 0, none⟩) fs.length cf), .int .i64 1, .int .i64 (-1), .slice (some ⟨gg, 0, none⟩) 2 2, (.slice (some ⟨ge, 0, none⟩) 2 2), .slice (some ⟨gd, 0, none⟩) 1 1] := boxOf
              have bR4 : BoxL w8 w.heap.size #[.slice none 0 0, .slice none 0 0, .slice none 0 0, .int .i64 0, .int .i64 0, .slice none 0 0, .slice none 0 0, .slice none 0 0] := boxOf
              have oM4 := bM4.old
              have oR4 := bR4.old
              have neg1 : NeB g w1.heap.size := ⟨ngM⟩
              have neg2 : NeB g w.heap.size := ⟨ngR⟩
              have gtg : Gt p g := ⟨by omega⟩
              have aba : Abv p (blk fs[f].a) := ⟨fun b hb => by have := (hD3.out.inv.lt _ (List.getElem_mem hf2) b hb).1; omega⟩
              have cuY : Cur (w8.setCell ⟨g, f * 3 + 2, none⟩ (.slice ae (fs[f].body.length + 2) ce)) p := inferInstance
              have stY : Fr [p] w (w8.setCell ⟨g, f * 3 + 2, none⟩ (.slice ae (fs[f].body.length + 2) ce)) := (stw.fr.trans frS (fun b hb => by rcases List.mem_cons.1 hb with h | h; exact .inl (by simp [h]); exact .inr (by have := (hD3.out.inv.lt _ (List.getElem_mem hf2) b h).1; omega))).trans (T := [g]) ((Fr.refl [g] _).setCell (.inl (List.mem_singleton_self _)) _) (fun b hb => .inr (by rw [List.mem_singleton.1 hb]; omega))
              go_wp2
              refine bodyPost_ret (v := .agg #[.slice (some ⟨gs, 0, none⟩) 3 3, .slice (some ⟨gi, 0, none⟩) 2 2, (.slice (some ⟨g, 0, none⟩) fs.length cf), .int .i64 1, .int .i64 (-1), .slice (some ⟨gg, 0, none⟩) 2 2, (.slice (some ⟨ge, 0, none⟩) 2 2), .slice (some ⟨gd, 0, none⟩) 1 1]) (by simp [results, Tryd.results10, go_sem]) rfl ?_
              exact ⟨modM (fs.set f y) true 1 expsM dataM, _, rfl, hid ((ModK.fr (S := [w.heap.size]) kY.out (by exact FrX.fr (a := w8.setCell ⟨g, f * 3 + 2, none⟩ (.slice ae (fs[f].body.length + 2) ce))) (by simp)).weak (by omega)), Cur.fr (S := [w.heap.size]) cuY (by exact FrX.fr (a := w8.setCell ⟨g, f * 3 + 2, none⟩ (.slice ae (fs[f].body.length + 2) ce))) (by simp; omega), ⟨Fr.trans (T := [w.heap.size]) stY (by exact FrX.fr (a := w8.setCell ⟨g, f * 3 + 2, none⟩ (.slice ae (fs[f].body.length + 2) ce))) (fun b hb => .inr (Nat.le_of_eq (List.mem_singleton.1 hb).symm))⟩⟩
    · simp only [List.getElem_toArray, List.getElem_cons_succ, List.getElem_cons_zero]
      go_wp2_with fail
      with_reducible refine Calls.mono (sbelowC _ _ (by omega)) ?_
      rintro e w4 ⟨x, hx, rfl, cu4, st4⟩
      go_wp2_with fail
      refine ⟨mkStepX, ?_⟩
      refine rg_three (i := 8) (j := 9) (k := 16) rfl rfl rfl (by kernel_rfl) ?_ ?_ ?_
      · simp only [List.getElem_toArray, List.getElem_cons_succ, List.getElem_cons_zero]
        go_wp2_with fail
        refine ⟨mkStepX, ?_⟩
        refine rg_two (i := 9) (j := 16) rfl rfl (by kernel_rfl) ?_ ?_
        · simp only [List.getElem_toArray, List.getElem_cons_succ, List.getElem_cons_zero]
          go_wp2_with fail
          refine ⟨mkStepX, ?_⟩
          refine rg_read (i := 12) (a1 := _) rfl (by kernel_rfl) rfl (by first | (simp; done) | (simp [Act.put]; done)) (by intro wq hwq; go_wp2; exact ⟨rfl, rfl⟩) mkStepX ?_
          refine rg_two (i := 13) (j := 16) rfl rfl (by kernel_rfl) ?_ ?_
          · simp only [List.getElem_toArray, List.getElem_cons_succ, List.getElem_cons_zero]
            obtain ⟨o, ho, hlo⟩ := lit_ex x (by omega)
            go_wp2_with fail
            refine ⟨mkStepX, ?_⟩
            refine rg_read (i := 14) (a1 := _) rfl (by kernel_rfl) rfl (by first | (simp; done) | (simp [Act.put]; done)) (by intro wq hwq; go_wp2; exact ⟨rfl, rfl⟩) mkStepX ?_
            refine rg_eff (i := 16) rfl (by kernel_rfl) ?_
            simp only [List.getElem_toArray, List.getElem_cons_succ, List.getElem_cons_zero]
            go_wp2_with fail
            with_reducible refine Calls.mono (sinsC _) ?_
            rintro e w5 ⟨q, hq, rfl, cu5, st5⟩
            go_wp2_with fail
            refine ⟨mkStepX, ?_⟩
            refine rg_eff (i := 17) rfl (by kernel_rfl) ?_
            simp only [List.getElem_toArray, List.getElem_cons_succ, List.getElem_cons_zero]
            go_wp2_with fail
            refine ⟨mkStepX, ?_⟩
            refine rg_eff (i := 18) rfl (by kernel_rfl) ?_
            simp only [List.getElem_toArray, List.getElem_cons_succ, List.getElem_cons_zero]
            go_wp2_with (at_builtin; go_must (refine app_o _ rfl (.tmp 93) (.tmp 102) 37 rfl 50 (.agg #[.int .i64 0, .int .i64 0, .int .i64 0]) 3 24 Tryd.inss_tab B fs[f].a fs[f].body.length fs[f].cap (fs[f].body.flatMap insVs) rfl (rowW.out _ inferInstance) _ 2 2 (([⟨o, 0, 0⟩, q] : List InsD).flatMap insVs) rfl (view_litZ _ _ _ _ _ _ rfl (by simp)) (insVs_allD _) (by decide) (by omega) (Nat.le_trans hBw (FrX.fr (S := [p]) (a := w3)).size) ?_); intro ae ce w8 row8 fr8)
            have sx8 : StepX (blk fs[f].a) _ w8 := ⟨fr8⟩
            refine ⟨mkStepX, ?_⟩
            refine rg_read (i := 19) (a1 := _) rfl (by kernel_rfl) rfl (by first | (simp; done) | (simp [Act.put]; done)) (by intro wq hwq; go_wp2; exact ⟨rfl, rfl⟩) mkStepX ?_
            refine rg_read (i := 20) (a1 := _) rfl (by kernel_rfl) rfl (by first | (simp; done) | (simp [Act.put]; done)) (by intro wq hwq; go_wp2; exact ⟨rfl, rfl⟩) mkStepX ?_
            refine rg_eff (i := 21) rfl (by kernel_rfl) ?_
            simp only [List.getElem_toArray, List.getElem_cons_succ, List.getElem_cons_zero]
            go_wp2_with fail
            refine ⟨mkStepX, ?_⟩
            refine rg_done (by kernel_rfl) ?_
            have frS : Fr (p :: blk fs[f].a) w3 w8 := FrX.fr (S := p :: blk fs[f].a) (a := w3)
            have hyl : (fs[f].body ++ [⟨o, 0, 0⟩, q]).length = fs[f].body.length + 2 := by simp
            obtain ⟨y, hy⟩ : ∃ y : FB, y = ⟨fs[f].sig, fs[f].loc, ae, ce, fs[f].body ++ [⟨o, 0, 0⟩, q]⟩ := ⟨_, rfl⟩
            have hyB : BodyO w8 B 70000 y := by
              rw [hy]
              refine ⟨by simp only [hyl, List.flatMap_append]; exact row8, by simp only [hyl]; omega, fun i hi => ?_, hB3.out.sg, hB3.out.lo⟩
              rcases List.mem_append.1 hi with h | h
              · exact hB3.out.in3 i h
              · simp only [List.mem_cons, List.not_mem_nil, or_false] at h
                rcases h with rfl | rfl
                · exact ⟨ho, in64_lit, in64_lit⟩
                · exact hq
            have kY := hD3.out.modK_a (k := f) (y := y) hmq hf2 frS hsS.out hyB (Nat.le_refl _) (by rw [hy]; exact row_other row8 (own3g.out _ frS) (by decide)) (by rw [hy]; exact ⟨rfl, rfl⟩)
            have ey : (.slice y.a y.body.length y.cap : Value) = .slice ae (fs[f].body.length + 2) ce := by rw [hy]; simp only [hyl]
            rw [ey] at kY
            replace kY := hid kY
            clear hyB hy ey hyl
            have bM4 : BoxL w8 w1.heap.size #[.slice (some ⟨gs, 0, none⟩) 3 3, .slice (some ⟨gi, 0, none⟩) 2 2, (.slice (some ⟨g, 0, none⟩) fs.length cf), .int .i64 1, .int .i64 (-1), .slice (some ⟨gg, 0, none⟩) 2 2, (.slice (some ⟨ge, 0, none⟩) 2 2), .slice (some ⟨gd, 0, none⟩) 1 1] := boxOf
            have bR4 : BoxL w8 w.heap.size #[.slice none 0 0, .slice none 0 0, .slice none 0 0, .int .i64 0, .int .i64 0, .slice none 0 0, .slice none 0 0, .slice none 0 0] := boxOf
            have oM4 := bM4.old
            have oR4 := bR4.old
            have neg1 : NeB g w1.heap.size := ⟨ngM⟩
            have neg2 : NeB g w.heap.size := ⟨ngR⟩
            have gtg : Gt p g := ⟨by omega⟩
            have aba : Abv p (blk fs[f].a) := ⟨fun b hb => by have := (hD3.out.inv.lt _ (List.getElem_mem hf2) b hb).1; omega⟩
            have cuY : Cur (w8.setCell ⟨g, f * 3 + 2, none⟩ (.slice ae (fs[f].body.length + 2) ce)) p := inferInstance
            have stY : Fr [p] w (w8.setCell ⟨g, f * 3 + 2, none⟩ (.slice ae (fs[f].body.length + 2) ce)) := (stw.fr.trans frS (fun b hb => by rcases List.mem_cons.1 hb with h | h; exact .inl (by simp [h]); exact .inr (by have := (hD3.out.inv.lt _ (List.getElem_mem hf2) b h).1; omega))).trans (T := [g]) ((Fr.refl [g] _).setCell (.inl (List.mem_singleton_self _)) _) (fun b hb => .inr (by rw [List.mem_singleton.1 hb]; omega))
            go_wp2
            refine bodyPost_ret (v := .agg #[.slice (some ⟨gs, 0, none⟩) 3 3, .slice (some ⟨gi, 0, none⟩) 2 2, (.slice (some ⟨g, 0, none⟩) fs.length cf), .int .i64 1, .int .i64 (-1), .slice (some ⟨gg, 0, none⟩) 2 2, (.slice (some ⟨ge, 0, none⟩) 2 2), .slice (some ⟨gd, 0, none⟩) 1 1]) (by simp [results, Tryd.results10, go_sem]) rfl ?_
            exact ⟨modM (fs.set f y) true 1 expsM dataM, _, rfl, hid ((ModK.fr (S := [w.heap.size]) kY.out (by exact FrX.fr (a := w8.setCell ⟨g, f * 3 + 2, none⟩ (.slice ae (fs[f].body.length + 2) ce))) (by simp)).weak (by omega)), Cur.fr (S := [w.heap.size]) cuY (by exact FrX.fr (a := w8.setCell ⟨g, f * 3 + 2, none⟩ (.slice ae (fs[f].body.length + 2) ce))) (by simp; omega), ⟨Fr.trans (T := [w.heap.size]) stY (by exact FrX.fr (a := w8.setCell ⟨g, f * 3 + 2, none⟩ (.slice ae (fs[f].body.length + 2) ce))) (fun b hb => .inr (Nat.le_of_eq (List.mem_singleton.1 hb).symm))⟩⟩
          · simp only [List.getElem_toArray, List.getElem_cons_succ, List.getElem_cons_zero]
            go_wp2_with fail
            with_reducible refine Calls.mono (sinsC _) ?_
            rintro e w5 ⟨q, hq, rfl, cu5, st5⟩
            go_wp2_with fail
            refine ⟨mkStepX, ?_⟩
            refine rg_eff (i := 13) rfl (by kernel_rfl) ?_
            simp only [List.getElem_toArray, List.getElem_cons_succ, List.getElem_cons_zero]
            obtain ⟨o, ho, hlo⟩ := lit_ex x (by omega)
            go_wp2_with fail
            refine ⟨mkStepX, ?_⟩
            refine rg_read (i := 14) (a1 := _) rfl (by kernel_rfl) rfl (by first | (simp; done) | (simp [Act.put]; done)) (by intro wq hwq; go_wp2; exact ⟨rfl, rfl⟩) mkStepX ?_
            refine rg_eff (i := 17) rfl (by kernel_rfl) ?_
            simp only [List.getElem_toArray, List.getElem_cons_succ, List.getElem_cons_zero]
            go_wp2_with fail
            refine ⟨mkStepX, ?_⟩
            refine rg_eff (i := 18) rfl (by kernel_rfl) ?_
            simp only [List.getElem_toArray, List.getElem_cons_succ, List.getElem_cons_zero]
            go_wp2_with (at_builtin; go_must (refine app_o _ rfl (.tmp 93) (.tmp 102) 37 rfl 50 (.agg #[.int .i64 0, .int .i64 0, .int .i64 0]) 3 24 Tryd.inss_tab B fs[f].a fs[f].body.length fs[f].cap (fs[f].body.flatMap insVs) rfl (rowW.out _ inferInstance) _ 2 2 (([⟨o, 0, 0⟩, q] : List InsD).flatMap insVs) rfl (view_litZ _ _ _ _ _ _ rfl (by simp)) (insVs_allD _) (by decide) (by omega) (Nat.le_trans hBw (FrX.fr (S := [p]) (a := w3)).size) ?_); intro ae ce w8 row8 fr8)
            have sx8 : StepX (blk fs[f].a) _ w8 := ⟨fr8⟩
            refine ⟨mkStepX, ?_⟩
            refine rg_read (i := 19) (a1 := _) rfl (by kernel_rfl) rfl (by first | (simp; done) | (simp [Act.put]; done)) (by intro wq hwq; go_wp2; exact ⟨rfl, rfl⟩) mkStepX ?_
            refine rg_read (i := 20) (a1 := _) rfl (by kernel_rfl) rfl (by first | (simp; done) | (simp [Act.put]; done)) (by intro wq hwq; go_wp2; exact ⟨rfl, rfl⟩) mkStepX ?_
            refine rg_eff (i := 21) rfl (by kernel_rfl) ?_
            simp only [List.getElem_toArray, List.getElem_cons_succ, List.getElem_cons_zero]
            go_wp2_with fail
            refine ⟨mkStepX, ?_⟩
            refine rg_done (by kernel_rfl) ?_
            have frS : Fr (p :: blk fs[f].a) w3 w8 := FrX.fr (S := p :: blk fs[f].a) (a := w3)
            have hyl : (fs[f].body ++ [⟨o, 0, 0⟩, q]).length = fs[f].body.length + 2 := by simp
            obtain ⟨y, hy⟩ : ∃ y : FB, y = ⟨fs[f].sig, fs[f].loc, ae, ce, fs[f].body ++ [⟨o, 0, 0⟩, q]⟩ := ⟨_, rfl⟩
            have hyB : BodyO w8 B 70000 y := by
              rw [hy]
              refine ⟨by simp only [hyl, List.flatMap_append]; exact row8, by simp only [hyl]; omega, fun i hi => ?_, hB3.out.sg, hB3.out.lo⟩
              rcases List.mem_append.1 hi with h | h
              · exact hB3.out.in3 i h
              · simp only [List.mem_cons, List.not_mem_nil, or_false] at h
                rcases h with rfl | rfl
                · exact ⟨ho, in64_lit, in64_lit⟩
                · exact hq
            have kY := hD3.out.modK_a (k := f) (y := y) hmq hf2 frS hsS.out hyB (Nat.le_refl _) (by rw [hy]; exact row_other row8 (own3g.out _ frS) (by decide)) (by rw [hy]; exact ⟨rfl, rfl⟩)
            have ey : (.slice y.a y.body.length y.cap : Value) = .slice ae (fs[f].body.length + 2) ce := by rw [hy]; simp only [hyl]
            rw [ey] at kY
            replace kY := hid kY
            clear hyB hy ey hyl
            have bM4 : BoxL w8 w1.heap.size #[.slice (some ⟨gs, 0, none⟩) 3 3, .slice (some ⟨gi, 0, none⟩) 2 2, (.slice (some ⟨g, 0, none⟩) fs.length cf), .int .i64 1, .int .i64 (-1), .slice (some ⟨gg, 0, none⟩) 2 2, (.slice (some ⟨ge, 0, none⟩) 2 2), .slice (some ⟨gd, 0, none⟩) 1 1] := boxOf
            have bR4 : BoxL w8 w.heap.size #[.slice none 0 0, .slice none 0 0, .slice none 0 0, .int .i64 0, .int .i64 0, .slice none 0 0, .slice none 0 0, .slice none 0 0] := boxOf
            have oM4 := bM4.old
            have oR4 := bR4.old
            have neg1 : NeB g w1.heap.size := ⟨ngM⟩
            have neg2 : NeB g w.heap.size := ⟨ngR⟩
            have gtg : Gt p g := ⟨by omega⟩
            have aba : Abv p (blk fs[f].a) := ⟨fun b hb => by have := (hD3.out.inv.lt _ (List.getElem_mem hf2) b hb).1; omega⟩
            have cuY : Cur (w8.setCell ⟨g, f * 3 + 2, none⟩ (.slice ae (fs[f].body.length + 2) ce)) p := inferInstance
            have stY : Fr [p] w (w8.setCell ⟨g, f * 3 + 2, none⟩ (.slice ae (fs[f].body.length + 2) ce)) := (stw.fr.trans frS (fun b hb => by rcases List.mem_cons.1 hb with h | h; exact .inl (by simp [h]); exact .inr (by have := (hD3.out.inv.lt _ (List.getElem_mem hf2) b h).1; omega))).trans (T := [g]) ((Fr.refl [g] _).setCell (.inl (List.mem_singleton_self _)) _) (fun b hb => .inr (by rw [List.mem_singleton.1 hb]; omega))
            go_wp2
            refine bodyPost_ret (v := .agg #[.slice (some ⟨gs, 0, none⟩) 3 3, .slice (some ⟨gi, 0, none⟩) 2 2, (.slice (some ⟨g, 0, none⟩) fs.length cf), .int .i64 1, .int .i64 (-1), .slice (some ⟨gg, 0, none⟩) 2 2, (.slice (some ⟨ge, 0, none⟩) 2 2), .slice (some ⟨gd, 0, none⟩) 1 1]) (by simp [results, Tryd.results10, go_sem]) rfl ?_
            exact ⟨modM (fs.set f y) true 1 expsM dataM, _, rfl, hid ((ModK.fr (S := [w.heap.size]) kY.out (by exact FrX.fr (a := w8.setCell ⟨g, f * 3 + 2, none⟩ (.slice ae (fs[f].body.length + 2) ce))) (by simp)).weak (by omega)), Cur.fr (S := [w.heap.size]) cuY (by exact FrX.fr (a := w8.setCell ⟨g, f * 3 + 2, none⟩ (.slice ae (fs[f].body.length + 2) ce))) (by simp; omega), ⟨Fr.trans (T := [w.heap.size]) stY (by exact FrX.fr (a := w8.setCell ⟨g, f * 3 + 2, none⟩ (.slice ae (fs[f].body.length + 2) ce))) (fun b hb => .inr (Nat.le_of_eq (List.mem_singleton.1 hb).symm))⟩⟩
        · simp only [List.getElem_toArray, List.getElem_cons_succ, List.getElem_cons_zero]
          go_wp2_with fail
          with_reducible refine Calls.mono (sinsC _) ?_
          rintro e w5 ⟨q, hq, rfl, cu5, st5⟩
          go_wp2_with fail
          refine ⟨mkStepX, ?_⟩
          refine rg_eff (i := 9) rfl (by kernel_rfl) ?_
          simp only [List.getElem_toArray, List.getElem_cons_succ, List.getElem_cons_zero]
          go_wp2_with fail
          refine ⟨mkStepX, ?_⟩
          refine rg_read (i := 12) (a1 := _) rfl (by kernel_rfl) rfl (by first | (simp; done) | (simp [Act.put]; done)) (by intro wq hwq; go_wp2; exact ⟨rfl, rfl⟩) mkStepX ?_
          refine rg_eff (i := 13) rfl (by kernel_rfl) ?_
          simp only [List.getElem_toArray, List.getElem_cons_succ, List.getElem_cons_zero]
          obtain ⟨o, ho, hlo⟩ := lit_ex x (by omega)
          go_wp2_with fail
          refine ⟨mkStepX, ?_⟩
          refine rg_read (i := 14) (a1 := _) rfl (by kernel_rfl) rfl (by first | (simp; done) | (simp [Act.put]; done)) (by intro wq hwq; go_wp2; exact ⟨rfl, rfl⟩) mkStepX ?_
          refine rg_eff (i := 17) rfl (by kernel_rfl) ?_
          simp only [List.getElem_toArray, List.getElem_cons_succ, List.getElem_cons_zero]
          go_wp2_with fail
          refine ⟨mkStepX, ?_⟩
          refine rg_eff (i := 18) rfl (by kernel_rfl) ?_
          simp only [List.getElem_toArray, List.getElem_cons_succ, List.getElem_cons_zero]
          go_wp2_with (at_builtin; go_must (refine app_o _ rfl (.tmp 93) (.tmp 102) 37 rfl 50 (.agg #[.int .i64 0, .int .i64 0, .int .i64 0]) 3 24 Tryd.inss_tab B fs[f].a fs[f].body.length fs[f].cap (fs[f].body.flatMap insVs) rfl (rowW.out _ inferInstance) _ 2 2 (([⟨o, 0, 0⟩, q] : List InsD).flatMap insVs) rfl (view_litZ _ _ _ _ _ _ rfl (by simp)) (insVs_allD _) (by decide) (by omega) (Nat.le_trans hBw (FrX.fr (S := [p]) (a := w3)).size) ?_); intro ae ce w8 row8 fr8)
          have sx8 : StepX (blk fs[f].a) _ w8 := ⟨fr8⟩
          refine ⟨mkStepX, ?_⟩
          refine rg_read (i := 19) (a1 := _) rfl (by kernel_rfl) rfl (by first | (simp; done) | (simp [Act.put]; done)) (by intro wq hwq; go_wp2; exact ⟨rfl, rfl⟩) mkStepX ?_
          refine rg_read (i := 20) (a1 := _) rfl (by kernel_rfl) rfl (by first | (simp; done) | (simp [Act.put]; done)) (by intro wq hwq; go_wp2; exact ⟨rfl, rfl⟩) mkStepX ?_
          refine rg_eff (i := 21) rfl (by kernel_rfl) ?_
          simp only [List.getElem_toArray, List.getElem_cons_succ, List.getElem_cons_zero]
          go_wp2_with fail
          refine ⟨mkStepX, ?_⟩
          refine rg_done (by kernel_rfl) ?_
          have frS : Fr (p :: blk fs[f].a) w3 w8 := FrX.fr (S := p :: blk fs[f].a) (a := w3)
          have hyl : (fs[f].body ++ [⟨o, 0, 0⟩, q]).length = fs[f].body.length + 2 := by simp
          obtain ⟨y, hy⟩ : ∃ y : FB, y = ⟨fs[f].sig, fs[f].loc, ae, ce, fs[f].body ++ [⟨o, 0, 0⟩, q]⟩ := ⟨_, rfl⟩
          have hyB : BodyO w8 B 70000 y := by
            rw [hy]
            refine ⟨by simp only [hyl, List.flatMap_append]; exact row8, by simp only [hyl]; omega, fun i hi => ?_, hB3.out.sg, hB3.out.lo⟩
            rcases List.mem_append.1 hi with h | h
            · exact hB3.out.in3 i h
            · simp only [List.mem_cons, List.not_mem_nil, or_false] at h
              rcases h with rfl | rfl
              · exact ⟨ho, in64_lit, in64_lit⟩
              · exact hq
          have kY := hD3.out.modK_a (k := f) (y := y) hmq hf2 frS hsS.out hyB (Nat.le_refl _) (by rw [hy]; exact row_other row8 (own3g.out _ frS) (by decide)) (by rw [hy]; exact ⟨rfl, rfl⟩)
          have ey : (.slice y.a y.body.length y.cap : Value) = .slice ae (fs[f].body.length + 2) ce := by rw [hy]; simp only [hyl]
          rw [ey] at kY
          replace kY := hid kY
          clear hyB hy ey hyl
          have bM4 : BoxL w8 w1.heap.size #[.slice (some ⟨gs, 0, none⟩) 3 3, .slice (some ⟨gi, 0, none⟩) 2 2, (.slice (some ⟨g, 0, none⟩) fs.length cf), .int .i64 1, .int .i64 (-1), .slice (some ⟨gg, 0, none⟩) 2 2, (.slice (some ⟨ge, 0, none⟩) 2 2), .slice (some ⟨gd, 0, none⟩) 1 1] := boxOf
          have bR4 : BoxL w8 w.heap.size #[.slice none 0 0, .slice none 0 0, .slice none 0 0, .int .i64 0, .int .i64 0, .slice none 0 0, .slice none 0 0, .slice none 0 0] := boxOf
          have oM4 := bM4.old
          have oR4 := bR4.old
          have neg1 : NeB g w1.heap.size := ⟨ngM⟩
          have neg2 : NeB g w.heap.size := ⟨ngR⟩
          have gtg : Gt p g := ⟨by omega⟩
          have aba : Abv p (blk fs[f].a) := ⟨fun b hb => by have := (hD3.out.inv.lt _ (List.getElem_mem hf2) b hb).1; omega⟩
          have cuY : Cur (w8.setCell ⟨g, f * 3 + 2, none⟩ (.slice ae (fs[f].body.length + 2) ce)) p := inferInstance
          have stY : Fr [p] w (w8.setCell ⟨g, f * 3 + 2, none⟩ (.slice ae (fs[f].body.length + 2) ce)) := (stw.fr.trans frS (fun b hb => by rcases List.mem_cons.1 hb with h | h; exact .inl (by simp [h]); exact .inr (by have := (hD3.out.inv.lt _ (List.getElem_mem hf2) b h).1; omega))).trans (T := [g]) ((Fr.refl [g] _).setCell (.inl (List.mem_singleton_self _)) _) (fun b hb => .inr (by rw [List.mem_singleton.1 hb]; omega))
          go_wp2
          refine bodyPost_ret (v := .agg #[.slice (some ⟨gs, 0, none⟩) 3 3, .slice (some ⟨gi, 0, none⟩) 2 2, (.slice (some ⟨g, 0, none⟩) fs.length cf), .int .i64 1, .int .i64 (-1), .slice (some ⟨gg, 0, none⟩) 2 2, (.slice (some ⟨ge, 0, none⟩) 2 2), .slice (some ⟨gd, 0, none⟩) 1 1]) (by simp [results, Tryd.results10, go_sem]) rfl ?_
          exact ⟨modM (fs.set f y) true 1 expsM dataM, _, rfl, hid ((ModK.fr (S := [w.heap.size]) kY.out (by exact FrX.fr (a := w8.setCell ⟨g, f * 3 + 2, none⟩ (.slice ae (fs[f].body.length + 2) ce))) (by simp)).weak (by omega)), Cur.fr (S := [w.heap.size]) cuY (by exact FrX.fr (a := w8.setCell ⟨g, f * 3 + 2, none⟩ (.slice ae (fs[f].body.length + 2) ce))) (by simp; omega), ⟨Fr.trans (T := [w.heap.size]) stY (by exact FrX.fr (a := w8.setCell ⟨g, f * 3 + 2, none⟩ (.slice ae (fs[f].body.length + 2) ce))) (fun b hb => .inr (Nat.le_of_eq (List.mem_singleton.1 hb).symm))⟩⟩
      · simp only [List.getElem_toArray, List.getElem_cons_succ, List.getElem_cons_zero]
        go_wp2_with fail
        refine ⟨mkStepX, ?_⟩
        refine rg_read (i := 12) (a1 := _) rfl (by kernel_rfl) rfl (by first | (simp; done) | (simp [Act.put]; done)) (by intro wq hwq; go_wp2; exact ⟨rfl, rfl⟩) mkStepX ?_
        refine rg_three (i := 8) (j := 13) (k := 16) rfl rfl rfl (by kernel_rfl) ?_ ?_ ?_
        · simp only [List.getElem_toArray, List.getElem_cons_succ, List.getElem_cons_zero]
          go_wp2_with fail
          refine ⟨mkStepX, ?_⟩
          refine rg_two (i := 13) (j := 16) rfl rfl (by kernel_rfl) ?_ ?_
          · simp only [List.getElem_toArray, List.getElem_cons_succ, List.getElem_cons_zero]
            obtain ⟨o, ho, hlo⟩ := lit_ex x (by omega)
            go_wp2_with fail
            refine ⟨mkStepX, ?_⟩
            refine rg_read (i := 14) (a1 := _) rfl (by kernel_rfl) rfl (by first | (simp; done) | (simp [Act.put]; done)) (by intro wq hwq; go_wp2; exact ⟨rfl, rfl⟩) mkStepX ?_
            refine rg_eff (i := 16) rfl (by kernel_rfl) ?_
            simp only [List.getElem_toArray, List.getElem_cons_succ, List.getElem_cons_zero]
            go_wp2_with fail
            with_reducible refine Calls.mono (sinsC _) ?_
            rintro e w5 ⟨q, hq, rfl, cu5, st5⟩
            go_wp2_with fail
            refine ⟨mkStepX, ?_⟩
            refine rg_eff (i := 17) rfl (by kernel_rfl) ?_
            simp only [List.getElem_toArray, List.getElem_cons_succ, List.getElem_cons_zero]
            go_wp2_with fail
            refine ⟨mkStepX, ?_⟩
            refine rg_eff (i := 18) rfl (by kernel_rfl) ?_
            simp only [List.getElem_toArray, List.getElem_cons_succ, List.getElem_cons_zero]
            go_wp2_with (at_builtin; go_must (refine app_o _ rfl (.tmp 93) (.tmp 102) 37 rfl 50 (.agg #[.int .i64 0, .int .i64 0, .int .i64 0]) 3 24 Tryd.inss_tab B fs[f].a fs[f].body.length fs[f].cap (fs[f].body.flatMap insVs) rfl (rowW.out _ inferInstance) _ 2 2 (([⟨o, 0, 0⟩, q] : List InsD).flatMap insVs) rfl (view_litZ _ _ _ _ _ _ rfl (by simp)) (insVs_allD _) (by decide) (by omega) (Nat.le_trans hBw (FrX.fr (S := [p]) (a := w3)).size) ?_); intro ae ce w8 row8 fr8)
            have sx8 : StepX (blk fs[f].a) _ w8 := ⟨fr8⟩
            refine ⟨mkStepX, ?_⟩
            refine rg_read (i := 19) (a1 := _) rfl (by kernel_rfl) rfl (by first | (simp; done) | (simp [Act.put]; done)) (by intro wq hwq; go_wp2; exact ⟨rfl, rfl⟩) mkStepX ?_
            refine rg_read (i := 20) (a1 := _) rfl (by kernel_rfl) rfl (by first | (simp; done) | (simp [Act.put]; done)) (by intro wq hwq; go_wp2; exact ⟨rfl, rfl⟩) mkStepX ?_
            refine rg_eff (i := 21) rfl (by kernel_rfl) ?_
            simp only [List.getElem_toArray, List.getElem_cons_succ, List.getElem_cons_zero]
            go_wp2_with fail
            refine ⟨mkStepX, ?_⟩
            refine rg_done (by kernel_rfl) ?_
            have frS : Fr (p :: blk fs[f].a) w3 w8 := FrX.fr (S := p :: blk fs[f].a) (a := w3)
            have hyl : (fs[f].body ++ [⟨o, 0, 0⟩, q]).length = fs[f].body.length + 2 := by simp
            obtain ⟨y, hy⟩ : ∃ y : FB, y = ⟨fs[f].sig, fs[f].loc, ae, ce, fs[f].body ++ [⟨o, 0, 0⟩, q]⟩ := ⟨_, rfl⟩
            have hyB : BodyO w8 B 70000 y := by
              rw [hy]
              refine ⟨by simp only [hyl, List.flatMap_append]; exact row8, by simp only [hyl]; omega, fun i hi => ?_, hB3.out.sg, hB3.out.lo⟩
              rcases List.mem_append.1 hi with h | h
              · exact hB3.out.in3 i h
              · simp only [List.mem_cons, List.not_mem_nil, or_false] at h
                rcases h with rfl | rfl
                · exact ⟨ho, in64_lit, in64_lit⟩
                · exact hq
            have kY := hD3.out.modK_a (k := f) (y := y) hmq hf2 frS hsS.out hyB (Nat.le_refl _) (by rw [hy]; exact row_other row8 (own3g.out _ frS) (by decide)) (by rw [hy]; exact ⟨rfl, rfl⟩)
            have ey : (.slice y.a y.body.length y.cap : Value) = .slice ae (fs[f].body.length + 2) ce := by rw [hy]; simp only [hyl]
            rw [ey] at kY
            replace kY := hid kY
            clear hyB hy ey hyl
            have bM4 : BoxL w8 w1.heap.size #[.slice (some ⟨gs, 0, none⟩) 3 3, .slice (some ⟨gi, 0, none⟩) 2 2, (.slice (some ⟨g, 0, none⟩) fs.length cf), .int .i64 1, .int .i64 (-1), .slice (some ⟨gg, 0, none⟩) 2 2, (.slice (some ⟨ge, 0, none⟩) 2 2), .slice (some ⟨gd, 0, none⟩) 1 1] := boxOf
            have bR4 : BoxL w8 w.heap.size #[.slice none 0 0, .slice none 0 0, .slice none 0 0, .int .i64 0, .int .i64 0, .slice none 0 0, .slice none 0 0, .slice none 0 0] := boxOf
            have oM4 := bM4.old
            have oR4 := bR4.old
            have neg1 : NeB g w1.heap.size := ⟨ngM⟩
            have neg2 : NeB g w.heap.size := ⟨ngR⟩
            have gtg : Gt p g := ⟨by omega⟩
            have aba : Abv p (blk fs[f].a) := ⟨fun b hb => by have := (hD3.out.inv.lt _ (List.getElem_mem hf2) b hb).1; omega⟩
            have cuY : Cur (w8.setCell ⟨g, f * 3 + 2, none⟩ (.slice ae (fs[f].body.length + 2) ce)) p := inferInstance
            have stY : Fr [p] w (w8.setCell ⟨g, f * 3 + 2, none⟩ (.slice ae (fs[f].body.length + 2) ce)) := (stw.fr.trans frS (fun b hb => by rcases List.mem_cons.1 hb with h | h; exact .inl (by simp [h]); exact .inr (by have := (hD3.out.inv.lt _ (List.getElem_mem hf2) b h).1; omega))).trans (T := [g]) ((Fr.refl [g] _).setCell (.inl (List.mem_singleton_self _)) _) (fun b hb => .inr (by rw [List.mem_singleton.1 hb]; omega))
            go_wp2
            refine bodyPost_ret (v := .agg #[.slice (some ⟨gs, 0, none⟩) 3 3, .slice (some ⟨gi, 0, none⟩) 2 2, (.slice (some ⟨g, 0, none⟩) fs.length cf), .int .i64 1, .int .i64 (-1), .slice (some ⟨gg, 0, none⟩) 2 2, (.slice (some ⟨ge, 0, none⟩) 2 2), .slice (some ⟨gd, 0, none⟩) 1 1]) (by simp [results, Tryd.results10, go_sem]) rfl ?_
            exact ⟨modM (fs.set f y) true 1 expsM dataM, _, rfl, hid ((ModK.fr (S := [w.heap.size]) kY.out (by exact FrX.fr (a := w8.setCell ⟨g, f * 3 + 2, none⟩ (.slice ae (fs[f].body.length + 2) ce))) (by simp)).weak (by omega)), Cur.fr (S := [w.heap.size]) cuY (by exact FrX.fr (a := w8.setCell ⟨g, f * 3 + 2, none⟩ (.slice ae (fs[f].body.length + 2) ce))) (by simp; omega), ⟨Fr.trans (T := [w.heap.size]) stY (by exact FrX.fr (a := w8.setCell ⟨g, f * 3 + 2, none⟩ (.slice ae (fs[f].body.length + 2) ce))) (fun b hb => .inr (Nat.le_of_eq (List.mem_singleton.1 hb).symm))⟩⟩
          · simp only [List.getElem_toArray, List.getElem_cons_succ, List.getElem_cons_zero]
            go_wp2_with fail
            with_reducible refine Calls.mono (sinsC _) ?_
            rintro e w5 ⟨q, hq, rfl, cu5, st5⟩
            go_wp2_with fail
            refine ⟨mkStepX, ?_⟩
            refine rg_eff (i := 13) rfl (by kernel_rfl) ?_
            simp only [List.getElem_toArray, List.getElem_cons_succ, List.getElem_cons_zero]
            obtain ⟨o, ho, hlo⟩ := lit_ex x (by omega)
            go_wp2_with fail
            refine ⟨mkStepX, ?_⟩
            refine rg_read (i := 14) (a1 := _) rfl (by kernel_rfl) rfl (by first | (simp; done) | (simp [Act.put]; done)) (by intro wq hwq; go_wp2; exact ⟨rfl, rfl⟩) mkStepX ?_
            refine rg_eff (i := 17) rfl (by kernel_rfl) ?_
            simp only [List.getElem_toArray, List.getElem_cons_succ, List.getElem_cons_zero]
            go_wp2_with fail
            refine ⟨mkStepX, ?_⟩
            refine rg_eff (i := 18) rfl (by kernel_rfl) ?_
            simp only [List.getElem_toArray, List.getElem_cons_succ, List.getElem_cons_zero]
            go_wp2_with (at_builtin; go_must (refine app_o _ rfl (.tmp 93) (.tmp 102) 37 rfl 50 (.agg #[.int .i64 0, .int .i64 0, .int .i64 0]) 3 24 Tryd.inss_tab B fs[f].a fs[f].body.length fs[f].cap (fs[f].body.flatMap insVs) rfl (rowW.out _ inferInstance) _ 2 2 (([⟨o, 0, 0⟩, q] : List InsD).flatMap insVs) rfl (view_litZ _ _ _ _ _ _ rfl (by simp)) (insVs_allD _) (by decide) (by omega) (Nat.le_trans hBw (FrX.fr (S := [p]) (a := w3)).size) ?_); intro ae ce w8 row8 fr8)
            have sx8 : StepX (blk fs[f].a) _ w8 := ⟨fr8⟩
            refine ⟨mkStepX, ?_⟩
            refine rg_read (i := 19) (a1 := _) rfl (by kernel_rfl) rfl (by first | (simp; done) | (simp [Act.put]; done)) (by intro wq hwq; go_wp2; exact ⟨rfl, rfl⟩) mkStepX ?_
            refine rg_read (i := 20) (a1 := _) rfl (by kernel_rfl) rfl (by first | (simp; done) | (simp [Act.put]; done)) (by intro wq hwq; go_wp2; exact ⟨rfl, rfl⟩) mkStepX ?_
            refine rg_eff (i := 21) rfl (by kernel_rfl) ?_
            simp only [List.getElem_toArray, List.getElem_cons_succ, List.getElem_cons_zero]
            go_wp2_with fail
            refine ⟨mkStepX, ?_⟩
            refine rg_done (by kernel_rfl) ?_
            have frS : Fr (p :: blk fs[f].a) w3 w8 := FrX.fr (S := p :: blk fs[f].a) (a := w3)
            have hyl : (fs[f].body ++ [⟨o, 0, 0⟩, q]).length = fs[f].body.length + 2 := by simp
            obtain ⟨y, hy⟩ : ∃ y : FB, y = ⟨fs[f].sig, fs[f].loc, ae, ce, fs[f].body ++ [⟨o, 0, 0⟩, q]⟩ := ⟨_, rfl⟩
            have hyB : BodyO w8 B 70000 y := by
              rw [hy]
              refine ⟨by simp only [hyl, List.flatMap_append]; exact row8, by simp only [hyl]; omega, fun i hi => ?_, hB3.out.sg, hB3.out.lo⟩
              rcases List.mem_append.1 hi with h | h
              · exact hB3.out.in3 i h
              · simp only [List.mem_cons, List.not_mem_nil, or_false] at h
                rcases h with rfl | rfl
                · exact ⟨ho, in64_lit, in64_lit⟩
                · exact hq
            have kY := hD3.out.modK_a (k := f) (y := y) hmq hf2 frS hsS.out hyB (Nat.le_refl _) (by rw [hy]; exact row_other row8 (own3g.out _ frS) (by decide)) (by rw [hy]; exact ⟨rfl, rfl⟩)
            have ey : (.slice y.a y.body.length y.cap : Value) = .slice ae (fs[f].body.length + 2) ce := by rw [hy]; simp only [hyl]
            rw [ey] at kY
            replace kY := hid kY
            clear hyB hy ey hyl
            have bM4 : BoxL w8 w1.heap.size #[.slice (some ⟨gs, 0, none⟩) 3 3, .slice (some ⟨gi, 0, none⟩) 2 2, (.slice (some ⟨g, 0, none⟩) fs.length cf), .int .i64 1, .int .i64 (-1), .slice (some ⟨gg, 0, none⟩) 2 2, (.slice (some ⟨ge, 0, none⟩) 2 2), .slice (some ⟨gd, 0, none⟩) 1 1] := boxOf
            have bR4 : BoxL w8 w.heap.size #[.slice none 0 0, .slice none 0 0, .slice none 0 0, .int .i64 0, .int .i64 0, .slice none 0 0, .slice none 0 0, .slice none 0 0] := boxOf
            have oM4 := bM4.old
            have oR4 := bR4.old
            have neg1 : NeB g w1.heap.size := ⟨ngM⟩
            have neg2 : NeB g w.heap.size := ⟨ngR⟩
            have gtg : Gt p g := ⟨by omega⟩
            have aba : Abv p (blk fs[f].a) := ⟨fun b hb => by have := (hD3.out.inv.lt _ (List.getElem_mem hf2) b hb).1; omega⟩
            have cuY : Cur (w8.setCell ⟨g, f * 3 + 2, none⟩ (.slice ae (fs[f].body.length + 2) ce)) p := inferInstance
            have stY : Fr [p] w (w8.setCell ⟨g, f * 3 + 2, none⟩ (.slice ae (fs[f].body.length + 2) ce)) := (stw.fr.trans frS (fun b hb => by rcases List.mem_cons.1 hb with h | h; exact .inl (by simp [h]); exact .inr (by have := (hD3.out.inv.lt _ (List.getElem_mem hf2) b h).1; omega))).trans (T := [g]) ((Fr.refl [g] _).setCell (.inl (List.mem_singleton_self _)) _) (fun b hb => .inr (by rw [List.mem_singleton.1 hb]; omega))
            go_wp2
            refine bodyPost_ret (v := .agg #[.slice (some ⟨gs, 0, none⟩) 3 3, .slice (some ⟨gi, 0, none⟩) 2 2, (.slice (some ⟨g, 0, none⟩) fs.length cf), .int .i64 1, .int .i64 (-1), .slice (some ⟨gg, 0, none⟩) 2 2, (.slice (some ⟨ge, 0, none⟩) 2 2), .slice (some ⟨gd, 0, none⟩) 1 1]) (by simp [results, Tryd.results10, go_sem]) rfl ?_
            exact ⟨modM (fs.set f y) true 1 expsM dataM, _, rfl, hid ((ModK.fr (S := [w.heap.size]) kY.out (by exact FrX.fr (a := w8.setCell ⟨g, f * 3 + 2, none⟩ (.slice ae (fs[f].body.length + 2) ce))) (by simp)).weak (by omega)), Cur.fr (S := [w.heap.size]) cuY (by exact FrX.fr (a := w8.setCell ⟨g, f * 3 + 2, none⟩ (.slice ae (fs[f].body.length + 2) ce))) (by simp; omega), ⟨Fr.trans (T := [w.heap.size]) stY (by exact FrX.fr (a := w8.setCell ⟨g, f * 3 + 2, none⟩ (.slice ae (fs[f].body.length + 2) ce))) (fun b hb => .inr (Nat.le_of_eq (List.mem_singleton.1 hb).symm))⟩⟩
        · simp only [List.getElem_toArray, List.getElem_cons_succ, List.getElem_cons_zero]
          obtain ⟨o, ho, hlo⟩ := lit_ex x (by omega)
          go_wp2_with fail
          refine ⟨mkStepX, ?_⟩
          refine rg_read (i := 14) (a1 := _) rfl (by kernel_rfl) rfl (by first | (simp; done) | (simp [Act.put]; done)) (by intro wq hwq; go_wp2; exact ⟨rfl, rfl⟩) mkStepX ?_
          refine rg_two (i := 8) (j := 16) rfl rfl (by kernel_rfl) ?_ ?_
          · simp only [List.getElem_toArray, List.getElem_cons_succ, List.getElem_cons_zero]
            go_wp2_with fail
            refine ⟨mkStepX, ?_⟩
            refine rg_eff (i := 16) rfl (by kernel_rfl) ?_
            simp only [List.getElem_toArray, List.getElem_cons_succ, List.getElem_cons_zero]
            go_wp2_with fail
            with_reducible refine Calls.mono (sinsC _) ?_
            rintro e w5 ⟨q, hq, rfl, cu5, st5⟩
            go_wp2_with fail
            refine ⟨mkStepX, ?_⟩
            refine rg_eff (i := 17) rfl (by kernel_rfl) ?_
            simp only [List.getElem_toArray, List.getElem_cons_succ, List.getElem_cons_zero]
            go_wp2_with fail
            refine ⟨mkStepX, ?_⟩
            refine rg_eff (i := 18) rfl (by kernel_rfl) ?_
            simp only [List.getElem_toArray, List.getElem_cons_succ, List.getElem_cons_zero]
            go_wp2_with (at_builtin; go_must (refine app_o _ rfl (.tmp 93) (.tmp 102) 37 rfl 50 (.agg #[.int .i64 0, .int .i64 0, .int .i64 0]) 3 24 Tryd.inss_tab B fs[f].a fs[f].body.length fs[f].cap (fs[f].body.flatMap insVs) rfl (rowW.out _ inferInstance) _ 2 2 (([⟨o, 0, 0⟩, q] : List InsD).flatMap insVs) rfl (view_litZ _ _ _ _ _ _ rfl (by simp)) (insVs_allD _) (by decide) (by omega) (Nat.le_trans hBw (FrX.fr (S := [p]) (a := w3)).size) ?_); intro ae ce w8 row8 fr8)
            have sx8 : StepX (blk fs[f].a) _ w8 := ⟨fr8⟩
            refine ⟨mkStepX, ?_⟩
            refine rg_read (i := 19) (a1 := _) rfl (by kernel_rfl) rfl (by first | (simp; done) | (simp [Act.put]; done)) (by intro wq hwq; go_wp2; exact ⟨rfl, rfl⟩) mkStepX ?_
            refine rg_read (i := 20) (a1 := _) rfl (by kernel_rfl) rfl (by first | (simp; done) | (simp [Act.put]; done)) (by intro wq hwq; go_wp2; exact ⟨rfl, rfl⟩) mkStepX ?_
            refine rg_eff (i := 21) rfl (by kernel_rfl) ?_
            simp only [List.getElem_toArray, List.getElem_cons_succ, List.getElem_cons_zero]
            go_wp2_with fail
            refine ⟨mkStepX, ?_⟩
            refine rg_done (by kernel_rfl) ?_
            have frS : Fr (p :: blk fs[f].a) w3 w8 := FrX.fr (S := p :: blk fs[f].a) (a := w3)
            have hyl : (fs[f].body ++ [⟨o, 0, 0⟩, q]).length = fs[f].body.length + 2 := by simp
            obtain ⟨y, hy⟩ : ∃ y : FB, y = ⟨fs[f].sig, fs[f].loc, ae, ce, fs[f].body ++ [⟨o, 0, 0⟩, q]⟩ := ⟨_, rfl⟩
            have hyB : BodyO w8 B 70000 y := by
              rw [hy]
              refine ⟨by simp only [hyl, List.flatMap_append]; exact row8, by simp only [hyl]; omega, fun i hi => ?_, hB3.out.sg, hB3.out.lo⟩
              rcases List.mem_append.1 hi with h | h
              · exact hB3.out.in3 i h
              · simp only [List.mem_cons, List.not_mem_nil, or_false] at h
                rcases h with rfl | rfl
                · exact ⟨ho, in64_lit, in64_lit⟩
                · exact hq
            have kY := hD3.out.modK_a (k := f) (y := y) hmq hf2 frS hsS.out hyB (Nat.le_refl _) (by rw [hy]; exact row_other row8 (own3g.out _ frS) (by decide)) (by rw [hy]; exact ⟨rfl, rfl⟩)
            have ey : (.slice y.a y.body.length y.cap : Value) = .slice ae (fs[f].body.length + 2) ce := by rw [hy]; simp only [hyl]
            rw [ey] at kY
            replace kY := hid kY
            clear hyB hy ey hyl
            have bM4 : BoxL w8 w1.heap.size #[.slice (some ⟨gs, 0, none⟩) 3 3, .slice (some ⟨gi, 0, none⟩) 2 2, (.slice (some ⟨g, 0, none⟩) fs.length cf), .int .i64 1, .int .i64 (-1), .slice (some ⟨gg, 0, none⟩) 2 2, (.slice (some ⟨ge, 0, none⟩) 2 2), .slice (some ⟨gd, 0, none⟩) 1 1] := boxOf
            have bR4 : BoxL w8 w.heap.size #[.slice none 0 0, .slice none 0 0, .slice none 0 0, .int .i64 0, .int .i64 0, .slice none 0 0, .slice none 0 0, .slice none 0 0] := boxOf
            have oM4 := bM4.old
            have oR4 := bR4.old
            have neg1 : NeB g w1.heap.size := ⟨ngM⟩
            have neg2 : NeB g w.heap.size := ⟨ngR⟩
            have gtg : Gt p g := ⟨by omega⟩
            have aba : Abv p (blk fs[f].a) := ⟨fun b hb => by have := (hD3.out.inv.lt _ (List.getElem_mem hf2) b hb).1; omega⟩
            have cuY : Cur (w8.setCell ⟨g, f * 3 + 2, none⟩ (.slice ae (fs[f].body.length + 2) ce)) p := inferInstance
            have stY : Fr [p] w (w8.setCell ⟨g, f * 3 + 2, none⟩ (.slice ae (fs[f].body.length + 2) ce)) := (stw.fr.trans frS (fun b hb => by rcases List.mem_cons.1 hb with h | h; exact .inl (by simp [h]); exact .inr (by have := (hD3.out.inv.lt _ (List.getElem_mem hf2) b h).1; omega))).trans (T := [g]) ((Fr.refl [g] _).setCell (.inl (List.mem_singleton_self _)) _) (fun b hb => .inr (by rw [List.mem_singleton.1 hb]; omega))
            go_wp2
            refine bodyPost_ret (v := .agg #[.slice (some ⟨gs, 0, none⟩) 3 3, .slice (some ⟨gi, 0, none⟩) 2 2, (.slice (some ⟨g, 0, none⟩) fs.length cf), .int .i64 1, .int .i64 (-1), .slice (some ⟨gg, 0, none⟩) 2 2, (.slice (some ⟨ge, 0, none⟩) 2 2), .slice (some ⟨gd, 0, none⟩) 1 1]) (by simp [results, Tryd.results10, go_sem]) rfl ?_
            exact ⟨modM (fs.set f y) true 1 expsM dataM, _, rfl, hid ((ModK.fr (S := [w.heap.size]) kY.out (by exact FrX.fr (a := w8.setCell ⟨g, f * 3 + 2, none⟩ (.slice ae (fs[f].body.length + 2) ce))) (by simp)).weak (by omega)), Cur.fr (S := [w.heap.size]) cuY (by exact FrX.fr (a := w8.setCell ⟨g, f * 3 + 2, none⟩ (.slice ae (fs[f].body.length + 2) ce))) (by simp; omega), ⟨Fr.trans (T := [w.heap.size]) stY (by exact FrX.fr (a := w8.setCell ⟨g, f * 3 + 2, none⟩ (.slice ae (fs[f].body.length + 2) ce))) (fun b hb => .inr (Nat.le_of_eq (List.mem_singleton.1 hb).symm))⟩⟩
          · simp only [List.getElem_toArray, List.getElem_cons_succ, List.getElem_cons_zero]
            go_wp2_with fail
            with_reducible refine Calls.mono (sinsC _) ?_
            rintro e w5 ⟨q, hq, rfl, cu5, st5⟩
            go_wp2_with fail
            refine ⟨mkStepX, ?_⟩
            refine rg_two (i := 8) (j := 17) rfl rfl (by kernel_rfl) ?_ ?_
            · simp only [List.getElem_toArray, List.getElem_cons_succ, List.getElem_cons_zero]
              go_wp2_with fail
              refine ⟨mkStepX, ?_⟩
              refine rg_eff (i := 17) rfl (by kernel_rfl) ?_
              simp only [List.getElem_toArray, List.getElem_cons_succ, List.getElem_cons_zero]
              go_wp2_with fail
              refine ⟨mkStepX, ?_⟩
              refine rg_eff (i := 18) rfl (by kernel_rfl) ?_
              simp only [List.getElem_toArray, List.getElem_cons_succ, List.getElem_cons_zero]
              go_wp2_with (at_builtin; go_must (refine app_o _ rfl (.tmp 93) (.tmp 102) 37 rfl 50 (.agg #[.int .i64 0, .int .i64 0, .int .i64 0]) 3 24 Tryd.inss_tab B fs[f].a fs[f].body.length fs[f].cap (fs[f].body.flatMap insVs) rfl (rowW.out _ inferInstance) _ 2 2 (([⟨o, 0, 0⟩, q] : List InsD).flatMap insVs) rfl (view_litZ _ _ _ _ _ _ rfl (by simp)) (insVs_allD _) (by decide) (by omega) (Nat.le_trans hBw (FrX.fr (S := [p]) (a := w3)).size) ?_); intro ae ce w8 row8 fr8)
              have sx8 : StepX (blk fs[f].a) _ w8 := ⟨fr8⟩
              refine ⟨mkStepX, ?_⟩
              refine rg_read (i := 19) (a1 := _) rfl (by kernel_rfl) rfl (by first | (simp; done) | (simp [Act.put]; done)) (by intro wq hwq; go_wp2; exact ⟨rfl, rfl⟩) mkStepX ?_
              refine rg_read (i := 20) (a1 := _) rfl (by kernel_rfl) rfl (by first | (simp; done) | (simp [Act.put]; done)) (by intro wq hwq; go_wp2; exact ⟨rfl, rfl⟩) mkStepX ?_
              refine rg_eff (i := 21) rfl (by kernel_rfl) ?_
              simp only [List.getElem_toArray, List.getElem_cons_succ, List.getElem_cons_zero]
              go_wp2_with fail
              refine ⟨mkStepX, ?_⟩
              refine rg_done (by kernel_rfl) ?_
              have frS : Fr (p :: blk fs[f].a) w3 w8 := FrX.fr (S := p :: blk fs[f].a) (a := w3)
              have hyl : (fs[f].body ++ [⟨o, 0, 0⟩, q]).length = fs[f].body.length + 2 := by simp
              obtain ⟨y, hy⟩ : ∃ y : FB, y = ⟨fs[f].sig, fs[f].loc, ae, ce, fs[f].body ++ [⟨o, 0, 0⟩, q]⟩ := ⟨_, rfl⟩
              have hyB : BodyO w8 B 70000 y := by
                rw [hy]
                refine ⟨by simp only [hyl, List.flatMap_append]; exact row8, by simp only [hyl]; omega, fun i hi => ?_, hB3.out.sg, hB3.out.lo⟩
                rcases List.mem_append.1 hi with h | h
                · exact hB3.out.in3 i h
                · simp only [List.mem_cons, List.not_mem_nil, or_false] at h
                  rcases h with rfl | rfl
                  · exact ⟨ho, in64_lit, in64_lit⟩
                  · exact hq
              have kY := hD3.out.modK_a (k := f) (y := y) hmq hf2 frS hsS.out hyB (Nat.le_refl _) (by rw [hy]; exact row_other row8 (own3g.out _ frS) (by decide)) (by rw [hy]; exact ⟨rfl, rfl⟩)
              have ey : (.slice y.a y.body.length y.cap : Value) = .slice ae (fs[f].body.length + 2) ce := by rw [hy]; simp only [hyl]
              rw [ey] at kY
              replace kY := hid kY
              clear hyB hy ey hyl
              have bM4 : BoxL w8 w1.heap.size #[.slice (some ⟨gs, 0, none⟩) 3 3, .slice (some ⟨gi, 0, none⟩) 2 2, (.slice (some ⟨g, 0, none⟩) fs.length cf), .int .i64 1, .int .i64 (-1), .slice (some ⟨gg, 0, none⟩) 2 2, (.slice (some ⟨ge, 0, none⟩) 2 2), .slice (some ⟨gd, 0, none⟩) 1 1] := boxOf
              have bR4 : BoxL w8 w.heap.size #[.slice none 0 0, .slice none 0 0, .slice none 0 0, .int .i64 0, .int .i64 0, .slice none 0 0, .slice none 0 0, .slice none 0 0] := boxOf
              have oM4 := bM4.old
              have oR4 := bR4.old
              have neg1 : NeB g w1.heap.size := ⟨ngM⟩
              have neg2 : NeB g w.heap.size := ⟨ngR⟩
              have gtg : Gt p g := ⟨by omega⟩
              have aba : Abv p (blk fs[f].a) := ⟨fun b hb => by have := (hD3.out.inv.lt _ (List.getElem_mem hf2) b hb).1; omega⟩
              have cuY : Cur (w8.setCell ⟨g, f * 3 + 2, none⟩ (.slice ae (fs[f].body.length + 2) ce)) p := inferInstance
              have stY : Fr [p] w (w8.setCell ⟨g, f * 3 + 2, none⟩ (.slice ae (fs[f].body.length + 2) ce)) := (stw.fr.trans frS (fun b hb => by rcases List.mem_cons.1 hb with h | h; exact .inl (by simp [h]); exact .inr (by have := (hD3.out.inv.lt _ (List.getElem_mem hf2) b h).1; omega))).trans (T := [g]) ((Fr.refl [g] _).setCell (.inl (List.mem_singleton_self _)) _) (fun b hb => .inr (by rw [List.mem_singleton.1 hb]; omega))
              go_wp2
              refine bodyPost_ret (v := .agg #[.slice (some ⟨gs, 0, none⟩) 3 3, .slice (some ⟨gi, 0, none⟩) 2 2, (.slice (some ⟨g, 0, none⟩) fs.length cf), .int .i64 1, .int .i64 (-1), .slice (some ⟨gg, 0, none⟩) 2 2, (.slice (some ⟨ge, 0, none⟩) 2 2), .slice (some ⟨gd, 0, none⟩) 1 1]) (by simp [results, Tryd.results10, go_sem]) rfl ?_
              exact ⟨modM (fs.set f y) true 1 expsM dataM, _, rfl, hid ((ModK.fr (S := [w.heap.size]) kY.out (by exact FrX.fr (a := w8.setCell ⟨g, f * 3 + 2, none⟩ (.slice ae (fs[f].body.length + 2) ce))) (by simp)).weak (by omega)), Cur.fr (S := [w.heap.size]) cuY (by exact FrX.fr (a := w8.setCell ⟨g, f * 3 + 2, none⟩ (.slice ae (fs[f].body.length + 2) ce))) (by simp; omega), ⟨Fr.trans (T := [w.heap.size]) stY (by exact FrX.fr (a := w8.setCell ⟨g, f * 3 + 2, none⟩ (.slice ae (fs[f].body.length + 2) ce))) (fun b hb => .inr (Nat.le_of_eq (List.mem_singleton.1 hb).symm))⟩⟩
            · simp only [List.getElem_toArray, List.getElem_cons_succ, List.getElem_cons_zero]
              go_wp2_with fail
              refine ⟨mkStepX, ?_⟩
              refine rg_eff (i := 8) rfl (by kernel_rfl) ?_
              simp only [List.getElem_toArray, List.getElem_cons_succ, List.getElem_cons_zero]
              go_wp2_with fail
              refine ⟨mkStepX, ?_⟩
              refine rg_eff (i := 18) rfl (by kernel_rfl) ?_
              simp only [List.getElem_toArray, List.getElem_cons_succ, List.getElem_cons_zero]
              go_wp2_with (at_builtin; go_must (refine app_o _ rfl (.tmp 93) (.tmp 102) 37 rfl 50 (.agg #[.int .i64 0, .int .i64 0, .int .i64 0]) 3 24 Tryd.inss_tab B fs[f].a fs[f].body.length fs[f].cap (fs[f].body.flatMap insVs) rfl (rowW.out _ inferInstance) _ 2 2 (([⟨o, 0, 0⟩, q] : List InsD).flatMap insVs) rfl (view_litZ _ _ _ _ _ _ rfl (by simp)) (insVs_allD _) (by decide) (by omega) (Nat.le_trans hBw (FrX.fr (S := [p]) (a := w3)).size) ?_); intro ae ce w8 row8 fr8)
              have sx8 : StepX (blk fs[f].a) _ w8 := ⟨fr8⟩
              refine ⟨mkStepX, ?_⟩
              refine rg_read (i := 19) (a1 := _) rfl (by kernel_rfl) rfl (by first | (simp; done) | (simp [Act.put]; done)) (by intro wq hwq; go_wp2; exact ⟨rfl, rfl⟩) mkStepX ?_
              refine rg_read (i := 20) (a1 := _) rfl (by kernel_rfl) rfl (by first | (simp; done) | (simp [Act.put]; done)) (by intro wq hwq; go_wp2; exact ⟨rfl, rfl⟩) mkStepX ?_
              refine rg_eff (i := 21) rfl (by kernel_rfl) ?_
              simp only [List.getElem_toArray, List.getElem_cons_succ, List.getElem_cons_zero]
              go_wp2_with fail
              refine ⟨mkStepX, ?_⟩
              refine rg_done (by kernel_rfl) ?_
              have frS : Fr (p :: blk fs[f].a) w3 w8 := FrX.fr (S := p :: blk fs[f].a) (a := w3)
              have hyl : (fs[f].body ++ [⟨o, 0, 0⟩, q]).length = fs[f].body.length + 2 := by simp
              obtain ⟨y, hy⟩ : ∃ y : FB, y = ⟨fs[f].sig, fs[f].loc, ae, ce, fs[f].body ++ [⟨o, 0, 0⟩, q]⟩ := ⟨_, rfl⟩
              have hyB : BodyO w8 B 70000 y := by
                rw [hy]
                refine ⟨by simp only [hyl, List.flatMap_append]; exact row8, by simp only [hyl]; omega, fun i hi => ?_, hB3.out.sg, hB3.out.lo⟩
                rcases List.mem_append.1 hi with h | h
                · exact hB3.out.in3 i h
                · simp only [List.mem_cons, List.not_mem_nil, or_false] at h
                  rcases h with rfl | rfl
                  · exact ⟨ho, in64_lit, in64_lit⟩
                  · exact hq
              have kY := hD3.out.modK_a (k := f) (y := y) hmq hf2 frS hsS.out hyB (Nat.le_refl _) (by rw [hy]; exact row_other row8 (own3g.out _ frS) (by decide)) (by rw [hy]; exact ⟨rfl, rfl⟩)
              have ey : (.slice y.a y.body.length y.cap : Value) = .slice ae (fs[f].body.length + 2) ce := by rw [hy]; simp only [hyl]
              rw [ey] at kY
              replace kY := hid kY
              clear hyB hy ey hyl
              have bM4 : BoxL w8 w1.heap.size #[.slice (some ⟨gs, 0, none⟩) 3 3, .slice (some ⟨gi, 0, none⟩) 2 2, (.slice (some ⟨g, 0, none⟩) fs.length cf), .int .i64 1, .int .i64 (-1), .slice (some ⟨gg, 0, none⟩) 2 2, (.slice (some ⟨ge, 0, none⟩) 2 2), .slice (some ⟨gd, 0, none⟩) 1 1] := boxOf
              have bR4 : BoxL w8 w.heap.size #[.slice none 0 0, .slice none 0 0, .slice none 0 0, .int .i64 0, .int .i64 0, .slice none 0 0, .slice none 0 0, .slice none 0 0] := boxOf
              have oM4 := bM4.old
              have oR4 := bR4.old
              have neg1 : NeB g w1.heap.size := ⟨ngM⟩
              have neg2 : NeB g w.heap.size := ⟨ngR⟩
              have gtg : Gt p g := ⟨by omega⟩
              have aba : Abv p (blk fs[f].a) := ⟨fun b hb => by have := (hD3.out.inv.lt _ (List.getElem_mem hf2) b hb).1; omega⟩
              have cuY : Cur (w8.setCell ⟨g, f * 3 + 2, none⟩ (.slice ae (fs[f].body.length + 2) ce)) p := inferInstance
              have stY : Fr [p] w (w8.setCell ⟨g, f * 3 + 2, none⟩ (.slice ae (fs[f].body.length + 2) ce)) := (stw.fr.trans frS (fun b hb => by rcases List.mem_cons.1 hb with h | h; exact .inl (by simp [h]); exact .inr (by have := (hD3.out.inv.lt _ (List.getElem_mem hf2) b h).1; omega))).trans (T := [g]) ((Fr.refl [g] _).setCell (.inl (List.mem_singleton_self _)) _) (fun b hb => .inr (by rw [List.mem_singleton.1 hb]; omega))
              go_wp2
              refine bodyPost_ret (v := .agg #[.slice (some ⟨gs, 0, none⟩) 3 3, .slice (some ⟨gi, 0, none⟩) 2 2, (.slice (some ⟨g, 0, none⟩) fs.length cf), .int .i64 1, .int .i64 (-1), .slice (some ⟨gg, 0, none⟩) 2 2, (.slice (some ⟨ge, 0, none⟩) 2 2), .slice (some ⟨gd, 0, none⟩) 1 1]) (by simp [results, Tryd.results10, go_sem]) rfl ?_
              exact ⟨modM (fs.set f y) true 1 expsM dataM, _, rfl, hid ((ModK.fr (S := [w.heap.size]) kY.out (by exact FrX.fr (a := w8.setCell ⟨g, f * 3 + 2, none⟩ (.slice ae (fs[f].body.length + 2) ce))) (by simp)).weak (by omega)), Cur.fr (S := [w.heap.size]) cuY (by exact FrX.fr (a := w8.setCell ⟨g, f * 3 + 2, none⟩ (.slice ae (fs[f].body.length + 2) ce))) (by simp; omega), ⟨Fr.trans (T := [w.heap.size]) stY (by exact FrX.fr (a := w8.setCell ⟨g, f * 3 + 2, none⟩ (.slice ae (fs[f].body.length + 2) ce))) (fun b hb => .inr (Nat.le_of_eq (List.mem_singleton.1 hb).symm))⟩⟩
        · simp only [List.getElem_toArray, List.getElem_cons_succ, List.getElem_cons_zero]
          go_wp2_with fail
          with_reducible refine Calls.mono (sinsC _) ?_
          rintro e w5 ⟨q, hq, rfl, cu5, st5⟩
          go_wp2_with fail
          refine ⟨mkStepX, ?_⟩
          refine rg_two (i := 8) (j := 13) rfl rfl (by kernel_rfl) ?_ ?_
          · simp only [List.getElem_toArray, List.getElem_cons_succ, List.getElem_cons_zero]
            go_wp2_with fail
            refine ⟨mkStepX, ?_⟩
            refine rg_eff (i := 13) rfl (by kernel_rfl) ?_
            simp only [List.getElem_toArray, List.getElem_cons_succ, List.getElem_cons_zero]
            obtain ⟨o, ho, hlo⟩ := lit_ex x (by omega)
            go_wp2_with fail
            refine ⟨mkStepX, ?_⟩
            refine rg_read (i := 14) (a1 := _) rfl (by kernel_rfl) rfl (by first | (simp; done) | (simp [Act.put]; done)) (by intro wq hwq; go_wp2; exact ⟨rfl, rfl⟩) mkStepX ?_
            refine rg_eff (i := 17) rfl (by kernel_rfl) ?_
            simp only [List.getElem_toArray, List.getElem_cons_succ, List.getElem_cons_zero]
            go_wp2_with fail
            refine ⟨mkStepX, ?_⟩
            refine rg_eff (i := 18) rfl (by kernel_rfl) ?_
            simp only [List.getElem_toArray, List.getElem_cons_succ, List.getElem_cons_zero]
            go_wp2_with (at_builtin; go_must (refine app_o _ rfl (.tmp 93) (.tmp 102) 37 rfl 50 (.agg #[.int .i64 0, .int .i64 0, .int .i64 0]) 3 24 Tryd.inss_tab B fs[f].a fs[f].body.length fs[f].cap (fs[f].body.flatMap insVs) rfl (rowW.out _ inferInstance) _ 2 2 (([⟨o, 0, 0⟩, q] : List InsD).flatMap insVs) rfl (view_litZ _ _ _ _ _ _ rfl (by simp)) (insVs_allD _) (by decide) (by omega) (Nat.le_trans hBw (FrX.fr (S := [p]) (a := w3)).size) ?_); intro ae ce w8 row8 fr8)
            have sx8 : StepX (blk fs[f].a) _ w8 := ⟨fr8⟩
            refine ⟨mkStepX, ?_⟩
            refine rg_read (i := 19) (a1 := _) rfl (by kernel_rfl) rfl (by first | (simp; done) | (simp [Act.put]; done)) (by intro wq hwq; go_wp2; exact ⟨rfl, rfl⟩) mkStepX ?_
            refine rg_read (i := 20) (a1 := _) rfl (by kernel_rfl) rfl (by first | (simp; done) | (simp [Act.put]; done)) (by intro wq hwq; go_wp2; exact ⟨rfl, rfl⟩) mkStepX ?_
            refine rg_eff (i := 21) rfl (by kernel_rfl) ?_
            simp only [List.getElem_toArray, List.getElem_cons_succ, List.getElem_cons_zero]
            go_wp2_with fail
            refine ⟨mkStepX, ?_⟩
            refine rg_done (by kernel_rfl) ?_
            have frS : Fr (p :: blk fs[f].a) w3 w8 := FrX.fr (S := p :: blk fs[f].a) (a := w3)
            have hyl : (fs[f].body ++ [⟨o, 0, 0⟩, q]).length = fs[f].body.length + 2 := by simp
            obtain ⟨y, hy⟩ : ∃ y : FB, y = ⟨fs[f].sig, fs[f].loc, ae, ce, fs[f].body ++ [⟨o, 0, 0⟩, q]⟩ := ⟨_, rfl⟩
            have hyB : BodyO w8 B 70000 y := by
              rw [hy]
              refine ⟨by simp only [hyl, List.flatMap_append]; exact row8, by simp only [hyl]; omega, fun i hi => ?_, hB3.out.sg, hB3.out.lo⟩
              rcases List.mem_append.1 hi with h | h
              · exact hB3.out.in3 i h
              · simp only [List.mem_cons, List.not_mem_nil, or_false] at h
                rcases h with rfl | rfl
                · exact ⟨ho, in64_lit, in64_lit⟩
                · exact hq
            have kY := hD3.out.modK_a (k := f) (y := y) hmq hf2 frS hsS.out hyB (Nat.le_refl _) (by rw [hy]; exact row_other row8 (own3g.out _ frS) (by decide)) (by rw [hy]; exact ⟨rfl, rfl⟩)
            have ey : (.slice y.a y.body.length y.cap : Value) = .slice ae (fs[f].body.length + 2) ce := by rw [hy]; simp only [hyl]
            rw [ey] at kY
            replace kY := hid kY
            clear hyB hy ey hyl
            have bM4 : BoxL w8 w1.heap.size #[.slice (some ⟨gs, 0, none⟩) 3 3, .slice (some ⟨gi, 0, none⟩) 2 2, (.slice (some ⟨g, 0, none⟩) fs.length cf), .int .i64 1, .int .i64 (-1), .slice (some ⟨gg, 0, none⟩) 2 2, (.slice (some ⟨ge, 0, none⟩) 2 2), .slice (some ⟨gd, 0, none⟩) 1 1] := boxOf
            have bR4 : BoxL w8 w.heap.size #[.slice none 0 0, .slice none 0 0, .slice none 0 0, .int .i64 0, .int .i64 0, .slice none 0 0, .slice none 0 0, .slice none 0 0] := boxOf
            have oM4 := bM4.old
            have oR4 := bR4.old
            have neg1 : NeB g w1.heap.size := ⟨ngM⟩
            have neg2 : NeB g w.heap.size := ⟨ngR⟩
            have gtg : Gt p g := ⟨by omega⟩
            have aba : Abv p (blk fs[f].a) := ⟨fun b hb => by have := (hD3.out.inv.lt _ (List.getElem_mem hf2) b hb).1; omega⟩
            have cuY : Cur (w8.setCell ⟨g, f * 3 + 2, none⟩ (.slice ae (fs[f].body.length + 2) ce)) p := inferInstance
            have stY : Fr [p] w (w8.setCell ⟨g, f * 3 + 2, none⟩ (.slice ae (fs[f].body.length + 2) ce)) := (stw.fr.trans frS (fun b hb => by rcases List.mem_cons.1 hb with h | h; exact .inl (by simp [h]); exact .inr (by have := (hD3.out.inv.lt _ (List.getElem_mem hf2) b h).1; omega))).trans (T := [g]) ((Fr.refl [g] _).setCell (.inl (List.mem_singleton_self _)) _) (fun b hb => .inr (by rw [List.mem_singleton.1 hb]; omega))
            go_wp2
            refine bodyPost_ret (v := .agg #[.slice (some ⟨gs, 0, none⟩) 3 3, .slice (some ⟨gi, 0, none⟩) 2 2, (.slice (some ⟨g, 0, none⟩) fs.length cf), .int .i64 1, .int .i64 (-1), .slice (some ⟨gg, 0, none⟩) 2 2, (.slice (some ⟨ge, 0, none⟩) 2 2), .slice (some ⟨gd, 0, none⟩) 1 1]) (by simp [results, Tryd.results10, go_sem]) rfl ?_
            exact ⟨modM (fs.set f y) true 1 expsM dataM, _, rfl, hid ((ModK.fr (S := [w.heap.size]) kY.out (by exact FrX.fr (a := w8.setCell ⟨g, f * 3 + 2, none⟩ (.slice ae (fs[f].body.length + 2) ce))) (by simp)).weak (by omega)), Cur.fr (S := [w.heap.size]) cuY (by exact FrX.fr (a := w8.setCell ⟨g, f * 3 + 2, none⟩ (.slice ae (fs[f].body.length + 2) ce))) (by simp; omega), ⟨Fr.trans (T := [w.heap.size]) stY (by exact FrX.fr (a := w8.setCell ⟨g, f * 3 + 2, none⟩ (.slice ae (fs[f].body.length + 2) ce))) (fun b hb => .inr (Nat.le_of_eq (List.mem_singleton.1 hb).symm))⟩⟩
          · simp only [List.getElem_toArray, List.getElem_cons_succ, List.getElem_cons_zero]
            obtain ⟨o, ho, hlo⟩ := lit_ex x (by omega)
            go_wp2_with fail
            refine ⟨mkStepX, ?_⟩
            refine rg_read (i := 14) (a1 := _) rfl (by kernel_rfl) rfl (by first | (simp; done) | (simp [Act.put]; done)) (by intro wq hwq; go_wp2; exact ⟨rfl, rfl⟩) mkStepX ?_
            refine rg_two (i := 8) (j := 17) rfl rfl (by kernel_rfl) ?_ ?_
            · simp only [List.getElem_toArray, List.getElem_cons_succ, List.getElem_cons_zero]
              go_wp2_with fail
              refine ⟨mkStepX, ?_⟩
              refine rg_eff (i := 17) rfl (by kernel_rfl) ?_
              simp only [List.getElem_toArray, List.getElem_cons_succ, List.getElem_cons_zero]
              go_wp2_with fail
              refine ⟨mkStepX, ?_⟩
              refine rg_eff (i := 18) rfl (by kernel_rfl) ?_
              simp only [List.getElem_toArray, List.getElem_cons_succ, List.getElem_cons_zero]
              go_wp2_with (at_builtin; go_must (refine app_o _ rfl (.tmp 93) (.tmp 102) 37 rfl 50 (.agg #[.int .i64 0, .int .i64 0, .int .i64 0]) 3 24 Tryd.inss_tab B fs[f].a fs[f].body.length fs[f].cap (fs[f].body.flatMap insVs) rfl (rowW.out _ inferInstance) _ 2 2 (([⟨o, 0, 0⟩, q] : List InsD).flatMap insVs) rfl (view_litZ _ _ _ _ _ _ rfl (by simp)) (insVs_allD _) (by decide) (by omega) (Nat.le_trans hBw (FrX.fr (S := [p]) (a := w3)).size) ?_); intro ae ce w8 row8 fr8)
              have sx8 : StepX (blk fs[f].a) _ w8 := ⟨fr8⟩
              refine ⟨mkStepX, ?_⟩
              refine rg_read (i := 19) (a1 := _) rfl (by kernel_rfl) rfl (by first | (simp; done) | (simp [Act.put]; done)) (by intro wq hwq; go_wp2; exact ⟨rfl, rfl⟩) mkStepX ?_
              refine rg_read (i := 20) (a1 := _) rfl (by kernel_rfl) rfl (by first | (simp; done) | (simp [Act.put]; done)) (by intro wq hwq; go_wp2; exact ⟨rfl, rfl⟩) mkStepX ?_
              refine rg_eff (i := 21) rfl (by kernel_rfl) ?_
              simp only [List.getElem_toArray, List.getElem_cons_succ, List.getElem_cons_zero]
              go_wp2_with fail
              refine ⟨mkStepX, ?_⟩
              refine rg_done (by kernel_rfl) ?_
              have frS : Fr (p :: blk fs[f].a) w3 w8 := FrX.fr (S := p :: blk fs[f].a) (a := w3)
              have hyl : (fs[f].body ++ [⟨o, 0, 0⟩, q]).length = fs[f].body.length + 2 := by simp
              obtain ⟨y, hy⟩ : ∃ y : FB, y = ⟨fs[f].sig, fs[f].loc, ae, ce, fs[f].body ++ [⟨o, 0, 0⟩, q]⟩ := ⟨_, rfl⟩
              have hyB : BodyO w8 B 70000 y := by
                rw [hy]
                refine ⟨by simp only [hyl, List.flatMap_append]; exact row8, by simp only [hyl]; omega, fun i hi => ?_, hB3.out.sg, hB3.out.lo⟩
                rcases List.mem_append.1 hi with h | h
                · exact hB3.out.in3 i h
                · simp only [List.mem_cons, List.not_mem_nil, or_false] at h
                  rcases h with rfl | rfl
                  · exact ⟨ho, in64_lit, in64_lit⟩
                  · exact hq
              have kY := hD3.out.modK_a (k := f) (y := y) hmq hf2 frS hsS.out hyB (Nat.le_refl _) (by rw [hy]; exact row_other row8 (own3g.out _ frS) (by decide)) (by rw [hy]; exact ⟨rfl, rfl⟩)
              have ey : (.slice y.a y.body.length y.cap : Value) = .slice ae (fs[f].body.length + 2) ce := by rw [hy]; simp only [hyl]
              rw [ey] at kY
              replace kY := hid kY
              clear hyB hy ey hyl
              have bM4 : BoxL w8 w1.heap.size #[.slice (some ⟨gs, 0, none⟩) 3 3, .slice (some ⟨gi, 0, none⟩) 2 2, (.slice (some ⟨g, 0, none⟩) fs.length cf), .int .i64 1, .int .i64 (-1), .slice (some ⟨gg, 0, none⟩) 2 2, (.slice (some ⟨ge, 0, none⟩) 2 2), .slice (some ⟨gd, 0, none⟩) 1 1] := boxOf
              have bR4 : BoxL w8 w.heap.size #[.slice none 0 0, .slice none 0 0, .slice none 0 0, .int .i64 0, .int .i64 0, .slice none 0 0, .slice none 0 0, .slice none 0 0] := boxOf
              have oM4 := bM4.old
              have oR4 := bR4.old
              have neg1 : NeB g w1.heap.size := ⟨ngM⟩
              have neg2 : NeB g w.heap.size := ⟨ngR⟩
              have gtg : Gt p g := ⟨by omega⟩
              have aba : Abv p (blk fs[f].a) := ⟨fun b hb => by have := (hD3.out.inv.lt _ (List.getElem_mem hf2) b hb).1; omega⟩
              have cuY : Cur (w8.setCell ⟨g, f * 3 + 2, none⟩ (.slice ae (fs[f].body.length + 2) ce)) p := inferInstance
              have stY : Fr [p] w (w8.setCell ⟨g, f * 3 + 2, none⟩ (.slice ae (fs[f].body.length + 2) ce)) := (stw.fr.trans frS (fun b hb => by rcases List.mem_cons.1 hb with h | h; exact .inl (by simp [h]); exact .inr (by have := (hD3.out.inv.lt _ (List.getElem_mem hf2) b h).1; omega))).trans (T := [g]) ((Fr.refl [g] _).setCell (.inl (List.mem_singleton_self _)) _) (fun b hb => .inr (by rw [List.mem_singleton.1 hb]; omega))
              go_wp2
              refine bodyPost_ret (v := .agg #[.slice (some ⟨gs, 0, none⟩) 3 3, .slice (some ⟨gi, 0, none⟩) 2 2, (.slice (some ⟨g, 0, none⟩) fs.length cf), .int .i64 1, .int .i64 (-1), .slice (some ⟨gg, 0, none⟩) 2 2, (.slice (some ⟨ge, 0, none⟩) 2 2), .slice (some ⟨gd, 0, none⟩) 1 1]) (by simp [results, Tryd.results10, go_sem]) rfl ?_
              exact ⟨modM (fs.set f y) true 1 expsM dataM, _, rfl, hid ((ModK.fr (S := [w.heap.size]) kY.out (by exact FrX.fr (a := w8.setCell ⟨g, f * 3 + 2, none⟩ (.slice ae (fs[f].body.length + 2) ce))) (by simp)).weak (by omega)), Cur.fr (S := [w.heap.size]) cuY (by exact FrX.fr (a := w8.setCell ⟨g, f * 3 + 2, none⟩ (.slice ae (fs[f].body.length + 2) ce))) (by simp; omega), ⟨Fr.trans (T := [w.heap.size]) stY (by exact FrX.fr (a := w8.setCell ⟨g, f * 3 + 2, none⟩ (.slice ae (fs[f].body.length + 2) ce))) (fun b hb => .inr (Nat.le_of_eq (List.mem_singleton.1 hb).symm))⟩⟩
            · simp only [List.getElem_toArray, List.getElem_cons_succ, List.getElem_cons_zero]
              go_wp2_with fail
              refine ⟨mkStepX, ?_⟩
              refine rg_eff (i := 8) rfl (by kernel_rfl) ?_
              simp only [List.getElem_toArray, List.getElem_cons_succ, List.getElem_cons_zero]
              go_wp2_with fail
              refine ⟨mkStepX, ?_⟩
              refine rg_eff (i := 18) rfl (by kernel_rfl) ?_
              simp only [List.getElem_toArray, List.getElem_cons_succ, List.getElem_cons_zero]
              go_wp2_with (at_builtin; go_must (refine app_o _ rfl (.tmp 93) (.tmp 102) 37 rfl 50 (.agg #[.int .i64 0, .int .i64 0, .int .i64 0]) 3 24 Tryd.inss_tab B fs[f].a fs[f].body.length fs[f].cap (fs[f].body.flatMap insVs) rfl (rowW.out _ inferInstance) _ 2 2 (([⟨o, 0, 0⟩, q] : List InsD).flatMap insVs) rfl (view_litZ _ _ _ _ _ _ rfl (by simp)) (insVs_allD _) (by decide) (by omega) (Nat.le_trans hBw (FrX.fr (S := [p]) (a := w3)).size) ?_); intro ae ce w8 row8 fr8)
              have sx8 : StepX (blk fs[f].a) _ w8 := ⟨fr8⟩
              refine ⟨mkStepX, ?_⟩
              refine rg_read (i := 19) (a1 := _) rfl (by kernel_rfl) rfl (by first | (simp; done) | (simp [Act.put]; done)) (by intro wq hwq; go_wp2; exact ⟨rfl, rfl⟩) mkStepX ?_
              refine rg_read (i := 20) (a1 := _) rfl (by kernel_rfl) rfl (by first | (simp; done) | (simp [Act.put]; done)) (by intro wq hwq; go_wp2; exact ⟨rfl, rfl⟩) mkStepX ?_
              refine rg_eff (i := 21) rfl (by kernel_rfl) ?_
              simp only [List.getElem_toArray, List.getElem_cons_succ, List.getElem_cons_zero]
              go_wp2_with fail
              refine ⟨mkStepX, ?_⟩
              refine rg_done (by kernel_rfl) ?_
              have frS : Fr (p :: blk fs[f].a) w3 w8 := FrX.fr (S := p :: blk fs[f].a) (a := w3)
              have hyl : (fs[f].body ++ [⟨o, 0, 0⟩, q]).length = fs[f].body.length + 2 := by simp
              obtain ⟨y, hy⟩ : ∃ y : FB, y = ⟨fs[f].sig, fs[f].loc, ae, ce, fs[f].body ++ [⟨o, 0, 0⟩, q]⟩ := ⟨_, rfl⟩
              have hyB : BodyO w8 B 70000 y := by
                rw [hy]
                refine ⟨by simp only [hyl, List.flatMap_append]; exact row8, by simp only [hyl]; omega, fun i hi => ?_, hB3.out.sg, hB3.out.lo⟩
                rcases List.mem_append.1 hi with h | h
                · exact hB3.out.in3 i h
                · simp only [List.mem_cons, List.not_mem_nil, or_false] at h
                  rcases h with rfl | rfl
                  · exact ⟨ho, in64_lit, in64_lit⟩
                  · exact hq
              have kY := hD3.out.modK_a (k := f) (y := y) hmq hf2 frS hsS.out hyB (Nat.le_refl _) (by rw [hy]; exact row_other row8 (own3g.out _ frS) (by decide)) (by rw [hy]; exact ⟨rfl, rfl⟩)
              have ey : (.slice y.a y.body.length y.cap : Value) = .slice ae (fs[f].body.length + 2) ce := by rw [hy]; simp only [hyl]
              rw [ey] at kY
              replace kY := hid kY
              clear hyB hy ey hyl
              have bM4 : BoxL w8 w1.heap.size #[.slice (some ⟨gs, 0, none⟩) 3 3, .slice (some ⟨gi, 0, none⟩) 2 2, (.slice (some ⟨g, 0, none⟩) fs.length cf), .int .i64 1, .int .i64 (-1), .slice (some ⟨gg, 0, none⟩) 2 2, (.slice (some ⟨ge, 0, none⟩) 2 2), .slice (some ⟨gd, 0, none⟩) 1 1] := boxOf
              have bR4 : BoxL w8 w.heap.size #[.slice none 0 0, .slice none 0 0, .slice none 0 0, .int .i64 0, .int .i64 0, .slice none 0 0, .slice none 0 0, .slice none 0 0] := boxOf
              have oM4 := bM4.old
              have oR4 := bR4.old
              have neg1 : NeB g w1.heap.size := ⟨ngM⟩
              have neg2 : NeB g w.heap.size := ⟨ngR⟩
              have gtg : Gt p g := ⟨by omega⟩
              have aba : Abv p (blk fs[f].a) := ⟨fun b hb => by have := (hD3.out.inv.lt _ (List.getElem_mem hf2) b hb).1; omega⟩
              have cuY : Cur (w8.setCell ⟨g, f * 3 + 2, none⟩ (.slice ae (fs[f].body.length + 2) ce)) p := inferInstance
              have stY : Fr [p] w (w8.setCell ⟨g, f * 3 + 2, none⟩ (.slice ae (fs[f].body.length + 2) ce)) := (stw.fr.trans frS (fun b hb => by rcases List.mem_cons.1 hb with h | h; exact .inl (by simp [h]); exact .inr (by have := (hD3.out.inv.lt _ (List.getElem_mem hf2) b h).1; omega))).trans (T := [g]) ((Fr.refl [g] _).setCell (.inl (List.mem_singleton_self _)) _) (fun b hb => .inr (by rw [List.mem_singleton.1 hb]; omega))
              go_wp2
              refine bodyPost_ret (v := .agg #[.slice (some ⟨gs, 0, none⟩) 3 3, .slice (some ⟨gi, 0, none⟩) 2 2, (.slice (some ⟨g, 0, none⟩) fs.length cf), .int .i64 1, .int .i64 (-1), .slice (some ⟨gg, 0, none⟩) 2 2, (.slice (some ⟨ge, 0, none⟩) 2 2), .slice (some ⟨gd, 0, none⟩) 1 1]) (by simp [results, Tryd.results10, go_sem]) rfl ?_
              exact ⟨modM (fs.set f y) true 1 expsM dataM, _, rfl, hid ((ModK.fr (S := [w.heap.size]) kY.out (by exact FrX.fr (a := w8.setCell ⟨g, f * 3 + 2, none⟩ (.slice ae (fs[f].body.length + 2) ce))) (by simp)).weak (by omega)), Cur.fr (S := [w.heap.size]) cuY (by exact FrX.fr (a := w8.setCell ⟨g, f * 3 + 2, none⟩ (.slice ae (fs[f].body.length + 2) ce))) (by simp; omega), ⟨Fr.trans (T := [w.heap.size]) stY (by exact FrX.fr (a := w8.setCell ⟨g, f * 3 + 2, none⟩ (.slice ae (fs[f].body.length + 2) ce))) (fun b hb => .inr (Nat.le_of_eq (List.mem_singleton.1 hb).symm))⟩⟩
      · simp only [List.getElem_toArray, List.getElem_cons_succ, List.getElem_cons_zero]
        go_wp2_with fail
        with_reducible refine Calls.mono (sinsC _) ?_
        rintro e w5 ⟨q, hq, rfl, cu5, st5⟩
        go_wp2_with fail
        refine ⟨mkStepX, ?_⟩
        refine rg_two (i := 8) (j := 9) rfl rfl (by kernel_rfl) ?_ ?_
        · simp only [List.getElem_toArray, List.getElem_cons_succ, List.getElem_cons_zero]
          go_wp2_with fail
          refine ⟨mkStepX, ?_⟩
          refine rg_eff (i := 9) rfl (by kernel_rfl) ?_
          simp only [List.getElem_toArray, List.getElem_cons_succ, List.getElem_cons_zero]
          go_wp2_with fail
          refine ⟨mkStepX, ?_⟩
          refine rg_read (i := 12) (a1 := _) rfl (by kernel_rfl) rfl (by first | (simp; done) | (simp [Act.put]; done)) (by intro wq hwq; go_wp2; exact ⟨rfl, rfl⟩) mkStepX ?_
          refine rg_eff (i := 13) rfl (by kernel_rfl) ?_
          simp only [List.getElem_toArray, List.getElem_cons_succ, List.getElem_cons_zero]
          obtain ⟨o, ho, hlo⟩ := lit_ex x (by omega)
          go_wp2_with fail
          refine ⟨mkStepX, ?_⟩
          refine rg_read (i := 14) (a1 := _) rfl (by kernel_rfl) rfl (by first | (simp; done) | (simp [Act.put]; done)) (by intro wq hwq; go_wp2; exact ⟨rfl, rfl⟩) mkStepX ?_
          refine rg_eff (i := 17) rfl (by kernel_rfl) ?_
          simp only [List.getElem_toArray, List.getElem_cons_succ, List.getElem_cons_zero]
          go_wp2_with fail
          refine ⟨mkStepX, ?_⟩
          refine rg_eff (i := 18) rfl (by kernel_rfl) ?_
          simp only [List.getElem_toArray, List.getElem_cons_succ, List.getElem_cons_zero]
          go_wp2_with (at_builtin; go_must (refine app_o _ rfl (.tmp 93) (.tmp 102) 37 rfl 50 (.agg #[.int .i64 0, .int .i64 0, .int .i64 0]) 3 24 Tryd.inss_tab B fs[f].a fs[f].body.length fs[f].cap (fs[f].body.flatMap insVs) rfl (rowW.out _ inferInstance) _ 2 2 (([⟨o, 0, 0⟩, q] : List InsD).flatMap insVs) rfl (view_litZ _ _ _ _ _ _ rfl (by simp)) (insVs_allD _) (by decide) (by omega) (Nat.le_trans hBw (FrX.fr (S := [p]) (a := w3)).size) ?_); intro ae ce w8 row8 fr8)
          have sx8 : StepX (blk fs[f].a) _ w8 := ⟨fr8⟩
          refine ⟨mkStepX, ?_⟩
          refine rg_read (i := 19) (a1 := _) rfl (by kernel_rfl) rfl (by first | (simp; done) | (simp [Act.put]; done)) (by intro wq hwq; go_wp2; exact ⟨rfl, rfl⟩) mkStepX ?_
          refine rg_read (i := 20) (a1 := _) rfl (by kernel_rfl) rfl (by first | (simp; done) | (simp [Act.put]; done)) (by intro wq hwq; go_wp2; exact ⟨rfl, rfl⟩) mkStepX ?_
          refine rg_eff (i := 21) rfl (by kernel_rfl) ?_
          simp only [List.getElem_toArray, List.getElem_cons_succ, List.getElem_cons_zero]
          go_wp2_with fail
          refine ⟨mkStepX, ?_⟩
          refine rg_done (by kernel_rfl) ?_
          have frS : Fr (p :: blk fs[f].a) w3 w8 := FrX.fr (S := p :: blk fs[f].a) (a := w3)
          have hyl : (fs[f].body ++ [⟨o, 0, 0⟩, q]).length = fs[f].body.length + 2 := by simp
          obtain ⟨y, hy⟩ : ∃ y : FB, y = ⟨fs[f].sig, fs[f].loc, ae, ce, fs[f].body ++ [⟨o, 0, 0⟩, q]⟩ := ⟨_, rfl⟩
          have hyB : BodyO w8 B 70000 y := by
            rw [hy]
            refine ⟨by simp only [hyl, List.flatMap_append]; exact row8, by simp only [hyl]; omega, fun i hi => ?_, hB3.out.sg, hB3.out.lo⟩
            rcases List.mem_append.1 hi with h | h
            · exact hB3.out.in3 i h
            · simp only [List.mem_cons, List.not_mem_nil, or_false] at h
              rcases h with rfl | rfl
              · exact ⟨ho, in64_lit, in64_lit⟩
              · exact hq
          have kY := hD3.out.modK_a (k := f) (y := y) hmq hf2 frS hsS.out hyB (Nat.le_refl _) (by rw [hy]; exact row_other row8 (own3g.out _ frS) (by decide)) (by rw [hy]; exact ⟨rfl, rfl⟩)
          have ey : (.slice y.a y.body.length y.cap : Value) = .slice ae (fs[f].body.length + 2) ce := by rw [hy]; simp only [hyl]
          rw [ey] at kY
          replace kY := hid kY
          clear hyB hy ey hyl
          have bM4 : BoxL w8 w1.heap.size #[.slice (some ⟨gs, 0, none⟩) 3 3, .slice (some ⟨gi, 0, none⟩) 2 2, (.slice (some ⟨g, 0, none⟩) fs.length cf), .int .i64 1, .int .i64 (-1), .slice (some ⟨gg, 0, none⟩) 2 2, (.slice (some ⟨ge, 0, none⟩) 2 2), .slice (some ⟨gd, 0, none⟩) 1 1] := boxOf
          have bR4 : BoxL w8 w.heap.size #[.slice none 0 0, .slice none 0 0, .slice none 0 0, .int .i64 0, .int .i64 0, .slice none 0 0, .slice none 0 0, .slice none 0 0] := boxOf
          have oM4 := bM4.old
          have oR4 := bR4.old
          have neg1 : NeB g w1.heap.size := ⟨ngM⟩
          have neg2 : NeB g w.heap.size := ⟨ngR⟩
          have gtg : Gt p g := ⟨by omega⟩
          have aba : Abv p (blk fs[f].a) := ⟨fun b hb => by have := (hD3.out.inv.lt _ (List.getElem_mem hf2) b hb).1; omega⟩
          have cuY : Cur (w8.setCell ⟨g, f * 3 + 2, none⟩ (.slice ae (fs[f].body.length + 2) ce)) p := inferInstance
          have stY : Fr [p] w (w8.setCell ⟨g, f * 3 + 2, none⟩ (.slice ae (fs[f].body.length + 2) ce)) := (stw.fr.trans frS (fun b hb => by rcases List.mem_cons.1 hb with h | h; exact .inl (by simp [h]); exact .inr (by have := (hD3.out.inv.lt _ (List.getElem_mem hf2) b h).1; omega))).trans (T := [g]) ((Fr.refl [g] _).setCell (.inl (List.mem_singleton_self _)) _) (fun b hb => .inr (by rw [List.mem_singleton.1 hb]; omega))
          go_wp2
          refine bodyPost_ret (v := .agg #[.slice (some ⟨gs, 0, none⟩) 3 3, .slice (some ⟨gi, 0, none⟩) 2 2, (.slice (some ⟨g, 0, none⟩) fs.length cf), .int .i64 1, .int .i64 (-1), .slice (some ⟨gg, 0, none⟩) 2 2, (.slice (some ⟨ge, 0, none⟩) 2 2), .slice (some ⟨gd, 0, none⟩) 1 1]) (by simp [results, Tryd.results10, go_sem]) rfl ?_
          exact ⟨modM (fs.set f y) true 1 expsM dataM, _, rfl, hid ((ModK.fr (S := [w.heap.size]) kY.out (by exact FrX.fr (a := w8.setCell ⟨g, f * 3 + 2, none⟩ (.slice ae (fs[f].body.length + 2) ce))) (by simp)).weak (by omega)), Cur.fr (S := [w.heap.size]) cuY (by exact FrX.fr (a := w8.setCell ⟨g, f * 3 + 2, none⟩ (.slice ae (fs[f].body.length + 2) ce))) (by simp; omega), ⟨Fr.trans (T := [w.heap.size]) stY (by exact FrX.fr (a := w8.setCell ⟨g, f * 3 + 2, none⟩ (.slice ae (fs[f].body.length + 2) ce))) (fun b hb => .inr (Nat.le_of_eq (List.mem_singleton.1 hb).symm))⟩⟩
        · simp only [List.getElem_toArray, List.getElem_cons_succ, List.getElem_cons_zero]
          go_wp2_with fail
          refine ⟨mkStepX, ?_⟩
          refine rg_read (i := 12) (a1 := _) rfl (by kernel_rfl) rfl (by first | (simp; done) | (simp [Act.put]; done)) (by intro wq hwq; go_wp2; exact ⟨rfl, rfl⟩) mkStepX ?_
          refine rg_two (i := 8) (j := 13) rfl rfl (by kernel_rfl) ?_ ?_
          · simp only [List.getElem_toArray, List.getElem_cons_succ, List.getElem_cons_zero]
            go_wp2_with fail
            refine ⟨mkStepX, ?_⟩
            refine rg_eff (i := 13) rfl (by kernel_rfl) ?_
            simp only [List.getElem_toArray, List.getElem_cons_succ, List.getElem_cons_zero]
            obtain ⟨o, ho, hlo⟩ := lit_ex x (by omega)
            go_wp2_with fail
            refine ⟨mkStepX, ?_⟩
            refine rg_read (i := 14) (a1 := _) rfl (by kernel_rfl) rfl (by first | (simp; done) | (simp [Act.put]; done)) (by intro wq hwq; go_wp2; exact ⟨rfl, rfl⟩) mkStepX ?_
            refine rg_eff (i := 17) rfl (by kernel_rfl) ?_
            simp only [List.getElem_toArray, List.getElem_cons_succ, List.getElem_cons_zero]
            go_wp2_with fail
            refine ⟨mkStepX, ?_⟩
            refine rg_eff (i := 18) rfl (by kernel_rfl) ?_
            simp only [List.getElem_toArray, List.getElem_cons_succ, List.getElem_cons_zero]
            go_wp2_with (at_builtin; go_must (refine app_o _ rfl (.tmp 93) (.tmp 102) 37 rfl 50 (.agg #[.int .i64 0, .int .i64 0, .int .i64 0]) 3 24 Tryd.inss_tab B fs[f].a fs[f].body.length fs[f].cap (fs[f].body.flatMap insVs) rfl (rowW.out _ inferInstance) _ 2 2 (([⟨o, 0, 0⟩, q] : List InsD).flatMap insVs) rfl (view_litZ _ _ _ _ _ _ rfl (by simp)) (insVs_allD _) (by decide) (by omega) (Nat.le_trans hBw (FrX.fr (S := [p]) (a := w3)).size) ?_); intro ae ce w8 row8 fr8)
            have sx8 : StepX (blk fs[f].a) _ w8 := ⟨fr8⟩
            refine ⟨mkStepX, ?_⟩
            refine rg_read (i := 19) (a1 := _) rfl (by kernel_rfl) rfl (by first | (simp; done) | (simp [Act.put]; done)) (by intro wq hwq; go_wp2; exact ⟨rfl, rfl⟩) mkStepX ?_
            refine rg_read (i := 20) (a1 := _) rfl (by kernel_rfl) rfl (by first | (simp; done) | (simp [Act.put]; done)) (by intro wq hwq; go_wp2; exact ⟨rfl, rfl⟩) mkStepX ?_
            refine rg_eff (i := 21) rfl (by kernel_rfl) ?_
            simp only [List.getElem_toArray, List.getElem_cons_succ, List.getElem_cons_zero]
            go_wp2_with fail
            refine ⟨mkStepX, ?_⟩
            refine rg_done (by kernel_rfl) ?_
            have frS : Fr (p :: blk fs[f].a) w3 w8 := FrX.fr (S := p :: blk fs[f].a) (a := w3)
            have hyl : (fs[f].body ++ [⟨o, 0, 0⟩, q]).length = fs[f].body.length + 2 := by simp
            obtain ⟨y, hy⟩ : ∃ y : FB, y = ⟨fs[f].sig, fs[f].loc, ae, ce, fs[f].body ++ [⟨o, 0, 0⟩, q]⟩ := ⟨_, rfl⟩
            have hyB : BodyO w8 B 70000 y := by
              rw [hy]
              refine ⟨by simp only [hyl, List.flatMap_append]; exact row8, by simp only [hyl]; omega, fun i hi => ?_, hB3.out.sg, hB3.out.lo⟩
              rcases List.mem_append.1 hi with h | h
              · exact hB3.out.in3 i h
              · simp only [List.mem_cons, List.not_mem_nil, or_false] at h
                rcases h with rfl | rfl
                · exact ⟨ho, in64_lit, in64_lit⟩
                · exact hq
            have kY := hD3.out.modK_a (k := f) (y := y) hmq hf2 frS hsS.out hyB (Nat.le_refl _) (by rw [hy]; exact row_other row8 (own3g.out _ frS) (by decide)) (by rw [hy]; exact ⟨rfl, rfl⟩)
            have ey : (.slice y.a y.body.length y.cap : Value) = .slice ae (fs[f].body.length + 2) ce := by rw [hy]; simp only [hyl]
            rw [ey] at kY
            replace kY := hid kY
            clear hyB hy ey hyl
            have bM4 : BoxL w8 w1.heap.size #[.slice (some ⟨gs, 0, none⟩) 3 3, .slice (some ⟨gi, 0, none⟩) 2 2, (.slice (some ⟨g, 0, none⟩) fs.length cf), .int .i64 1, .int .i64 (-1), .slice (some ⟨gg, 0, none⟩) 2 2, (.slice (some ⟨ge, 0, none⟩) 2 2), .slice (some ⟨gd, 0, none⟩) 1 1] := boxOf
            have bR4 : BoxL w8 w.heap.size #[.slice none 0 0, .slice none 0 0, .slice none 0 0, .int .i64 0, .int .i64 0, .slice none 0 0, .slice none 0 0, .slice none 0 0] := boxOf
            have oM4 := bM4.old
            have oR4 := bR4.old
            have neg1 : NeB g w1.heap.size := ⟨ngM⟩
            have neg2 : NeB g w.heap.size := ⟨ngR⟩
            have gtg : Gt p g := ⟨by omega⟩
            have aba : Abv p (blk fs[f].a) := ⟨fun b hb => by have := (hD3.out.inv.lt _ (List.getElem_mem hf2) b hb).1; omega⟩
            have cuY : Cur (w8.setCell ⟨g, f * 3 + 2, none⟩ (.slice ae (fs[f].body.length + 2) ce)) p := inferInstance
            have stY : Fr [p] w (w8.setCell ⟨g, f * 3 + 2, none⟩ (.slice ae (fs[f].body.length + 2) ce)) := (stw.fr.trans frS (fun b hb => by rcases List.mem_cons.1 hb with h | h; exact .inl (by simp [h]); exact .inr (by have := (hD3.out.inv.lt _ (List.getElem_mem hf2) b h).1; omega))).trans (T := [g]) ((Fr.refl [g] _).setCell (.inl (List.mem_singleton_self _)) _) (fun b hb => .inr (by rw [List.mem_singleton.1 hb]; omega))
            go_wp2
            refine bodyPost_ret (v := .agg #[.slice (some ⟨gs, 0, none⟩) 3 3, .slice (some ⟨gi, 0, none⟩) 2 2, (.slice (some ⟨g, 0, none⟩) fs.length cf), .int .i64 1, .int .i64 (-1), .slice (some ⟨gg, 0, none⟩) 2 2, (.slice (some ⟨ge, 0, none⟩) 2 2), .slice (some ⟨gd, 0, none⟩) 1 1]) (by simp [results, Tryd.results10, go_sem]) rfl ?_
            exact ⟨modM (fs.set f y) true 1 expsM dataM, _, rfl, hid ((ModK.fr (S := [w.heap.size]) kY.out (by exact FrX.fr (a := w8.setCell ⟨g, f * 3 + 2, none⟩ (.slice ae (fs[f].body.length + 2) ce))) (by simp)).weak (by omega)), Cur.fr (S := [w.heap.size]) cuY (by exact FrX.fr (a := w8.setCell ⟨g, f * 3 + 2, none⟩ (.slice ae (fs[f].body.length + 2) ce))) (by simp; omega), ⟨Fr.trans (T := [w.heap.size]) stY (by exact FrX.fr (a := w8.setCell ⟨g, f * 3 + 2, none⟩ (.slice ae (fs[f].body.length + 2) ce))) (fun b hb => .inr (Nat.le_of_eq (List.mem_singleton.1 hb).symm))⟩⟩
          · simp only [List.getElem_toArray, List.getElem_cons_succ, List.getElem_cons_zero]
            obtain ⟨o, ho, hlo⟩ := lit_ex x (by omega)
            go_wp2_with fail
            refine ⟨mkStepX, ?_⟩
            refine rg_read (i := 14) (a1 := _) rfl (by kernel_rfl) rfl (by first | (simp; done) | (simp [Act.put]; done)) (by intro wq hwq; go_wp2; exact ⟨rfl, rfl⟩) mkStepX ?_
            refine rg_two (i := 8) (j := 17) rfl rfl (by kernel_rfl) ?_ ?_
            · simp only [List.getElem_toArray, List.getElem_cons_succ, List.getElem_cons_zero]
              go_wp2_with fail
              refine ⟨mkStepX, ?_⟩
              refine rg_eff (i := 17) rfl (by kernel_rfl) ?_
              simp only [List.getElem_toArray, List.getElem_cons_succ, List.getElem_cons_zero]
              go_wp2_with fail
              refine ⟨mkStepX, ?_⟩
              refine rg_eff (i := 18) rfl (by kernel_rfl) ?_
              simp only [List.getElem_toArray, List.getElem_cons_succ, List.getElem_cons_zero]
              go_wp2_with (at_builtin; go_must (refine app_o _ rfl (.tmp 93) (.tmp 102) 37 rfl 50 (.agg #[.int .i64 0, .int .i64 0, .int .i64 0]) 3 24 Tryd.inss_tab B fs[f].a fs[f].body.length fs[f].cap (fs[f].body.flatMap insVs) rfl (rowW.out _ inferInstance) _ 2 2 (([⟨o, 0, 0⟩, q] : List InsD).flatMap insVs) rfl (view_litZ _ _ _ _ _ _ rfl (by simp)) (insVs_allD _) (by decide) (by omega) (Nat.le_trans hBw (FrX.fr (S := [p]) (a := w3)).size) ?_); intro ae ce w8 row8 fr8)
              have sx8 : StepX (blk fs[f].a) _ w8 := ⟨fr8⟩
              refine ⟨mkStepX, ?_⟩
              refine rg_read (i := 19) (a1 := _) rfl (by kernel_rfl) rfl (by first | (simp; done) | (simp [Act.put]; done)) (by intro wq hwq; go_wp2; exact ⟨rfl, rfl⟩) mkStepX ?_
              refine rg_read (i := 20) (a1 := _) rfl (by kernel_rfl) rfl (by first | (simp; done) | (simp [Act.put]; done)) (by intro wq hwq; go_wp2; exact ⟨rfl, rfl⟩) mkStepX ?_
              refine rg_eff (i := 21) rfl (by kernel_rfl) ?_
              simp only [List.getElem_toArray, List.getElem_cons_succ, List.getElem_cons_zero]
              go_wp2_with fail
              refine ⟨mkStepX, ?_⟩
              refine rg_done (by kernel_rfl) ?_
              have frS : Fr (p :: blk fs[f].a) w3 w8 := FrX.fr (S := p :: blk fs[f].a) (a := w3)
              have hyl : (fs[f].body ++ [⟨o, 0, 0⟩, q]).length = fs[f].body.length + 2 := by simp
              obtain ⟨y, hy⟩ : ∃ y : FB, y = ⟨fs[f].sig, fs[f].loc, ae, ce, fs[f].body ++ [⟨o, 0, 0⟩, q]⟩ := ⟨_, rfl⟩
              have hyB : BodyO w8 B 70000 y := by
                rw [hy]
                refine ⟨by simp only [hyl, List.flatMap_append]; exact row8, by simp only [hyl]; omega, fun i hi => ?_, hB3.out.sg, hB3.out.lo⟩
                rcases List.mem_append.1 hi with h | h
                · exact hB3.out.in3 i h
                · simp only [List.mem_cons, List.not_mem_nil, or_false] at h
                  rcases h with rfl | rfl
                  · exact ⟨ho, in64_lit, in64_lit⟩
                  · exact hq
              have kY := hD3.out.modK_a (k := f) (y := y) hmq hf2 frS hsS.out hyB (Nat.le_refl _) (by rw [hy]; exact row_other row8 (own3g.out _ frS) (by decide)) (by rw [hy]; exact ⟨rfl, rfl⟩)
              have ey : (.slice y.a y.body.length y.cap : Value) = .slice ae (fs[f].body.length + 2) ce := by rw [hy]; simp only [hyl]
              rw [ey] at kY
              replace kY := hid kY
              clear hyB hy ey hyl
              have bM4 : BoxL w8 w1.heap.size #[.slice (some ⟨gs, 0, none⟩) 3 3, .slice (some ⟨gi, 0, none⟩) 2 2, (.slice (some ⟨g, 0, none⟩) fs.length cf), .int .i64 1, .int .i64 (-1), .slice (some ⟨gg, 0, none⟩) 2 2, (.slice (some ⟨ge, 0, none⟩) 2 2), .slice (some ⟨gd, 0, none⟩) 1 1] := boxOf
              have bR4 : BoxL w8 w.heap.size #[.slice none 0 0, .slice none 0 0, .slice none 0 0, .int .i64 0, .int .i64 0, .slice none 0 0, .slice none 0 0, .slice none 0 0] := boxOf
              have oM4 := bM4.old
              have oR4 := bR4.old
              have neg1 : NeB g w1.heap.size := ⟨ngM⟩
              have neg2 : NeB g w.heap.size := ⟨ngR⟩
              have gtg : Gt p g := ⟨by omega⟩
              have aba : Abv p (blk fs[f].a) := ⟨fun b hb => by have := (hD3.out.inv.lt _ (List.getElem_mem hf2) b hb).1; omega⟩
              have cuY : Cur (w8.setCell ⟨g, f * 3 + 2, none⟩ (.slice ae (fs[f].body.length + 2) ce)) p := inferInstance
              have stY : Fr [p] w (w8.setCell ⟨g, f * 3 + 2, none⟩ (.slice ae (fs[f].body.length + 2) ce)) := (stw.fr.trans frS (fun b hb => by rcases List.mem_cons.1 hb with h | h; exact .inl (by simp [h]); exact .inr (by have := (hD3.out.inv.lt _ (List.getElem_mem hf2) b h).1; omega))).trans (T := [g]) ((Fr.refl [g] _).setCell (.inl (List.mem_singleton_self _)) _) (fun b hb => .inr (by rw [List.mem_singleton.1 hb]; omega))
              go_wp2
              refine bodyPost_ret (v := .agg #[.slice (some ⟨gs, 0, none⟩) 3 3, .slice (some ⟨gi, 0, none⟩) 2 2, (.slice (some ⟨g, 0, none⟩) fs.length cf), .int .i64 1, .int .i64 (-1), .slice (some ⟨gg, 0, none⟩) 2 2, (.slice (some ⟨ge, 0, none⟩) 2 2), .slice (some ⟨gd, 0, none⟩) 1 1]) (by simp [results, Tryd.results10, go_sem]) rfl ?_
              exact ⟨modM (fs.set f y) true 1 expsM dataM, _, rfl, hid ((ModK.fr (S := [w.heap.size]) kY.out (by exact FrX.fr (a := w8.setCell ⟨g, f * 3 + 2, none⟩ (.slice ae (fs[f].body.length + 2) ce))) (by simp)).weak (by omega)), Cur.fr (S := [w.heap.size]) cuY (by exact FrX.fr (a := w8.setCell ⟨g, f * 3 + 2, none⟩ (.slice ae (fs[f].body.length + 2) ce))) (by simp; omega), ⟨Fr.trans (T := [w.heap.size]) stY (by exact FrX.fr (a := w8.setCell ⟨g, f * 3 + 2, none⟩ (.slice ae (fs[f].body.length + 2) ce))) (fun b hb => .inr (Nat.le_of_eq (List.mem_singleton.1 hb).symm))⟩⟩
            · simp only [List.getElem_toArray, List.getElem_cons_succ, List.getElem_cons_zero]
              go_wp2_with fail
              refine ⟨mkStepX, ?_⟩
              refine rg_eff (i := 8) rfl (by kernel_rfl) ?_
              simp only [List.getElem_toArray, List.getElem_cons_succ, List.getElem_cons_zero]
              go_wp2_with fail
              refine ⟨mkStepX, ?_⟩
              refine rg_eff (i := 18) rfl (by kernel_rfl) ?_
              simp only [List.getElem_toArray, List.getElem_cons_succ, List.getElem_cons_zero]
              go_wp2_with (at_builtin; go_must (refine app_o _ rfl (.tmp 93) (.tmp 102) 37 rfl 50 (.agg #[.int .i64 0, .int .i64 0, .int .i64 0]) 3 24 Tryd.inss_tab B fs[f].a fs[f].body.length fs[f].cap (fs[f].body.flatMap insVs) rfl (rowW.out _ inferInstance) _ 2 2 (([⟨o, 0, 0⟩, q] : List InsD).flatMap insVs) rfl (view_litZ _ _ _ _ _ _ rfl (by simp)) (insVs_allD _) (by decide) (by omega) (Nat.le_trans hBw (FrX.fr (S := [p]) (a := w3)).size) ?_); intro ae ce w8 row8 fr8)
              have sx8 : StepX (blk fs[f].a) _ w8 := ⟨fr8⟩
              refine ⟨mkStepX, ?_⟩
              refine rg_read (i := 19) (a1 := _) rfl (by kernel_rfl) rfl (by first | (simp; done) | (simp [Act.put]; done)) (by intro wq hwq; go_wp2; exact ⟨rfl, rfl⟩) mkStepX ?_
              refine rg_read (i := 20) (a1 := _) rfl (by kernel_rfl) rfl (by first | (simp; done) | (simp [Act.put]; done)) (by intro wq hwq; go_wp2; exact ⟨rfl, rfl⟩) mkStepX ?_
              refine rg_eff (i := 21) rfl (by kernel_rfl) ?_
              simp only [List.getElem_toArray, List.getElem_cons_succ, List.getElem_cons_zero]
              go_wp2_with fail
              refine ⟨mkStepX, ?_⟩
              refine rg_done (by kernel_rfl) ?_
              have frS : Fr (p :: blk fs[f].a) w3 w8 := FrX.fr (S := p :: blk fs[f].a) (a := w3)
              have hyl : (fs[f].body ++ [⟨o, 0, 0⟩, q]).length = fs[f].body.length + 2 := by simp
              obtain ⟨y, hy⟩ : ∃ y : FB, y = ⟨fs[f].sig, fs[f].loc, ae, ce, fs[f].body ++ [⟨o, 0, 0⟩, q]⟩ := ⟨_, rfl⟩
              have hyB : BodyO w8 B 70000 y := by
                rw [hy]
                refine ⟨by simp only [hyl, List.flatMap_append]; exact row8, by simp only [hyl]; omega, fun i hi => ?_, hB3.out.sg, hB3.out.lo⟩
                rcases List.mem_append.1 hi with h | h
                · exact hB3.out.in3 i h
                · simp only [List.mem_cons, List.not_mem_nil, or_false] at h
                  rcases h with rfl | rfl
                  · exact ⟨ho, in64_lit, in64_lit⟩
                  · exact hq
              have kY := hD3.out.modK_a (k := f) (y := y) hmq hf2 frS hsS.out hyB (Nat.le_refl _) (by rw [hy]; exact row_other row8 (own3g.out _ frS) (by decide)) (by rw [hy]; exact ⟨rfl, rfl⟩)
              have ey : (.slice y.a y.body.length y.cap : Value) = .slice ae (fs[f].body.length + 2) ce := by rw [hy]; simp only [hyl]
              rw [ey] at kY
              replace kY := hid kY
              clear hyB hy ey hyl
              have bM4 : BoxL w8 w1.heap.size #[.slice (some ⟨gs, 0, none⟩) 3 3, .slice (some ⟨gi, 0, none⟩) 2 2, (.slice (some ⟨g, 0, none⟩) fs.length cf), .int .i64 1, .int .i64 (-1), .slice (some ⟨gg, 0, none⟩) 2 2, (.slice (some ⟨ge, 0, none⟩) 2 2), .slice (some ⟨gd, 0, none⟩) 1 1] := boxOf
              have bR4 : BoxL w8 w.heap.size #[.slice none 0 0, .slice none 0 0, .slice none 0 0, .int .i64 0, .int .i64 0, .slice none 0 0, .slice none 0 0, .slice none 0 0] := boxOf
              have oM4 := bM4.old
              have oR4 := bR4.old
              have neg1 : NeB g w1.heap.size := ⟨ngM⟩
              have neg2 : NeB g w.heap.size := ⟨ngR⟩
              have gtg : Gt p g := ⟨by omega⟩
              have aba : Abv p (blk fs[f].a) := ⟨fun b hb => by have := (hD3.out.inv.lt _ (List.getElem_mem hf2) b hb).1; omega⟩
              have cuY : Cur (w8.setCell ⟨g, f * 3 + 2, none⟩ (.slice ae (fs[f].body.length + 2) ce)) p := inferInstance
              have stY : Fr [p] w (w8.setCell ⟨g, f * 3 + 2, none⟩ (.slice ae (fs[f].body.length + 2) ce)) := (stw.fr.trans frS (fun b hb => by rcases List.mem_cons.1 hb with h | h; exact .inl (by simp [h]); exact .inr (by have := (hD3.out.inv.lt _ (List.getElem_mem hf2) b h).1; omega))).trans (T := [g]) ((Fr.refl [g] _).setCell (.inl (List.mem_singleton_self _)) _) (fun b hb => .inr (by rw [List.mem_singleton.1 hb]; omega))
              go_wp2
              refine bodyPost_ret (v := .agg #[.slice (some ⟨gs, 0, none⟩) 3 3, .slice (some ⟨gi, 0, none⟩) 2 2, (.slice (some ⟨g, 0, none⟩) fs.length cf), .int .i64 1, .int .i64 (-1), .slice (some ⟨gg, 0, none⟩) 2 2, (.slice (some ⟨ge, 0, none⟩) 2 2), .slice (some ⟨gd, 0, none⟩) 1 1]) (by simp [results, Tryd.results10, go_sem]) rfl ?_
              exact ⟨modM (fs.set f y) true 1 expsM dataM, _, rfl, hid ((ModK.fr (S := [w.heap.size]) kY.out (by exact FrX.fr (a := w8.setCell ⟨g, f * 3 + 2, none⟩ (.slice ae (fs[f].body.length + 2) ce))) (by simp)).weak (by omega)), Cur.fr (S := [w.heap.size]) cuY (by exact FrX.fr (a := w8.setCell ⟨g, f * 3 + 2, none⟩ (.slice ae (fs[f].body.length + 2) ce))) (by simp; omega), ⟨Fr.trans (T := [w.heap.size]) stY (by exact FrX.fr (a := w8.setCell ⟨g, f * 3 + 2, none⟩ (.slice ae (fs[f].body.length + 2) ce))) (fun b hb => .inr (Nat.le_of_eq (List.mem_singleton.1 hb).symm))⟩⟩
  · -- a global that can't be set
    have bG : BoxL w3 gg #[.bool true, .int .i64 0, .bool false, .int .i64 7] := ⟨hD3.out.bg⟩
    have oG := bG.old
    have nG1 : ¬ gg = w.heap.size := by omega
    have nG2 : ¬ w.heap.size = gg := by omega
    have hgl : gg < w1.heap.size := hD.out.bg.lt
    have nG3 : ¬ gg = w1.heap.size := by omega
    have nG4 : ¬ w1.heap.size = gg := by omega
    have nb1 : NeB gg w1.heap.size := ⟨nG3⟩
    have nb2 : NeB gg w.heap.size := ⟨nG1⟩
    have gtg : Gt p gg := ⟨by omega⟩
    have kY := hid (hD3.out.modK_g hmq)
    have cuY : Cur (w3.setCell ⟨gg, 0, none⟩ (.bool false)) p := inferInstance
    have stY : Fr [p] w (w3.setCell ⟨gg, 0, none⟩ (.bool false)) := stw.fr.trans (T := [gg]) ((Fr.refl [gg] _).setCell (.inl (List.mem_singleton_self _)) _) (fun b hb => .inr (by rw [List.mem_singleton.1 hb]; omega))
    go_wp2
    refine bodyPost_ret (v := .agg #[.slice (some ⟨gs, 0, none⟩) 3 3, .slice (some ⟨gi, 0, none⟩) 2 2, (.slice (some ⟨g, 0, none⟩) fs.length cf), .int .i64 1, .int .i64 (-1), .slice (some ⟨gg, 0, none⟩) 2 2, (.slice (some ⟨ge, 0, none⟩) 2 2), .slice (some ⟨gd, 0, none⟩) 1 1]) (by simp [results, Tryd.results10, go_sem]) rfl ?_
    exact ⟨modM fs false 1 expsM dataM, _, rfl, hid ((ModK.fr (S := [w.heap.size]) kY.out (by exact FrX.fr (a := w3.setCell ⟨gg, 0, none⟩ (.bool false))) (by simp)).weak (by omega)), Cur.fr (S := [w.heap.size]) cuY (by exact FrX.fr (a := w3.setCell ⟨gg, 0, none⟩ (.bool false))) (by simp; omega), ⟨Fr.trans (T := [w.heap.size]) stY (by exact FrX.fr (a := w3.setCell ⟨gg, 0, none⟩ (.bool false))) (fun b hb => .inr (Nat.le_of_eq (List.mem_singleton.1 hb).symm))⟩⟩
  · have e0 : ((k : Int) == 0) = false := by rw [beq_eq_false_iff_ne]; omega
    have e1 : ((k : Int) == 1) = false := by rw [beq_eq_false_iff_ne]; omega
    have e2 : ((k : Int) == 2) = false := by rw [beq_eq_false_iff_ne]; omega
    have e3 : ((k : Int) == 3) = false := by rw [beq_eq_false_iff_ne]; omega
    have e4 : ((k : Int) == 4) = false := by rw [beq_eq_false_iff_ne]; omega
    have e5 : ((k : Int) == 5) = false := by rw [beq_eq_false_iff_ne]; omega
    have e6 : ((k : Int) == 6) = false := by rw [beq_eq_false_iff_ne]; omega
    have kY := hid (hD3.out.modK hmq (pages := 1) (.inl rfl))
    go_wp2
    refine bodyPost_ret (v := .agg #[.slice (some ⟨gs, 0, none⟩) 3 3, .slice (some ⟨gi, 0, none⟩) 2 2, (.slice (some ⟨g, 0, none⟩) fs.length cf), .int .i64 1, .int .i64 (-1), .slice (some ⟨gg, 0, none⟩) 2 2, (.slice (some ⟨ge, 0, none⟩) 2 2), .slice (some ⟨gd, 0, none⟩) 1 1]) (by simp [results, Tryd.results10, go_sem]) rfl ?_
    exact ⟨modM fs true 1 expsM dataM, _, rfl, hid ((ModK.fr (S := [w.heap.size]) kY.out (by exact FrX.fr (a := w3)) (by simp)).weak (by omega)), Cur.fr (S := [w.heap.size]) cu3 (by exact FrX.fr (a := w3)) (by simp; omega), ⟨Fr.trans (T := [w.heap.size]) stw.fr (by exact FrX.fr (a := w3)) (fun b hb => .inr (Nat.le_of_eq (List.mem_singleton.1 hb).symm))⟩⟩
end Go.Proofs.YtpaekgeopmifeaaDoor
