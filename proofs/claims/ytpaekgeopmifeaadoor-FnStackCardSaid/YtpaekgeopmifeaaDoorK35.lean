/- Contracts: impl's FormOk. Contracts: what goes through a body, impl's side: labels, the end, signatures. Contracts: what goes through a body, impl's side: the end, branches, plain instructions. Contracts: what goes through a body, impl's side: branches, plain instructions. -/
import Derived.Test.YtpaekgeopmifeaaDoorK33
import Derived.Test.YtpaekgeopmifeaaDoorK34
import Derived.Test.YtpaekgeopmifeaaDoorK31
namespace Go.Proofs.YtpaekgeopmifeaaDoor
open Go.RowKit
open Rep (Is sz)

theorem iform {F : List Nat} {cs : List Value} (m : ModuleD) (w : World) (hb : moduleCost m ≤ 1048576) [h : Shows w F m cs] [hU : HasU8 w] : Calls Tryd.prog 16 #[.agg cs.toArray] w fun e w' => e = .returned (.bool (pB (FormP m))) ∧ Step w w' := by
  by_cases e1 : m.most = -1
  · exact iform_a m w hb e1
  · exact iform_b m w hb e1
end Go.Proofs.YtpaekgeopmifeaaDoor
namespace Go.Proofs.YtpaekgeopmifeaaDoor
attribute [local go_sem ↓] Go.wp_at_zero Go.wp_at_succ
open Go.RowKit
open Rep (Is sz)

def lab0 (k : Int) : Int := if k < 0 then 0 else k
set_option maxHeartbeats 1000000 in
theorem iwants {p B g : Nat} {M : MH} {sg : SigD} {loc R : Int} {K : Nat} {sh : List Bool} {s : ChkS} (a : Int) (w : World) (v : Inv R K sh s) (hK : K ≤ 9000) (ha : 0 ≤ a ∧ a ≤ 1000) [hS : IB w p B g M sg loc s] :
    Calls Tryd.prog 59 #[.pointer (some ⟨p, 0, none⟩), .int .i64 a] w fun e w' => e = .returned (.tuple #[.int .i64 (lab0 (labelC s.all a)), .bool (decide (0 ≤ labelC s.all a))]) ∧ Step w w' := by
  have hlt := hS.lt
  have hv := v.nums
  have hres := v.res
  obtain ⟨⟨cap, bx, own⟩, ne, bp⟩ := hS
  have hcap := ib_size own
  have opp := bx.old
  have ap := bx.arg
  have og : Old g w := ⟨hlt.2.1⟩
  have hal := all_len s
  obtain ⟨k, rfl⟩ := Int.eq_ofNat_of_zero_le ha.1
  by_cases hk : k < s.lo.length + 1
  · obtain ⟨i, hi⟩ : ∃ i, s.lo.length - k = i := ⟨_, rfl⟩
    have hi2 : i < s.all.length := by omega
    have hc := own_row_at ifr_len own i hi2
    have c0 := (hc 0 _ rfl).1
    have c2 := (hc 2 _ rfl).1
    replace c0 : w.cell? ⟨g, i * 5, none⟩ = _ := c0
    clear hc
    have ei : (s.lo.length : Int) - (k : Int) = (i : Int) := by omega
    have hkl : ((k : Nat) : Int) < s.all.length := by omega
    have hidx : s.all.length - 1 - ((k : Nat) : Int).toNat = i := by omega
    have r1 := fun h => hid (labelC_loop hkl hi2 hidx h)
    have r2 := fun h => hid (labelC_res hkl hi2 hidx h)
    have hfr := hres _ (List.getElem_mem hi2)
    obtain ⟨f, hf⟩ : ∃ f, s.all[i] = f := ⟨_, rfl⟩
    rw [hf] at c0 c2 r1 r2 hfr
    clear hkl hidx own
    clear hf
    have hi3 : i < s.lo.length + 1 := by omega
    clear hi2
    by_cases h3 : f.op = 3
    · have r := r1 h3
      have h3b : decide (f.op = 3) = true := decide_eq_true h3
      rw [h3b] at c2
      clear r1 r2
      replace h3 := hid h3
      clear h3b
      go_enter Tryd.func59, Tryd.ntmps59
      go_wp2
      go_ret2
      exact ⟨by rw [r.out]; rfl, mkStep⟩
    · have r := r2 h3
      have h3b : decide (f.op = 3) = false := decide_eq_false h3
      rw [h3b] at c2
      clear r1 r2
      replace h3 := hid h3
      clear h3b
      have z1 := hid (show lab0 f.res = f.res from if_neg (by omega))
      have z2 := hid (show decide (0 ≤ f.res) = true from decide_eq_true (by omega))
      go_enter Tryd.func59, Tryd.ntmps59
      go_wp2
      go_ret2
      exact ⟨by rw [r.out, z1.out, z2.out]; rfl, mkStep⟩
  · have r := hid (labelC_no (l := s.all) (a := (k : Int)) (by omega))
    go_enter Tryd.func59, Tryd.ntmps59
    go_wp2
    go_ret2
    exact ⟨by rw [r.out]; rfl, mkStep⟩

theorem iboth {p B g : Nat} {M : MH} {sg : SigD} {loc : Int} {s : ChkS} (n q : Int) (w : World) (hn : 0 ≤ n ∧ n ≤ 1000) (hq : 0 ≤ q ∧ q ≤ 1000) (hh : 0 ≤ s.t.base ∧ s.t.base ≤ s.h ∧ s.h ≤ 10000) (hl : s.lo.length ≤ 10000) [hS : IB w p B g M sg loc s] :
    Calls Tryd.prog 60 #[.pointer (some ⟨p, 0, none⟩), .int .i64 n, .int .i64 q] w fun e w' => e = .returned (.bool (s.takeB n)) ∧ IB w' p B g M sg loc ((s.take n).add q) ∧ StepX [p] w w' := by
  have hne := hS.ne
  have t1 := tkH_ge (h := s.h) (b := s.t.base) (n := n)
  have t2 := tkH_le (h := s.h) (b := s.t.base) (n := n) (by omega) (by omega)
  go_enter Tryd.func60, Tryd.ntmps60
  go_wp2_with fail
  with_reducible refine Calls.mono (itake (s := s) n _ hn hh hl) ?_
  rintro e w1 ⟨rfl, hS1, st1⟩
  obtain ⟨⟨cap, bx, own⟩, -, bp⟩ := hS1
  replace bx : BoxL w1 p (iv M sg loc (tkH s.h s.t.base n) (.slice (some ⟨g, 0, none⟩) (s.lo.length + 1) cap)) := bx
  have op1 := bx.old
  have own3 := hid (ownsRow_fr own ((Fr.refl [p] w1).setCell (p := ⟨p, 11, none⟩) (.inl (by simp)) (.int .i64 (tkH s.h s.t.base n + q))) (by simp only [blk, List.mem_singleton]; rintro x rfl; exact hne))
  replace own := hid own
  go_wp2
  go_ret
  exact ⟨rfl, ⟨⟨cap, boxSet (iv_h ..), own3.out⟩, hne, bp⟩, mkStepX⟩

set_option maxHeartbeats 1000000 in
theorem isigOf {F : List Nat} {cs : List Value} (m : ModuleD) (a : Int) (w : World) (pa : PartsP m) [h : Shows w F m cs] :
    Calls Tryd.prog 61 #[.agg cs.toArray, .int .i64 a] w fun e w' => e = .returned (.tuple #[.agg #[.int .i64 ((sigC m a).getD ⟨0, 0⟩).params, .int .i64 ((sigC m a).getD ⟨0, 0⟩).results], .bool (sigC m a).isSome]) ∧ Step w w' := by
  have kk := h.known
  obtain ⟨a1, k1, a2, k2, a3, k3, a4, k4, a5, k5, a6, k6, F1, F2, F3, F4, F5, F6, rfl, rfl, h1, h2, h3, h4, h5, h6, i3, i4⟩ := module_open h.is
  clear h
  obtain ⟨_, _, cl1, FF1, hv, _, hvw1, hr1, hml1⟩ := list_open h1
  cases hv
  unfold maxLen at hml1
  obtain ⟨_, _, cl2, FF2, hv, _, hvw2, hr2, hml2⟩ := list_open h2
  cases hv
  unfold maxLen at hml2
  obtain ⟨_, _, cl3, FF3, hv, _, hvw3, hr3, hml3⟩ := list_open h3
  cases hv
  unfold maxLen at hml3
  have z1 := pa.z1
  by_cases ha : a < 0 ∨ (m.imports.length : Int) + m.funcs.length ≤ a
  · have r := hid (sigC_no ha)
    have e1 : ¬ (0 ≤ a ∧ a ≤ (m.imports.length : Int) - 1) := by omega
    have e2 : ¬ ((m.imports.length : Int) ≤ a ∧ a ≤ (m.imports.length : Int) + m.funcs.length - 1) := by omega
    clear ha
    go_enter Tryd.func61, Tryd.ntmps61
    go_wp2_with (first | (go_at_call 17; (with_reducible refine Calls.mono (within_any ..) ?_); rintro e wk ⟨rfl, rfl⟩))
    refine bodyPost_ret (v := .tuple #[.agg #[.int .i64 0, .int .i64 0], .bool false]) (by simp [results, Tryd.results61, go_sem]) rfl ?_
    exact ⟨by rw [r.out]; rfl, mkStep⟩
  · obtain ⟨k, rfl⟩ := Int.eq_ofNat_of_zero_le (a := a) (by omega)
    by_cases hk : k < m.imports.length
    · obtain ⟨q, hq⟩ := Int.eq_ofNat_of_zero_le (pa.imps _ (List.getElem_mem hk)).s0
      have hq2 : q < m.sigs.length := by have := (pa.imps _ (List.getElem_mem hk)).s1; omega
      have r := hid (sigC_imp hk hq2 hq)
      obtain ⟨be, oe, Ge, cse, rfl, hGe, hIe, hce, hoe⟩ := hvw2.row hr2 rfl (by decide) k hk
      have hI0e := hIe
      obtain ⟨rfl, rfl, i0e, i1e, i2e⟩ := import_open hI0e
      have kee : Known w _ m.imports[k] _ := ⟨hIe⟩
      have c0e := (hce 0 _ rfl).1
      replace c0e : w.cell? ⟨be, oe + k * 3, none⟩ = _ := c0e
      have c1e := (hce 1 _ rfl).1
      replace c1e : w.cell? ⟨be, oe + k * 3 + 1, none⟩ = _ := c1e
      have c2e := (hce 2 _ rfl).1
      replace c2e : w.cell? ⟨be, oe + k * 3 + 2, none⟩ = _ := c2e
      clear hce
      obtain ⟨bf, of, Gf, csf, rfl, hGf, hIf, hcf, hof⟩ := hvw1.row hr1 rfl (by decide) q hq2
      have hI0f := hIf
      obtain ⟨rfl, rfl, i0f, i1f⟩ := sig_open hI0f
      have kef : Known w _ m.sigs[q] _ := ⟨hIf⟩
      have c0f := (hcf 0 _ rfl).1
      replace c0f : w.cell? ⟨bf, of + q * 2, none⟩ = _ := c0f
      have c1f := (hcf 1 _ rfl).1
      replace c1f : w.cell? ⟨bf, of + q * 2 + 1, none⟩ = _ := c1f
      clear hcf
      have e1 : 0 ≤ (k : Int) ∧ (k : Int) ≤ (m.imports.length : Int) - 1 := by omega
      clear ha
      rw [hq] at c2e
      replace hq := hid hq
      have nb1 : NeB bf (w.heap.size + 1) := ⟨by have := hof.lt; omega⟩
      have nb2 : NeB be (w.heap.size + 1) := ⟨by have := hoe.lt; omega⟩
      have nb3 : NeB w.heap.size (w.heap.size + 1) := ⟨by omega⟩
      go_enter Tryd.func61, Tryd.ntmps61
      go_wp2_with (first | (go_at_call 17; (with_reducible refine Calls.mono (within_any ..) ?_); rintro e wk ⟨rfl, rfl⟩))
      refine wp_name ?_
      intro A sA
      refine rg_beginX [w.heap.size + 1] (n := 12) (by kernel_rfl) rfl fun rg0 => ?_
      refine rg_read (i := 0) (a1 := _) rfl (by kernel_rfl) rfl (by simp) (by intro wq hwq; go_wp2; exact ⟨rfl, rfl⟩) mkStepX ?_
      refine rg_read (i := 1) (a1 := _) rfl (by kernel_rfl) rfl (by simp) (by intro wq hwq; go_wp2; exact ⟨rfl, rfl⟩) mkStepX ?_
      refine rg_read (i := 2) (a1 := _) rfl (by kernel_rfl) rfl (by simp) (by intro wq hwq; go_wp2; exact ⟨rfl, rfl⟩) mkStepX ?_
      refine rg_read (i := 3) (a1 := _) rfl (by kernel_rfl) rfl (by simp) (by intro wq hwq; go_wp2; exact ⟨rfl, rfl⟩) mkStepX ?_
      refine rg_read (i := 4) (a1 := _) rfl (by kernel_rfl) rfl (by simp) (by intro wq hwq; go_wp2; exact ⟨rfl, rfl⟩) mkStepX ?_
      refine rg_read (i := 5) (a1 := _) rfl (by kernel_rfl) rfl (by simp) (by intro wq hwq; go_wp2; exact ⟨rfl, rfl⟩) mkStepX ?_
      refine rg_read (i := 6) (a1 := _) rfl (by kernel_rfl) rfl (by simp) (by intro wq hwq; go_wp2; exact ⟨rfl, rfl⟩) mkStepX ?_
      refine rg_read (i := 7) (a1 := _) rfl (by kernel_rfl) rfl (by simp) (by intro wq hwq; go_wp2; exact ⟨rfl, rfl⟩) mkStepX ?_
      refine rg_read (i := 8) (a1 := _) rfl (by kernel_rfl) rfl (by simp) (by intro wq hwq; go_wp2; exact ⟨rfl, rfl⟩) mkStepX ?_
      refine rg_read (i := 9) (a1 := _) rfl (by kernel_rfl) rfl (by simp) (by intro wq hwq; go_wp2; exact ⟨rfl, rfl⟩) mkStepX ?_
      refine rg_eff (i := 10) rfl (by kernel_rfl) ?_
      simp only [List.getElem_toArray, List.getElem_cons_succ, List.getElem_cons_zero]
      go_wp2_with (fail)
      refine ⟨mkStepX, ?_⟩
      refine rg_read (i := 11) (a1 := _) rfl (by kernel_rfl) rfl (by simp) (by intro wq hwq; go_wp2; exact ⟨rfl, rfl⟩) mkStepX ?_
      refine rg_done (by kernel_rfl) ?_
      go_wp2
      refine bodyPost_ret (v := .tuple #[.agg #[.int .i64 m.sigs[q].params, .int .i64 m.sigs[q].results], .bool true]) (by simp [results, Tryd.results61, go_sem]) rfl ?_
      exact ⟨by rw [r.out]; rfl, mkStep⟩
    · obtain ⟨j, hj⟩ : ∃ j, k - m.imports.length = j := ⟨_, rfl⟩
      have hj2 : j < m.funcs.length := by omega
      have hkj : k = m.imports.length + j := by omega
      obtain ⟨q, hq⟩ := Int.eq_ofNat_of_zero_le (pa.fns _ (List.getElem_mem hj2)).s0
      have hq2 : q < m.sigs.length := by have := (pa.fns _ (List.getElem_mem hj2)).s1; omega
      have r := hid (sigC_fun hkj hj2 hq2 hq)
      obtain ⟨be, oe, Ge, cse, rfl, hGe, hIe, hce, hoe⟩ := hvw3.row hr3 rfl (by decide) j hj2
      have hI0e := hIe
      obtain ⟨a1e, k1e, F1e, rfl, rfl, h1e, i0e, i1e⟩ := func_open hI0e
      have kee : Known w _ m.funcs[j] _ := ⟨hIe⟩
      have c0e := (hce 0 _ rfl).1
      replace c0e : w.cell? ⟨be, oe + j * 3, none⟩ = _ := c0e
      have c1e := (hce 1 _ rfl).1
      replace c1e : w.cell? ⟨be, oe + j * 3 + 1, none⟩ = _ := c1e
      have c2e := (hce 2 _ rfl).1
      replace c2e : w.cell? ⟨be, oe + j * 3 + 2, none⟩ = _ := c2e
      clear hce
      obtain ⟨bf, of, Gf, csf, rfl, hGf, hIf, hcf, hof⟩ := hvw1.row hr1 rfl (by decide) q hq2
      have hI0f := hIf
      obtain ⟨rfl, rfl, i0f, i1f⟩ := sig_open hI0f
      have kef : Known w _ m.sigs[q] _ := ⟨hIf⟩
      have c0f := (hcf 0 _ rfl).1
      replace c0f : w.cell? ⟨bf, of + q * 2, none⟩ = _ := c0f
      have c1f := (hcf 1 _ rfl).1
      replace c1f : w.cell? ⟨bf, of + q * 2 + 1, none⟩ = _ := c1f
      clear hcf
      have e1 : ¬ (0 ≤ (k : Int) ∧ (k : Int) ≤ (m.imports.length : Int) - 1) := by omega
      have e2 : (m.imports.length : Int) ≤ (k : Int) ∧ (k : Int) ≤ (m.imports.length : Int) + m.funcs.length - 1 := by omega
      have ej : (k : Int) - (m.imports.length : Int) = (j : Int) := by omega
      clear ha
      rw [hq] at c0e
      replace hq := hid hq
      replace hkj := hid hkj
      clear hj
      have nb1 : NeB bf (w.heap.size + 1) := ⟨by have := hof.lt; omega⟩
      have nb2 : NeB be (w.heap.size + 1) := ⟨by have := hoe.lt; omega⟩
      have nb3 : NeB w.heap.size (w.heap.size + 1) := ⟨by omega⟩
      go_enter Tryd.func61, Tryd.ntmps61
      go_wp2_with (first | (go_at_call 17; (with_reducible refine Calls.mono (within_any ..) ?_); rintro e wk ⟨rfl, rfl⟩))
      refine wp_name ?_
      intro A sA
      refine rg_beginX [w.heap.size + 1] (n := 14) (by kernel_rfl) rfl fun rg0 => ?_
      refine rg_read (i := 0) (a1 := _) rfl (by kernel_rfl) rfl (by simp) (by intro wq hwq; go_wp2; exact ⟨rfl, rfl⟩) mkStepX ?_
      refine rg_read (i := 1) (a1 := _) rfl (by kernel_rfl) rfl (by simp) (by intro wq hwq; go_wp2; exact ⟨rfl, rfl⟩) mkStepX ?_
      refine rg_read (i := 2) (a1 := _) rfl (by kernel_rfl) rfl (by simp) (by intro wq hwq; go_wp2; exact ⟨rfl, rfl⟩) mkStepX ?_
      refine rg_read (i := 3) (a1 := _) rfl (by kernel_rfl) rfl (by simp) (by intro wq hwq; go_wp2; exact ⟨rfl, rfl⟩) mkStepX ?_
      refine rg_read (i := 4) (a1 := _) rfl (by kernel_rfl) rfl (by simp) (by intro wq hwq; go_wp2; exact ⟨rfl, rfl⟩) mkStepX ?_
      refine rg_read (i := 5) (a1 := _) rfl (by kernel_rfl) rfl (by simp) (by intro wq hwq; go_wp2; exact ⟨rfl, rfl⟩) mkStepX ?_
      refine rg_read (i := 6) (a1 := _) rfl (by kernel_rfl) rfl (by simp) (by intro wq hwq; go_wp2; exact ⟨rfl, rfl⟩) mkStepX ?_
      refine rg_read (i := 7) (a1 := _) rfl (by kernel_rfl) rfl (by simp) (by intro wq hwq; go_wp2; exact ⟨rfl, rfl⟩) mkStepX ?_
      refine rg_read (i := 8) (a1 := _) rfl (by kernel_rfl) rfl (by simp) (by intro wq hwq; go_wp2; exact ⟨rfl, rfl⟩) mkStepX ?_
      refine rg_read (i := 9) (a1 := _) rfl (by kernel_rfl) rfl (by simp) (by intro wq hwq; go_wp2; exact ⟨rfl, rfl⟩) mkStepX ?_
      refine rg_read (i := 10) (a1 := _) rfl (by kernel_rfl) rfl (by simp) (by intro wq hwq; go_wp2; exact ⟨rfl, rfl⟩) mkStepX ?_
      refine rg_read (i := 11) (a1 := _) rfl (by kernel_rfl) rfl (by simp) (by intro wq hwq; go_wp2; exact ⟨rfl, rfl⟩) mkStepX ?_
      refine rg_eff (i := 12) rfl (by kernel_rfl) ?_
      simp only [List.getElem_toArray, List.getElem_cons_succ, List.getElem_cons_zero]
      go_wp2_with (fail)
      refine ⟨mkStepX, ?_⟩
      refine rg_read (i := 13) (a1 := _) rfl (by kernel_rfl) rfl (by simp) (by intro wq hwq; go_wp2; exact ⟨rfl, rfl⟩) mkStepX ?_
      refine rg_done (by kernel_rfl) ?_
      go_wp2
      refine bodyPost_ret (v := .tuple #[.agg #[.int .i64 m.sigs[q].params, .int .i64 m.sigs[q].results], .bool true]) (by simp [results, Tryd.results61, go_sem]) rfl ?_
      exact ⟨by rw [r.out]; rfl, mkStep⟩
end Go.Proofs.YtpaekgeopmifeaaDoor
namespace Go.Proofs.YtpaekgeopmifeaaDoor
attribute [local go_sem ↓] Go.wp_at_zero Go.wp_at_succ
open Go.RowKit
open Rep (Is sz)

set_option maxHeartbeats 2000000 in
theorem iend {p B g : Nat} {M : MH} {sg : SigD} {loc R : Int} {K : Nat} {sh : List Bool} {h0 : Int} {L : List Frm} {u t : Frm} (w : World) (v : Inv R K sh ⟨h0, L ++ [u], t⟩) (hK : K ≤ 9000) [hS : IB w p B g M sg loc ⟨h0, L ++ [u], t⟩] :
    Calls Tryd.prog 42 #[.pointer (some ⟨p, 0, none⟩)] w fun e w' => e = .returned (.bool (ChkS.closeB ⟨h0, L ++ [u], t⟩ && !(decide (t.op = 4) && decide (0 < t.res)))) ∧ IB w' p B g M sg loc ⟨t.base + t.res, L, u⟩ ∧ StepX [p] w w' := by
  have hv := v.nums
  have hlt := hS.lt
  have hne := hS.ne
  have hbp := hS.bp
  obtain ⟨⟨cap, bx, own⟩, -, -⟩ := id hS
  obtain ⟨⟨c0, c1, c2, c3, c4⟩, f3, f4⟩ := ib_top own
  have hcap := ib_size own
  have el : (L ++ [u]).length = L.length + 1 := by simp
  simp only [el] at c0 c1 c2 c3 c4 hcap hv
  have op : Old p w := bx.old
  have ap := bx.arg
  have og : Old g w := ⟨hlt.2.1⟩
  have nb : NeB g p := ⟨hne⟩
  have nb' : NeB p g := ⟨hne.symm⟩
  clear f3 f4 bx own
  have hl : (ChkS.mk h0 (L ++ [u]) t).lo.length ≤ 10000 := by rw [show (ChkS.mk h0 (L ++ [u]) t).lo = L ++ [u] from rfl, el]; omega
  have hv2 : 0 ≤ t.base ∧ t.base ≤ h0 ∧ h0 ≤ K ∧ L.length ≤ 9000 ∧ 0 ≤ t.res ∧ t.res ≤ 1 := ⟨hv.1, hv.2.1, hv.2.2.1, by omega, hv.2.2.2.2.1, hv.2.2.2.2.2⟩
  obtain ⟨cl, hcl⟩ : ∃ cl, ChkS.closeB ⟨h0, L ++ [u], t⟩ = cl := ⟨_, rfl⟩
  rw [hcl]
  obtain ⟨r, hr⟩ : ∃ r, r = (cl && !(decide (t.op = 4) && decide (0 < t.res))) := ⟨_, rfl⟩
  rw [← hr]
  clear hv
  have d4 : decide (t.op = 4) = true ∨ decide (t.op = 4) = false := by cases decide (t.op = 4) <;> simp
  have d5 : t.res = 0 ∨ t.res = 1 := by omega
  have go : ∀ (b4 : Bool) (rr : Int), decide (t.op = 4) = b4 → t.res = rr → (rr = 0 ∨ rr = 1) → r = (cl && !(b4 && decide (0 < rr))) →
      Calls Tryd.prog 42 #[.pointer (some ⟨p, 0, none⟩)] w fun e w' => e = .returned (.bool r) ∧ IB w' p B g M sg loc ⟨t.base + rr, L, u⟩ ∧ StepX [p] w w' := by
    intro b4 rr h4 hrr h01 hr2
    rw [h4] at c3
    rw [hrr] at c0
    replace hrr := hid hrr
    replace h4 := hid h4
    clear hr d4 d5
    go_enter Tryd.func42, Tryd.ntmps42
    go_wp2_with fail
    with_reducible refine Calls.mono (ilast (s := ⟨h0, L ++ [u], t⟩) _ hl) ?_
    rintro e w1 ⟨rfl, st1⟩
    rw [show (ChkS.mk h0 (L ++ [u]) t).lo = L ++ [u] from rfl, el]
    go_wp2_with fail
    with_reducible refine Calls.mono (icloses (s := ⟨h0, L ++ [u], t⟩) _ v hK) ?_
    rintro e w2 ⟨rfl, hS2, st2⟩
    rw [hcl]
    replace hcl := hid hcl
    obtain ⟨⟨cap2, bx2, own2⟩, -, -⟩ := hS2
    simp only [ChkS.take, el] at bx2 own2
    have hcap2 := ownsRow_cap own2
    have own3 := own_pre (L.length + 1) own2 (by omega)
    have e1 : ((ChkS.all ⟨tkH h0 t.base t.res, L ++ [u], t⟩).flatMap ifr).take ((L.length + 1) * 5) = (L ++ [u]).flatMap ifr := by
      have h1 := flat_len ifr 5 ifr_len (L ++ [u])
      rw [el] at h1
      show (((L ++ [u]) ++ [t]).flatMap ifr).take _ = _
      rw [List.flatMap_append, List.take_append_of_le_length (by omega), ← h1, List.take_length]
    rw [e1] at own3
    replace own2 := hid own2
    replace own3 := hid own3
    unfold maxLen at hcap2
    clear e1
    have op2 := bx2.old
    have nt : NeB w1.heap.size p := ⟨by have := st1.fr.size; omega⟩
    cases b4 <;> cases cl <;> rcases h01 with rfl | rfl
    all_goals
      replace hr2 := hid (hr2.trans rfl)
      go_wp2_with fail
      refine rg_begin (n := 15) AnyW (by kernel_rfl) rfl ?_
      refine rg_read (i := 0) (a1 := _) rfl (by kernel_rfl) rfl (by first | (simp; done) | (simp [Act.put]; done)) (by intro wq hwq; go_wp2; exact ⟨rfl, rfl⟩) trivial ?_
      refine rg_read (i := 1) (a1 := _) rfl (by kernel_rfl) rfl (by first | (simp; done) | (simp [Act.put]; done)) (by intro wq hwq; go_wp2; exact ⟨rfl, rfl⟩) trivial ?_
      refine rg_read (i := 2) (a1 := _) rfl (by kernel_rfl) rfl (by first | (simp; done) | (simp [Act.put]; done)) (by intro wq hwq; go_wp2; exact ⟨rfl, rfl⟩) trivial ?_
      refine rg_read (i := 3) (a1 := _) rfl (by kernel_rfl) rfl (by first | (simp; done) | (simp [Act.put]; done)) (by intro wq hwq; go_wp2; exact ⟨rfl, rfl⟩) trivial ?_
      refine rg_read (i := 5) (a1 := _) rfl (by kernel_rfl) rfl (by first | (simp; done) | (simp [Act.put]; done)) (by intro wq hwq; go_wp2; exact ⟨rfl, rfl⟩) trivial ?_
      refine rg_read (i := 6) (a1 := _) rfl (by kernel_rfl) rfl (by first | (simp; done) | (simp [Act.put]; done)) (by intro wq hwq; go_wp2; exact ⟨rfl, rfl⟩) trivial ?_
      refine rg_read (i := 7) (a1 := _) rfl (by kernel_rfl) rfl (by first | (simp; done) | (simp [Act.put]; done)) (by intro wq hwq; go_wp2; exact ⟨rfl, rfl⟩) trivial ?_
      refine rg_two (i := 4) (j := 8) rfl rfl (by kernel_rfl) ?_ ?_
      · simp only [List.getElem_toArray, List.getElem_cons_succ, List.getElem_cons_zero]
        go_wp2_with fail
        refine ⟨trivial, ?_⟩
        refine rg_eff (i := 8) rfl (by kernel_rfl) ?_
        simp only [List.getElem_toArray, List.getElem_cons_succ, List.getElem_cons_zero]
        go_wp2_with fail
        refine ⟨trivial, ?_⟩
        refine rg_read (i := 9) (a1 := _) rfl (by kernel_rfl) rfl (by first | (simp; done) | (simp [Act.put]; done)) (by intro wq hwq; go_wp2; exact ⟨rfl, rfl⟩) trivial ?_
        refine rg_read (i := 10) (a1 := _) rfl (by kernel_rfl) rfl (by first | (simp; done) | (simp [Act.put]; done)) (by intro wq hwq; go_wp2; exact ⟨rfl, rfl⟩) trivial ?_
        refine rg_read (i := 11) (a1 := _) rfl (by kernel_rfl) rfl (by first | (simp; done) | (simp [Act.put]; done)) (by intro wq hwq; go_wp2; exact ⟨rfl, rfl⟩) trivial ?_
        refine rg_read (i := 12) (a1 := _) rfl (by kernel_rfl) rfl (by first | (simp; done) | (simp [Act.put]; done)) (by intro wq hwq; go_wp2; exact ⟨rfl, rfl⟩) trivial ?_
        refine rg_read (i := 13) (a1 := _) rfl (by kernel_rfl) rfl (by first | (simp; done) | (simp [Act.put]; done)) (by intro wq hwq; go_wp2; exact ⟨rfl, rfl⟩) trivial ?_
        refine rg_eff (i := 14) rfl (by kernel_rfl) ?_
        simp only [List.getElem_toArray, List.getElem_cons_succ, List.getElem_cons_zero]
        go_wp2_with fail
        refine ⟨trivial, ?_⟩
        refine rg_done (by kernel_rfl) ?_
        go_wp2
        go_ret
        (try simp only [Int.add_zero])
        have b2 : BoxL (w2.setCell ⟨p, 12, none⟩ (.slice (some ⟨g, 0, none⟩) (L.length + 1) cap2)) p (iv M sg loc (tkH h0 t.base t.res) (.slice (some ⟨g, 0, none⟩) (L.length + 1) cap2)) := boxSet (iv_st ..)
        exact ⟨by rw [hr2.out]; rfl, ⟨⟨cap2, boxSetD (iv_h ..), ownsRow_fr own3.out (FrX.fr (S := [p])) (by simp only [blk, List.mem_singleton]; rintro x rfl; exact hne)⟩, hne, hbp⟩, mkStepX⟩
      · simp only [List.getElem_toArray, List.getElem_cons_succ, List.getElem_cons_zero]
        go_wp2_with fail
        refine ⟨trivial, ?_⟩
        refine rg_read (i := 9) (a1 := _) rfl (by kernel_rfl) rfl (by first | (simp; done) | (simp [Act.put]; done)) (by intro wq hwq; go_wp2; exact ⟨rfl, rfl⟩) trivial ?_
        refine rg_read (i := 10) (a1 := _) rfl (by kernel_rfl) rfl (by first | (simp; done) | (simp [Act.put]; done)) (by intro wq hwq; go_wp2; exact ⟨rfl, rfl⟩) trivial ?_
        refine rg_eff (i := 4) rfl (by kernel_rfl) ?_
        simp only [List.getElem_toArray, List.getElem_cons_succ, List.getElem_cons_zero]
        go_wp2_with fail
        refine ⟨trivial, ?_⟩
        refine rg_read (i := 11) (a1 := _) rfl (by kernel_rfl) rfl (by first | (simp; done) | (simp [Act.put]; done)) (by intro wq hwq; go_wp2; exact ⟨rfl, rfl⟩) trivial ?_
        refine rg_read (i := 12) (a1 := _) rfl (by kernel_rfl) rfl (by first | (simp; done) | (simp [Act.put]; done)) (by intro wq hwq; go_wp2; exact ⟨rfl, rfl⟩) trivial ?_
        refine rg_read (i := 13) (a1 := _) rfl (by kernel_rfl) rfl (by first | (simp; done) | (simp [Act.put]; done)) (by intro wq hwq; go_wp2; exact ⟨rfl, rfl⟩) trivial ?_
        refine rg_eff (i := 14) rfl (by kernel_rfl) ?_
        simp only [List.getElem_toArray, List.getElem_cons_succ, List.getElem_cons_zero]
        go_wp2_with fail
        refine ⟨trivial, ?_⟩
        refine rg_done (by kernel_rfl) ?_
        go_wp2
        go_ret
        (try simp only [Int.add_zero])
        have b2 : BoxL (w2.setCell ⟨p, 12, none⟩ (.slice (some ⟨g, 0, none⟩) (L.length + 1) cap2)) p (iv M sg loc (tkH h0 t.base t.res) (.slice (some ⟨g, 0, none⟩) (L.length + 1) cap2)) := boxSet (iv_st ..)
        exact ⟨by rw [hr2.out]; rfl, ⟨⟨cap2, boxSetD (iv_h ..), ownsRow_fr own3.out (FrX.fr (S := [p])) (by simp only [blk, List.mem_singleton]; rintro x rfl; exact hne)⟩, hne, hbp⟩, mkStepX⟩
  rcases d4 with h4 | h4
  · rcases d5 with h5 | h5
    · rw [h5]; exact go true 0 h4 h5 (.inl rfl) (by rw [hr, h4, h5])
    · rw [h5]; exact go true 1 h4 h5 (.inr rfl) (by rw [hr, h4, h5])
  · rcases d5 with h5 | h5
    · rw [h5]; exact go false 0 h4 h5 (.inl rfl) (by rw [hr, h4, h5])
    · rw [h5]; exact go false 1 h4 h5 (.inr rfl) (by rw [hr, h4, h5])
end Go.Proofs.YtpaekgeopmifeaaDoor
namespace Go.Proofs.YtpaekgeopmifeaaDoor
attribute [local go_sem ↓] Go.wp_at_zero Go.wp_at_succ
open Go.RowKit
open Rep (Is sz)

theorem take_two {h b k : Int} (hb : b ≤ h) (hk : 0 ≤ k) : tkH (tkH h b 1) b k = tkH h b (1 + k) := by
  unfold tkH
  repeat' split
  all_goals omega
theorem take_twoB {h b k : Int} {d : Bool} (h1 : tkB h b 1 d = true) : tkB (tkH h b 1) b k d = tkB h b (1 + k) d := by
  unfold tkB at *
  cases d
  · simp only [Bool.or_false, decide_eq_true_eq] at h1
    unfold tkH
    rw [if_pos h1, Bool.or_false, Bool.or_false]
    exact decide_eq_decide.2 (by omega)
  · simp
theorem take_noB {h b k : Int} {d : Bool} (hk : 0 ≤ k) (h1 : tkB h b 1 d = false) : tkB h b (1 + k) d = false := by
  unfold tkB at *
  simp only [Bool.or_eq_false_iff, decide_eq_false_iff_not] at h1 ⊢
  exact ⟨by omega, h1.2⟩

set_option maxRecDepth 10000 in
set_option maxHeartbeats 2000000 in
theorem ibranch {p B g : Nat} {M : MH} {sg : SigD} {loc : Int} {K : Nat} {sh : List Bool} {s : ChkS} (i : InsD) (w : World) (v : Inv sg.results K sh s) (hK : K ≤ 9000) (hR : 0 ≤ sg.results ∧ sg.results ≤ 1) (hi : insOk i = true) (ho : i.op = 0 ∨ i.op = 15 ∨ i.op = 12 ∨ i.op = 13) [hS : IB w p B g M sg loc s] :
    Calls Tryd.prog 43 #[.pointer (some ⟨p, 0, none⟩), .agg #[.int .i64 i.op, .int .i64 i.a, .int .i64 i.b]] w fun e w' => ∃ b' s', flowC sg.results s i = (b', s') ∧ e = .returned (.bool b') ∧ (b' = true → IB w' p B g M sg loc s') ∧ StepX [p, g] w w' := by
  have hv := v.nums
  have hlt := hS.lt
  have hne := hS.ne
  have nb : NeB g p := ⟨hne⟩
  have nb' : NeB p g := ⟨hne.symm⟩
  have ag : Arg g w := ⟨hlt.2.1⟩
  have ap : Arg p w := ⟨hlt.1⟩
  have og : Old g w := ⟨hlt.2.1⟩
  have opp : Old p w := ⟨hlt.1⟩
  have hk2 := ins_kind2 hi
  have hl : s.lo.length ≤ 10000 := by omega
  have hlt : ∀ n, (s.take n).lo.length ≤ 10000 := fun _ => hl
  have hh : 0 ≤ s.t.base ∧ s.t.base ≤ s.h ∧ s.h ≤ 10000 := by omega
  obtain ⟨op, a, b⟩ := i
  simp only at ho hk2
  rcases ho with rfl | rfl | ho
  · have r := hid (flow_0 (R := sg.results) (s := s) (i := ⟨0, a, b⟩) rfl)
    go_enter Tryd.func43, Tryd.ntmps43
    go_wp2_with fail
    with_reducible refine Calls.mono (idie (s := s) _ hl) ?_
    rintro e w1 ⟨rfl, hS1, st1⟩
    go_wp2
    go_ret
    exact ⟨_, _, r.out, rfl, fun _ => inferInstance, mkStepX⟩
  · have r := hid (flow_15 (R := sg.results) (s := s) (i := ⟨15, a, b⟩) rfl)
    obtain ⟨⟨cap, bx, own⟩, -, -⟩ := id hS
    replace own := hid own
    go_enter Tryd.func43, Tryd.ntmps43
    go_wp2_with fail
    with_reducible refine Calls.mono (itake (s := s) sg.results _ (by omega) hh hl) ?_
    rintro e w1 ⟨rfl, hS1, st1⟩
    go_wp2_with fail
    with_reducible refine Calls.mono (idie (s := s.take sg.results) _ (hlt _)) ?_
    rintro e w2 ⟨rfl, hS2, st2⟩
    go_wp2
    go_ret
    exact ⟨_, _, r.out, rfl, fun _ => inferInstance, mkStepX⟩
  · have hk := hk2 (by omega)
    clear hk2
    have hlb := labelC_le (a := a) v.res
    obtain ⟨k, hkk⟩ : ∃ k, labelC s.all a = k := ⟨_, rfl⟩
    rw [hkk] at hlb
    by_cases hk0 : k < 0
    · have hf : flowC sg.results s ⟨op, a, b⟩ = (false, s) := by
        rcases ho with rfl | rfl
        · rw [flow_12 rfl, hkk, if_pos hk0]
        · rw [flow_13 rfl, hkk, if_pos hk0]
      have d0 : decide (0 ≤ k) = false := decide_eq_false (by omega)
      have r := hid hf
      have n0 : (op == 0) = false := beq_eq_false_iff_ne.2 (by omega)
      have n15 : (op == 15) = false := beq_eq_false_iff_ne.2 (by omega)
      clear hf ho
      go_enter Tryd.func43, Tryd.ntmps43
      go_wp2_with fail
      with_reducible refine Calls.mono (iwants (s := s) a _ v hK hk) ?_
      rintro e w1 ⟨rfl, st1⟩
      rw [hkk, d0]
      go_wp2
      go_ret
      exact ⟨_, _, r.out, rfl, (fun h => by cases h), mkStepX⟩
    · have d0 : decide (0 ≤ k) = true := decide_eq_true (by omega)
      have l0 : lab0 k = k := if_neg hk0
      have t1 := tkH_ge (h := s.h) (b := s.t.base) (n := 1)
      have t2 := tkH_le (h := s.h) (b := s.t.base) (n := 1) (by omega) (by omega)
      rcases ho with rfl | rfl
      · have r := hid (show flowC sg.results s ⟨12, a, b⟩ = (s.takeB k, (s.take k).die) by rw [flow_12 rfl, hkk, if_neg hk0])
        go_enter Tryd.func43, Tryd.ntmps43
        go_wp2_with fail
        with_reducible refine Calls.mono (iwants (s := s) a _ v hK hk) ?_
        rintro e w1 ⟨rfl, st1⟩
        rw [hkk, d0, l0]
        go_wp2_with fail
        with_reducible refine Calls.mono (itake (s := s) k _ (by omega) hh hl) ?_
        rintro e w2 ⟨rfl, hS2, st2⟩
        go_wp2_with fail
        with_reducible refine Calls.mono (idie (s := s.take k) _ (hlt _)) ?_
        rintro e w3 ⟨rfl, hS3, st3⟩
        go_wp2
        go_ret
        exact ⟨_, _, r.out, rfl, fun _ => inferInstance, mkStepX⟩
      · have r := hid (show flowC sg.results s ⟨13, a, b⟩ = (s.takeB (1 + k), (s.take (1 + k)).add k) by rw [flow_13 rfl, hkk, if_neg hk0])
        cases hb1 : s.takeB 1
        · have r2 := hid (show flowC sg.results s ⟨13, a, b⟩ = (false, (s.take (1 + k)).add k) by rw [r.out, show s.takeB (1 + k) = false from take_noB (by omega) hb1])
          clear r
          go_enter Tryd.func43, Tryd.ntmps43
          go_wp2_with fail
          with_reducible refine Calls.mono (iwants (s := s) a _ v hK hk) ?_
          rintro e w1 ⟨rfl, st1⟩
          rw [hkk, d0, l0]
          go_wp2_with fail
          with_reducible refine Calls.mono (itake (s := s) 1 _ (by omega) hh hl) ?_
          rintro e w2 ⟨rfl, hS2, st2⟩
          rw [hb1]
          go_wp2
          go_ret
          exact ⟨_, _, r2.out, rfl, (fun h => by cases h), mkStepX⟩
        · have e1 : (s.take 1).takeB k = s.takeB (1 + k) := take_twoB hb1
          have e2 : (((s.take 1).take k).add k) = (s.take (1 + k)).add k := by
            show ChkS.mk (tkH (tkH s.h s.t.base 1) s.t.base k + k) s.lo s.t = ChkS.mk (tkH s.h s.t.base (1 + k) + k) s.lo s.t
            rw [take_two hh.2.1 (by omega)]
          have hh2 : 0 ≤ (s.take 1).t.base ∧ (s.take 1).t.base ≤ (s.take 1).h ∧ (s.take 1).h ≤ 10000 := ⟨hh.1, t1, Int.le_trans t2 hh.2.2⟩
          have hI := fun w9 h9 => iboth (p := p) (B := B) (g := g) (M := M) (sg := sg) (loc := loc) (s := s.take 1) k k w9 (by omega) (by omega) hh2 (hlt 1) (hS := h9)
          rw [e1, e2] at hI
          replace e1 := hid e1
          replace e2 := hid e2
          go_enter Tryd.func43, Tryd.ntmps43
          go_wp2_with fail
          with_reducible refine Calls.mono (iwants (s := s) a _ v hK hk) ?_
          rintro e w1 ⟨rfl, st1⟩
          rw [hkk, d0, l0]
          go_wp2_with fail
          with_reducible refine Calls.mono (itake (s := s) 1 _ (by omega) hh hl) ?_
          rintro e w2 ⟨rfl, hS2, st2⟩
          rw [hb1]
          go_wp2_with fail
          with_reducible refine Calls.mono (hI _ inferInstance) ?_
          rintro e w3 ⟨rfl, hS3, st3⟩
          go_wp2
          go_ret
          exact ⟨_, _, r.out, rfl, fun _ => inferInstance, mkStepX⟩

end Go.Proofs.YtpaekgeopmifeaaDoor
