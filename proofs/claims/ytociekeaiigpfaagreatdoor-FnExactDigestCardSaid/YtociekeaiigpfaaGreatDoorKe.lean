/- Contracts: impl's FormOk. A module as bytes; impl's side. A module as bytes; spec's side. Digest; spec's side. Digest; impl's side. -/
import Derived.Test.YtociekeaiigpfaaGreatDoorFormIa
import Derived.Test.YtociekeaiigpfaaGreatDoorFormIb
import Derived.Test.YtociekeaiigpfaaGreatDoorKd
import Derived.Test.YtociekeaiigpfaaGreatDoorKc
import Derived.Test.YtociekeaiigpfaaGreatDoorFormT
namespace Go.Proofs.YtociekeaiigpfaaGreatDoor
open Go.RowKit
open Rep (Is sz)

theorem iform {F : List Nat} {cs : List Value} (m : ModuleD) (w : World) (hb : moduleCost m ≤ 1048576) [h : Shows w F m cs] [hU : HasU8 w] : Calls Tryz.prog 52 #[.agg cs.toArray] w fun e w' => e = .returned (.bool (pB (FormP m))) ∧ Step w w' := by
  by_cases e1 : m.most = -1
  · exact iform_a m w hb e1
  · exact iform_b m w hb e1
end Go.Proofs.YtociekeaiigpfaaGreatDoor
namespace Go.Proofs.YtociekeaiigpfaaGreatDoor
attribute [local go_sem ↓] Go.wp_at_zero Go.wp_at_succ
open Go.RowKit
open Rep (Is sz)

theorem ihead (w : World) : Calls Tryz.prog 76 #[] w (RowBy w headBy 8) := by
  go_enter Tryz.func76, Tryz.ntmps76
  go_wp2
  go_ret
  exact ⟨some ⟨w.heap.size, 0, none⟩, 8, headBy, rfl, by simp [headBy], hid rfl, own_litAt rfl rfl (Nat.le_refl _) (by unfold maxLen; simp [headBy]) rfl, mkStep⟩
set_option maxRecDepth 10000 in
set_option maxHeartbeats 4000000 in
theorem imodby {F : List Nat} {cs : List Value} (m : ModuleD) (w : World) (hz : moduleCost m ≤ 1048576) [hm : Shows w F m cs] [hU : HasU8 w] : Calls Tryz.prog 31 #[.agg cs.toArray] w (ModBy w m) := by
  have kk := hm.known
  have kU := hU.known
  obtain ⟨a1, k1, a2, k2, a3, k3, a4, k4, a5, k5, a6, k6, F1, F2, F3, F4, F5, F6, rfl, rfl, h1, h2, h3, h4, h5, h6, i3, i4⟩ := module_open hm.is
  clear hm hU
  cases hF : pB (FormP m)
  · unfold ModBy
    rw [hF]
    go_enter Tryz.func31, Tryz.ntmps31
    go_wp2_with fail
    with_reducible refine Calls.mono (iform m _ hz) ?_
    rintro e w1 ⟨rfl, st1⟩
    rw [hF]
    go_wp2
    go_ret2
    exact ⟨none, 0, [], rfl, by simp, hid rfl, World.ownsRow_nil .., mkStep⟩
  have fo : FormP m := pB_iff.1 hF
  have z0 := fo.pa.z0
  have z1 := fo.pa.z1
  have z2 := fo.z2
  have z3 := fo.z3
  have z4 := fo.z4
  replace fo := hid fo
  have q1 : Known w F1 m.sigs _ := ⟨h1⟩
  have q2 : Known w F2 m.imports _ := ⟨h2⟩
  have q3 : Known w F3 m.funcs _ := ⟨h3⟩
  have q4 : Known w F4 m.globals _ := ⟨h4⟩
  have q5 : Known w F5 m.exports _ := ⟨h5⟩
  have q6 : Known w F6 m.data _ := ⟨h6⟩
  unfold ModBy
  rw [hF]
  go_enter Tryz.func31, Tryz.ntmps31
  go_wp2_with fail
  with_reducible refine Calls.mono (iform m _ hz) ?_
  rintro e w1 ⟨rfl, st1⟩
  rw [hF]
  replace hF := hid hF
  have bp : BoxL w1 w.heap.size #[.slice a1 m.sigs.length k1, .slice a2 m.imports.length k2, .slice a3 m.funcs.length k3, .int .i64 m.pages, .int .i64 m.most, .slice a4 m.globals.length k4, .slice a5 m.exports.length k5, .slice a6 m.data.length k6] := ⟨(Box.new w _ _).fr0 st1.fr⟩
  have po : Old w.heap.size w1 := bp.old
  have pa : Arg w.heap.size w1 := bp.arg
  have Pc := bp.is.cell_eq
  have Pl := bp.is.live
  obtain ⟨p, hp⟩ : ∃ p, p = w.heap.size := ⟨_, rfl⟩
  go_wp2_with fail
  with_reducible refine Calls.mono (ihead _) ?_
  rintro e w3 ⟨aH, cH, rH, rfl, hlH, hrH, ownH, stH⟩
  have gH : 8 ≤ rH.length := by rw [hrH.out]; simp [headBy]
  go_wp2_with fail
  with_reducible refine Calls.mono (iadd 80 _ _ m.sigs sigBy 150 4500 1 w1 _ (own_keep ownH) (by omega) (by omega) Tryz.call80 (by omega) (by omega) (by omega) (by omega) (by omega) (by omega) (by intro k hk wr st; exact icl2 m k wr hk fo.out.pa.sigs)) ?_
  rintro e wq1 ⟨aq1, cq1, rq1, rfl, hgq1, hlq1, hrq1, ownq1, bqq1, stq1⟩
  have eq1 := hid (show rq1 = by1 m by rw [hrq1.out, hrH.out]; rfl)
  go_wp2_with fail
  with_reducible refine Calls.mono (iadd 82 _ _ m.imports impBy 100 100000 2 w1 _ (own_keep ownq1) (by omega) (by omega) Tryz.call82 (by omega) (by omega) (by omega) (by omega) (by omega) (by omega) (by intro k hk wr st; exact icl3 m k wr hk m.sigs.length fo.out.pa.imps)) ?_
  rintro e wq2 ⟨aq2, cq2, rq2, rfl, hgq2, hlq2, hrq2, ownq2, bqq2, stq2⟩
  have eq2 := hid (show rq2 = by2 m by rw [hrq2.out, eq1.out]; rfl)
  go_wp2_with fail
  with_reducible refine Calls.mono (iadd 85 _ _ m.funcs fsBy 5 5000 3 w1 _ (own_keep ownq2) (by omega) (by omega) Tryz.call85 (by omega) (by omega) (by omega) (by omega) (by omega) (by omega) (by intro k hk wr st; exact icl4 m k wr hk)) ?_
  rintro e wq3 ⟨aq3, cq3, rq3, rfl, hgq3, hlq3, hrq3, ownq3, bqq3, stq3⟩
  have eq3 := hid (show rq3 = by3 m by rw [hrq3.out, eq2.out]; rfl)
  by_cases hp : m.pages = -1
  · have eq4 := hid (show rq3 = by4 m by rw [eq3.out]; unfold by4; rw [if_neg (by omega), List.append_nil])
    go_wp2_with fail
    with_reducible refine Calls.mono (iadd 87 _ _ m.globals glBy 20 20000 6 w1 _ (own_keep ownq3) (by omega) (by omega) Tryz.call87 (by omega) (by omega) (by omega) (by omega) (by omega) (by omega) (by intro k hk wr st; exact icl5 m k wr hk)) ?_
    rintro e wq5 ⟨aq5, cq5, rq5, rfl, hgq5, hlq5, hrq5, ownq5, bqq5, stq5⟩
    have eq5 := hid (show rq5 = by5 m by rw [hrq5.out, eq4.out]; rfl)
    go_wp2_with fail
    with_reducible refine Calls.mono (iadd 89 _ _ m.exports exBy 100 100000 7 w1 _ (own_keep ownq5) (by omega) (by omega) Tryz.call89 (by omega) (by omega) (by omega) (by omega) (by omega) (by omega) (by intro k hk wr st; exact icl6 m k wr hk fo.out.exs)) ?_
    rintro e wq6 ⟨aq6, cq6, rq6, rfl, hgq6, hlq6, hrq6, ownq6, bqq6, stq6⟩
    have eq6 := hid (show rq6 = by6 m by rw [hrq6.out, eq5.out]; rfl)
    go_wp2_with fail
    with_reducible refine Calls.mono (iadd 90 _ _ m.funcs fnBy 50000 3000000 10 w1 _ (own_keep ownq6) (by omega) (by omega) Tryz.call90 (by omega) (by omega) (by omega) (by omega) (by omega) (by omega) (by intro k hk wr st; exact icl7 m k wr hk m.sigs.length fo.out.pa.fns)) ?_
    rintro e wq7 ⟨aq7, cq7, rq7, rfl, hgq7, hlq7, hrq7, ownq7, bqq7, stq7⟩
    have eq7 := hid (show rq7 = by7 m by rw [hrq7.out, eq6.out]; rfl)
    go_wp2_with fail
    with_reducible refine Calls.mono (iadd 92 _ _ m.data daBy 2100 100000 11 w1 _ (own_keep ownq7) (by omega) (by omega) Tryz.call92 (by omega) (by omega) (by omega) (by omega) (by omega) (by omega) (by intro k hk wr st; exact icl8 m k wr hk fo.out.das)) ?_
    rintro e wq8 ⟨aq8, cq8, rq8, rfl, hgq8, hlq8, hrq8, ownq8, bqq8, stq8⟩
    have eq8 := hid (show rq8 = modBy m by rw [hrq8.out, eq7.out]; rfl)
    go_wp2
    go_ret2
    exact ⟨aq8, cq8, rq8, rfl, by omega, eq8, own_weak ownq8 mkFr.size, mkStep⟩
  · have hp2 : 0 ≤ m.pages := by have := fo.out.g0; omega
    have pu1 : putU 1 = [1] := by decide
    replace pu1 := hid pu1
    have nqa : NotIn w3.heap.size (blk aq3) := ⟨row_apart ownq3 bqq3.is (by intro c; simp) (by omega)⟩
    have qo : Old w3.heap.size wq3 := bqq3.old
    go_wp2_with fail
    refine rg_begin (n := 6) (Step w1) (by kernel_rfl) rfl ?_
    have rg0 := (show (Step w1) (World.drew _) from (show Step w1 wq3.drew from mkStep))
    refine rg_read (i := 1) (a1 := _) rfl (by kernel_rfl) rfl (by first | (simp; done) | (simp [Act.put]; done)) (by intro wq hwq; go_wp2; exact ⟨rfl, rfl⟩) rg0 ?_
    refine rg_two (i := 0) (j := 2) rfl rfl (by kernel_rfl) ?_ ?_
    · simp only [List.getElem_toArray, List.getElem_cons_zero]
      go_wp2_with fail
      refine ⟨mkStep, ?_⟩
      refine rg_eff (i := 2) rfl (by kernel_rfl) ?_
      simp only [List.getElem_toArray, List.getElem_cons_succ, List.getElem_cons_zero]
      go_wp2_with fail
      with_reducible refine Calls.mono (imem2 m _ (by have := fo.out.mo; omega)) ?_
      rintro e wm ⟨aM, cM, rM, rfl, hlM, hrM, ownM, stM⟩
      have kM := own_bytes ownM
      go_wp2_with fail
      refine ⟨mkStep, ?_⟩
      refine rg_eff (i := 3) rfl (by kernel_rfl) ?_
      simp only [List.getElem_toArray, List.getElem_cons_succ, List.getElem_cons_zero]
      go_wp2_with fail
      with_reducible refine Calls.mono (isec 5 rM _ (by omega) (by omega) (by omega)) ?_
      rintro e wS ⟨aS, cS, rS, rfl, hlS, hrS, ownS, stS⟩
      have kS := own_bytes ownS
      obtain ⟨r4, hr4⟩ : ∃ r4, rq3 ++ rS = r4 := ⟨_, rfl⟩
      have hl4 : r4.length ≤ rq3.length + rS.length := by rw [← hr4, List.length_append]; omega
      have hg4 : rq3.length ≤ r4.length := by rw [← hr4, List.length_append]; omega
      have eq4 := hid (show r4 = by4 m by rw [← hr4, hrS.out, hrM.out, eq3.out]; unfold by4; rw [if_pos hp2]; unfold secBy secI; rw [if_neg (by omega)]; rw [show ((1 : Nat) : Int) = 1 from rfl, pu1.out]; rfl)
      go_wp2_with fail
      refine ⟨mkStep, ?_⟩
      refine rg_eff (i := 4) rfl (by kernel_rfl) ?_
      simp only [List.getElem_toArray, List.getElem_cons_succ, List.getElem_cons_zero]
      go_wp2_with (at_builtin; go_must (refine app_bs rfl (.tmp 32) (.tmp 35) 56 rfl 5 Tryz.bytes_tabP w1 aq3 cq3 rq3 rfl (own_keep ownq3) r4 rfl hr4 (by omega) ?_); intro a7 c7 w7 own7 st7 sx7)
      have b7 : BoxAt w7 w3.heap.size #[.slice aq3 rq3.length cq3] := inferInstance
      have q7 : Old w3.heap.size w7 := b7.l.old
      refine ⟨mkStep, ?_⟩
      refine rg_eff (i := 5) rfl (by kernel_rfl) ?_
      simp only [List.getElem_toArray, List.getElem_cons_succ, List.getElem_cons_zero]
      go_wp2_with fail
      refine ⟨mkStep, ?_⟩
      refine rg_done (by kernel_rfl) ?_
      have b4 : BoxL (w7.setCell ⟨w3.heap.size, 0, none⟩ (.slice a7 r4.length c7)) w3.heap.size #[.slice a7 r4.length c7] := boxSet rfl
      have own4 := ownsRow_fr (w' := w7.setCell ⟨w3.heap.size, 0, none⟩ (.slice a7 r4.length c7)) own7 (FrX.fr (S := [w3.heap.size])) (by rintro x hx hm; rw [List.mem_singleton] at hm; exact row_apart own7 b7.is (by intro c; simp) (by omega) (hm ▸ hx))
      go_wp2_with fail
      with_reducible refine Calls.mono (iadd 87 _ _ m.globals glBy 20 20000 6 w1 _ own4 (by omega) (by omega) Tryz.call87 (by omega) (by omega) (by omega) (by omega) (by omega) (by omega) (by intro k hk wr st; exact icl5 m k wr hk)) ?_
      rintro e wq5 ⟨aq5, cq5, rq5, rfl, hgq5, hlq5, hrq5, ownq5, bqq5, stq5⟩
      have eq5 := hid (show rq5 = by5 m by rw [hrq5.out, eq4.out]; rfl)
      go_wp2_with fail
      with_reducible refine Calls.mono (iadd 89 _ _ m.exports exBy 100 100000 7 w1 _ (own_keep ownq5) (by omega) (by omega) Tryz.call89 (by omega) (by omega) (by omega) (by omega) (by omega) (by omega) (by intro k hk wr st; exact icl6 m k wr hk fo.out.exs)) ?_
      rintro e wq6 ⟨aq6, cq6, rq6, rfl, hgq6, hlq6, hrq6, ownq6, bqq6, stq6⟩
      have eq6 := hid (show rq6 = by6 m by rw [hrq6.out, eq5.out]; rfl)
      go_wp2_with fail
      with_reducible refine Calls.mono (iadd 90 _ _ m.funcs fnBy 50000 3000000 10 w1 _ (own_keep ownq6) (by omega) (by omega) Tryz.call90 (by omega) (by omega) (by omega) (by omega) (by omega) (by omega) (by intro k hk wr st; exact icl7 m k wr hk m.sigs.length fo.out.pa.fns)) ?_
      rintro e wq7 ⟨aq7, cq7, rq7, rfl, hgq7, hlq7, hrq7, ownq7, bqq7, stq7⟩
      have eq7 := hid (show rq7 = by7 m by rw [hrq7.out, eq6.out]; rfl)
      go_wp2_with fail
      with_reducible refine Calls.mono (iadd 92 _ _ m.data daBy 2100 100000 11 w1 _ (own_keep ownq7) (by omega) (by omega) Tryz.call92 (by omega) (by omega) (by omega) (by omega) (by omega) (by omega) (by intro k hk wr st; exact icl8 m k wr hk fo.out.das)) ?_
      rintro e wq8 ⟨aq8, cq8, rq8, rfl, hgq8, hlq8, hrq8, ownq8, bqq8, stq8⟩
      have eq8 := hid (show rq8 = modBy m by rw [hrq8.out, eq7.out]; rfl)
      go_wp2
      go_ret2
      exact ⟨aq8, cq8, rq8, rfl, by omega, eq8, own_weak ownq8 mkFr.size, mkStep⟩
    · simp only [List.getElem_toArray, List.getElem_cons_succ, List.getElem_cons_zero]
      go_wp2_with fail
      with_reducible refine Calls.mono (imem2 m _ (by have := fo.out.mo; omega)) ?_
      rintro e wm ⟨aM, cM, rM, rfl, hlM, hrM, ownM, stM⟩
      have kM := own_bytes ownM
      go_wp2_with fail
      refine ⟨mkStep, ?_⟩
      refine rg_two (i := 0) (j := 3) rfl rfl (by kernel_rfl) ?_ ?_
      · simp only [List.getElem_toArray, List.getElem_cons_zero]
        go_wp2_with fail
        refine ⟨mkStep, ?_⟩
        refine rg_eff (i := 3) rfl (by kernel_rfl) ?_
        simp only [List.getElem_toArray, List.getElem_cons_succ, List.getElem_cons_zero]
        go_wp2_with fail
        with_reducible refine Calls.mono (isec 5 rM _ (by omega) (by omega) (by omega)) ?_
        rintro e wS ⟨aS, cS, rS, rfl, hlS, hrS, ownS, stS⟩
        have kS := own_bytes ownS
        obtain ⟨r4, hr4⟩ : ∃ r4, rq3 ++ rS = r4 := ⟨_, rfl⟩
        have hl4 : r4.length ≤ rq3.length + rS.length := by rw [← hr4, List.length_append]; omega
        have hg4 : rq3.length ≤ r4.length := by rw [← hr4, List.length_append]; omega
        have eq4 := hid (show r4 = by4 m by rw [← hr4, hrS.out, hrM.out, eq3.out]; unfold by4; rw [if_pos hp2]; unfold secBy secI; rw [if_neg (by omega)]; rw [show ((1 : Nat) : Int) = 1 from rfl, pu1.out]; rfl)
        go_wp2_with fail
        refine ⟨mkStep, ?_⟩
        refine rg_eff (i := 4) rfl (by kernel_rfl) ?_
        simp only [List.getElem_toArray, List.getElem_cons_succ, List.getElem_cons_zero]
        go_wp2_with (at_builtin; go_must (refine app_bs rfl (.tmp 32) (.tmp 35) 56 rfl 5 Tryz.bytes_tabP w1 aq3 cq3 rq3 rfl (own_keep ownq3) r4 rfl hr4 (by omega) ?_); intro a7 c7 w7 own7 st7 sx7)
        have b7 : BoxAt w7 w3.heap.size #[.slice aq3 rq3.length cq3] := inferInstance
        have q7 : Old w3.heap.size w7 := b7.l.old
        refine ⟨mkStep, ?_⟩
        refine rg_eff (i := 5) rfl (by kernel_rfl) ?_
        simp only [List.getElem_toArray, List.getElem_cons_succ, List.getElem_cons_zero]
        go_wp2_with fail
        refine ⟨mkStep, ?_⟩
        refine rg_done (by kernel_rfl) ?_
        have b4 : BoxL (w7.setCell ⟨w3.heap.size, 0, none⟩ (.slice a7 r4.length c7)) w3.heap.size #[.slice a7 r4.length c7] := boxSet rfl
        have own4 := ownsRow_fr (w' := w7.setCell ⟨w3.heap.size, 0, none⟩ (.slice a7 r4.length c7)) own7 (FrX.fr (S := [w3.heap.size])) (by rintro x hx hm; rw [List.mem_singleton] at hm; exact row_apart own7 b7.is (by intro c; simp) (by omega) (hm ▸ hx))
        go_wp2_with fail
        with_reducible refine Calls.mono (iadd 87 _ _ m.globals glBy 20 20000 6 w1 _ own4 (by omega) (by omega) Tryz.call87 (by omega) (by omega) (by omega) (by omega) (by omega) (by omega) (by intro k hk wr st; exact icl5 m k wr hk)) ?_
        rintro e wq5 ⟨aq5, cq5, rq5, rfl, hgq5, hlq5, hrq5, ownq5, bqq5, stq5⟩
        have eq5 := hid (show rq5 = by5 m by rw [hrq5.out, eq4.out]; rfl)
        go_wp2_with fail
        with_reducible refine Calls.mono (iadd 89 _ _ m.exports exBy 100 100000 7 w1 _ (own_keep ownq5) (by omega) (by omega) Tryz.call89 (by omega) (by omega) (by omega) (by omega) (by omega) (by omega) (by intro k hk wr st; exact icl6 m k wr hk fo.out.exs)) ?_
        rintro e wq6 ⟨aq6, cq6, rq6, rfl, hgq6, hlq6, hrq6, ownq6, bqq6, stq6⟩
        have eq6 := hid (show rq6 = by6 m by rw [hrq6.out, eq5.out]; rfl)
        go_wp2_with fail
        with_reducible refine Calls.mono (iadd 90 _ _ m.funcs fnBy 50000 3000000 10 w1 _ (own_keep ownq6) (by omega) (by omega) Tryz.call90 (by omega) (by omega) (by omega) (by omega) (by omega) (by omega) (by intro k hk wr st; exact icl7 m k wr hk m.sigs.length fo.out.pa.fns)) ?_
        rintro e wq7 ⟨aq7, cq7, rq7, rfl, hgq7, hlq7, hrq7, ownq7, bqq7, stq7⟩
        have eq7 := hid (show rq7 = by7 m by rw [hrq7.out, eq6.out]; rfl)
        go_wp2_with fail
        with_reducible refine Calls.mono (iadd 92 _ _ m.data daBy 2100 100000 11 w1 _ (own_keep ownq7) (by omega) (by omega) Tryz.call92 (by omega) (by omega) (by omega) (by omega) (by omega) (by omega) (by intro k hk wr st; exact icl8 m k wr hk fo.out.das)) ?_
        rintro e wq8 ⟨aq8, cq8, rq8, rfl, hgq8, hlq8, hrq8, ownq8, bqq8, stq8⟩
        have eq8 := hid (show rq8 = modBy m by rw [hrq8.out, eq7.out]; rfl)
        go_wp2
        go_ret2
        exact ⟨aq8, cq8, rq8, rfl, by omega, eq8, own_weak ownq8 mkFr.size, mkStep⟩
      · simp only [List.getElem_toArray, List.getElem_cons_succ, List.getElem_cons_zero]
        go_wp2_with fail
        with_reducible refine Calls.mono (isec 5 rM _ (by omega) (by omega) (by omega)) ?_
        rintro e wS ⟨aS, cS, rS, rfl, hlS, hrS, ownS, stS⟩
        have kS := own_bytes ownS
        obtain ⟨r4, hr4⟩ : ∃ r4, rq3 ++ rS = r4 := ⟨_, rfl⟩
        have hl4 : r4.length ≤ rq3.length + rS.length := by rw [← hr4, List.length_append]; omega
        have hg4 : rq3.length ≤ r4.length := by rw [← hr4, List.length_append]; omega
        have eq4 := hid (show r4 = by4 m by rw [← hr4, hrS.out, hrM.out, eq3.out]; unfold by4; rw [if_pos hp2]; unfold secBy secI; rw [if_neg (by omega)]; rw [show ((1 : Nat) : Int) = 1 from rfl, pu1.out]; rfl)
        go_wp2_with fail
        refine ⟨mkStep, ?_⟩
        refine rg_eff (i := 0) rfl (by kernel_rfl) ?_
        simp only [List.getElem_toArray, List.getElem_cons_zero]
        go_wp2_with fail
        refine ⟨mkStep, ?_⟩
        refine rg_eff (i := 4) rfl (by kernel_rfl) ?_
        simp only [List.getElem_toArray, List.getElem_cons_succ, List.getElem_cons_zero]
        go_wp2_with (at_builtin; go_must (refine app_bs rfl (.tmp 32) (.tmp 35) 56 rfl 5 Tryz.bytes_tabP w1 aq3 cq3 rq3 rfl (own_keep ownq3) r4 rfl hr4 (by omega) ?_); intro a7 c7 w7 own7 st7 sx7)
        have b7 : BoxAt w7 w3.heap.size #[.slice aq3 rq3.length cq3] := inferInstance
        have q7 : Old w3.heap.size w7 := b7.l.old
        refine ⟨mkStep, ?_⟩
        refine rg_eff (i := 5) rfl (by kernel_rfl) ?_
        simp only [List.getElem_toArray, List.getElem_cons_succ, List.getElem_cons_zero]
        go_wp2_with fail
        refine ⟨mkStep, ?_⟩
        refine rg_done (by kernel_rfl) ?_
        have b4 : BoxL (w7.setCell ⟨w3.heap.size, 0, none⟩ (.slice a7 r4.length c7)) w3.heap.size #[.slice a7 r4.length c7] := boxSet rfl
        have own4 := ownsRow_fr (w' := w7.setCell ⟨w3.heap.size, 0, none⟩ (.slice a7 r4.length c7)) own7 (FrX.fr (S := [w3.heap.size])) (by rintro x hx hm; rw [List.mem_singleton] at hm; exact row_apart own7 b7.is (by intro c; simp) (by omega) (hm ▸ hx))
        go_wp2_with fail
        with_reducible refine Calls.mono (iadd 87 _ _ m.globals glBy 20 20000 6 w1 _ own4 (by omega) (by omega) Tryz.call87 (by omega) (by omega) (by omega) (by omega) (by omega) (by omega) (by intro k hk wr st; exact icl5 m k wr hk)) ?_
        rintro e wq5 ⟨aq5, cq5, rq5, rfl, hgq5, hlq5, hrq5, ownq5, bqq5, stq5⟩
        have eq5 := hid (show rq5 = by5 m by rw [hrq5.out, eq4.out]; rfl)
        go_wp2_with fail
        with_reducible refine Calls.mono (iadd 89 _ _ m.exports exBy 100 100000 7 w1 _ (own_keep ownq5) (by omega) (by omega) Tryz.call89 (by omega) (by omega) (by omega) (by omega) (by omega) (by omega) (by intro k hk wr st; exact icl6 m k wr hk fo.out.exs)) ?_
        rintro e wq6 ⟨aq6, cq6, rq6, rfl, hgq6, hlq6, hrq6, ownq6, bqq6, stq6⟩
        have eq6 := hid (show rq6 = by6 m by rw [hrq6.out, eq5.out]; rfl)
        go_wp2_with fail
        with_reducible refine Calls.mono (iadd 90 _ _ m.funcs fnBy 50000 3000000 10 w1 _ (own_keep ownq6) (by omega) (by omega) Tryz.call90 (by omega) (by omega) (by omega) (by omega) (by omega) (by omega) (by intro k hk wr st; exact icl7 m k wr hk m.sigs.length fo.out.pa.fns)) ?_
        rintro e wq7 ⟨aq7, cq7, rq7, rfl, hgq7, hlq7, hrq7, ownq7, bqq7, stq7⟩
        have eq7 := hid (show rq7 = by7 m by rw [hrq7.out, eq6.out]; rfl)
        go_wp2_with fail
        with_reducible refine Calls.mono (iadd 92 _ _ m.data daBy 2100 100000 11 w1 _ (own_keep ownq7) (by omega) (by omega) Tryz.call92 (by omega) (by omega) (by omega) (by omega) (by omega) (by omega) (by intro k hk wr st; exact icl8 m k wr hk fo.out.das)) ?_
        rintro e wq8 ⟨aq8, cq8, rq8, rfl, hgq8, hlq8, hrq8, ownq8, bqq8, stq8⟩
        have eq8 := hid (show rq8 = modBy m by rw [hrq8.out, eq7.out]; rfl)
        go_wp2
        go_ret2
        exact ⟨aq8, cq8, rq8, rfl, by omega, eq8, own_weak ownq8 mkFr.size, mkStep⟩
end Go.Proofs.YtociekeaiigpfaaGreatDoor
namespace Go.Proofs.YtociekeaiigpfaaGreatDoor
attribute [local go_sem ↓] Go.wp_at_zero Go.wp_at_succ
open Go.RowKit
open Rep (Is sz)

theorem ssec1 {A : World} {G : List Nat} {v : Value} {ao : Option Addr} {cap : Nat} (b : List UInt8) (id : Int) (cc : List UInt8) (w : World) [fA : Fr0 A w] (own : w.ownsRow A.heap.size 5 1 (.slice ao b.length cap) b.length (byteVs b)) (hb : b.length ≤ 100000000) (h0 : 0 ≤ id) (h1 : id < 256) (hcl : cc.length ≤ 100000000) [h : Shows w G cc [v]] :
    Calls Tryz.prog 62 #[.slice ao b.length cap, .int .i64 id, .int .i64 1, v] w (RowBy A (b ++ secBy id 1 cc) (b.length + cc.length + 11)) := ssec b id 1 cc w own hb h0 h1 (by omega) hcl
set_option maxRecDepth 10000 in
set_option maxHeartbeats 4000000 in
theorem smodby {F : List Nat} {cs : List Value} (m : ModuleD) (w : World) (hz : moduleCost m ≤ 1048576) [hm : Shows w F m cs] : Calls Tryz.prog 24 #[.agg cs.toArray] w (ModBy w m) := by
  have kk := hm.known
  obtain ⟨a1, k1, a2, k2, a3, k3, a4, k4, a5, k5, a6, k6, F1, F2, F3, F4, F5, F6, rfl, rfl, h1, h2, h3, h4, h5, h6, i3, i4⟩ := module_open hm.is
  clear hm
  cases hF : pB (FormP m)
  · unfold ModBy
    rw [hF]
    go_enter Tryz.func24, Tryz.ntmps24
    go_wp2_with fail
    with_reducible refine Calls.mono (sform m _ hz) ?_
    rintro e w1 ⟨rfl, st1⟩
    rw [hF]
    go_wp2
    go_ret2
    exact ⟨none, 0, [], rfl, by simp, hid rfl, World.ownsRow_nil .., mkStep⟩
  have fo : FormP m := pB_iff.1 hF
  have z0 := fo.pa.z0
  have z1 := fo.pa.z1
  have z2 := fo.z2
  have z3 := fo.z3
  have z4 := fo.z4
  replace fo := hid fo
  have q1 : Known w F1 m.sigs _ := ⟨h1⟩
  have q2 : Known w F2 m.imports _ := ⟨h2⟩
  have q3 : Known w F3 m.funcs _ := ⟨h3⟩
  have q4 : Known w F4 m.globals _ := ⟨h4⟩
  have q5 : Known w F5 m.exports _ := ⟨h5⟩
  have q6 : Known w F6 m.data _ := ⟨h6⟩
  unfold ModBy
  rw [hF]
  go_enter Tryz.func24, Tryz.ntmps24
  go_wp2_with fail
  with_reducible refine Calls.mono (sform m _ hz) ?_
  rintro e w1 ⟨rfl, st1⟩
  rw [hF]
  replace hF := hid hF
  go_wp2_with fail
  with_reducible refine Calls.mono (sfns m.funcs m.sigs.length _ (by omega) fo.out.pa.fns) ?_
  rintro e w2 ⟨aF, cF, rF, aG, cG, rG, rfl, hlF, hlG, hrF, hrG, ownF, ownG, st2⟩
  have kF := own_bytes ownF
  have kG := own_bytes ownG
  go_wp2_with fail
  refine wp_name ?_
  intro A1 sA1
  refine rg_begin (n := 9) (Step A1) (by kernel_rfl) rfl ?_
  have rg0 := (show (Step A1) (World.drew _) from (show Step A1 A1.drew from mkStep))
  refine rg_read (i := 1) (a1 := _) rfl (by kernel_rfl) rfl (by simp) (by intro wq hwq; go_wp2; exact ⟨rfl, rfl⟩) rg0 ?_
  refine rg_read (i := 2) (a1 := _) rfl (by kernel_rfl) rfl (by simp) (by intro wq hwq; go_wp2; exact ⟨rfl, rfl⟩) rg0 ?_
  refine rg_read (i := 3) (a1 := _) rfl (by kernel_rfl) rfl (by simp) (by intro wq hwq; go_wp2; exact ⟨rfl, rfl⟩) rg0 ?_
  refine rg_read (i := 4) (a1 := _) rfl (by kernel_rfl) rfl (by simp) (by intro wq hwq; go_wp2; exact ⟨rfl, rfl⟩) rg0 ?_
  refine rg_read (i := 5) (a1 := _) rfl (by kernel_rfl) rfl (by simp) (by intro wq hwq; go_wp2; exact ⟨rfl, rfl⟩) rg0 ?_
  refine rg_eff (i := 0) rfl (by kernel_rfl) ?_
  simp only [List.getElem_toArray, List.getElem_cons_zero]
  go_wp2_with fail
  with_reducible refine Calls.mono (shead _) ?_
  rintro e w3 ⟨aH, cH, rH, rfl, hlH, hrH, ownH0, stH⟩
  have ownH := own_weak (B := A1.heap.size) ownH0 mkFr.size
  go_wp2_with fail
  refine ⟨mkStep, ?_⟩
  refine rg_eff (i := 6) rfl (by kernel_rfl) ?_
  simp only [List.getElem_toArray, List.getElem_cons_succ, List.getElem_cons_zero]
  go_wp2_with fail
  with_reducible refine Calls.mono (ssigs m.sigs _ (by omega) fo.out.pa.sigs) ?_
  rintro e wL ⟨aL, cL, rL, rfl, hlL, hrL, ownL, stL⟩
  have kL := own_bytes ownL
  go_wp2_with fail
  refine ⟨mkStep, ?_⟩
  refine rg_eff (i := 7) rfl (by kernel_rfl) ?_
  simp only [List.getElem_toArray, List.getElem_cons_succ, List.getElem_cons_zero]
  go_wp2_with fail
  with_reducible refine Calls.mono (ssec (A := A1) rH 1 m.sigs.length rL _ (own_keep ownH) (by omega) (by omega) (by omega) (by omega) (by omega)) ?_
  rintro e wS ⟨a1, c1, r1, rfl, hl1, hr1, own1, st1⟩
  go_wp2_with fail
  refine ⟨mkStep, ?_⟩
  refine rg_read (i := 8) (a1 := _) rfl (by kernel_rfl) rfl (by simp) (by intro wq hwq; go_wp2; exact ⟨rfl, rfl⟩) mkStep ?_
  refine rg_done (by kernel_rfl) ?_
  have e1 := hid (show r1 = by1 m by rw [hr1.out, hrH.out, hrL.out]; rfl)
  go_wp2_with fail
  refine rg_begin (n := 9) (Step A1) (by kernel_rfl) rfl ?_
  have rg0 := (show (Step A1) (World.drew _) from (show Step A1 wS.drew from mkStep))
  refine rg_read (i := 0) (a1 := _) rfl (by kernel_rfl) rfl (by simp) (by intro wq hwq; go_wp2; exact ⟨rfl, rfl⟩) rg0 ?_
  refine rg_read (i := 1) (a1 := _) rfl (by kernel_rfl) rfl (by simp) (by intro wq hwq; go_wp2; exact ⟨rfl, rfl⟩) rg0 ?_
  refine rg_read (i := 2) (a1 := _) rfl (by kernel_rfl) rfl (by simp) (by intro wq hwq; go_wp2; exact ⟨rfl, rfl⟩) rg0 ?_
  refine rg_read (i := 3) (a1 := _) rfl (by kernel_rfl) rfl (by simp) (by intro wq hwq; go_wp2; exact ⟨rfl, rfl⟩) rg0 ?_
  refine rg_read (i := 4) (a1 := _) rfl (by kernel_rfl) rfl (by simp) (by intro wq hwq; go_wp2; exact ⟨rfl, rfl⟩) rg0 ?_
  refine rg_read (i := 5) (a1 := _) rfl (by kernel_rfl) rfl (by simp) (by intro wq hwq; go_wp2; exact ⟨rfl, rfl⟩) rg0 ?_
  refine rg_eff (i := 6) rfl (by kernel_rfl) ?_
  simp only [List.getElem_toArray, List.getElem_cons_succ, List.getElem_cons_zero]
  go_wp2_with fail
  with_reducible refine Calls.mono (simps m.imports m.sigs.length _ (by omega) fo.out.pa.imps) ?_
  rintro e wL ⟨aL, cL, rL, rfl, hlL, hrL, ownL, stL⟩
  have kL := own_bytes ownL
  go_wp2_with fail
  refine ⟨mkStep, ?_⟩
  refine rg_eff (i := 7) rfl (by kernel_rfl) ?_
  simp only [List.getElem_toArray, List.getElem_cons_succ, List.getElem_cons_zero]
  go_wp2_with fail
  with_reducible refine Calls.mono (ssec (A := A1) r1 2 m.imports.length rL _ (own_keep own1) (by omega) (by omega) (by omega) (by omega) (by omega)) ?_
  rintro e wS ⟨a2, c2, r2, rfl, hl2, hr2, own2, st2⟩
  go_wp2_with fail
  refine ⟨mkStep, ?_⟩
  refine rg_read (i := 8) (a1 := _) rfl (by kernel_rfl) rfl (by simp) (by intro wq hwq; go_wp2; exact ⟨rfl, rfl⟩) mkStep ?_
  refine rg_done (by kernel_rfl) ?_
  have e2 := hid (show r2 = by2 m by rw [hr2.out, e1.out, hrL.out]; rfl)
  go_wp2_with fail
  with_reducible refine Calls.mono (ssec (A := A1) r2 3 m.funcs.length rF _ (own_keep own2) (by omega) (by omega) (by omega) (by omega) (by omega)) ?_
  rintro e wS ⟨a3, c3, r3, rfl, hl3, hr3, own3, st3⟩
  have e3 := hid (show r3 = by3 m by rw [hr3.out, e2.out, hrF.out]; rfl)
  by_cases hp : 0 ≤ m.pages
  · go_wp2_with fail
    with_reducible refine Calls.mono (smem m _) ?_
    rintro e wL ⟨aM, cM, rM, rfl, hlM, hrM, ownM, stM⟩
    have kM := own_bytes ownM
    go_wp2_with fail
    with_reducible refine Calls.mono (ssec1 (A := A1) r3 5 rM _ (own_keep own3) (by omega) (by omega) (by omega) (by omega)) ?_
    rintro e wS ⟨a4, c4, r4, rfl, hl4, hr4, own4, st4⟩
    have e4 := hid (show r4 = by4 m by rw [hr4.out, e3.out, hrM.out]; unfold by4; rw [if_pos hp])
    go_wp2_with fail
    refine rg_begin (n := 9) (Step A1) (by kernel_rfl) rfl ?_
    have rg0 := (show (Step A1) (World.drew _) from (show Step A1 wS.drew from mkStep))
    refine rg_read (i := 0) (a1 := _) rfl (by kernel_rfl) rfl (by simp) (by intro wq hwq; go_wp2; exact ⟨rfl, rfl⟩) rg0 ?_
    refine rg_read (i := 1) (a1 := _) rfl (by kernel_rfl) rfl (by simp) (by intro wq hwq; go_wp2; exact ⟨rfl, rfl⟩) rg0 ?_
    refine rg_read (i := 2) (a1 := _) rfl (by kernel_rfl) rfl (by simp) (by intro wq hwq; go_wp2; exact ⟨rfl, rfl⟩) rg0 ?_
    refine rg_read (i := 3) (a1 := _) rfl (by kernel_rfl) rfl (by simp) (by intro wq hwq; go_wp2; exact ⟨rfl, rfl⟩) rg0 ?_
    refine rg_read (i := 4) (a1 := _) rfl (by kernel_rfl) rfl (by simp) (by intro wq hwq; go_wp2; exact ⟨rfl, rfl⟩) rg0 ?_
    refine rg_read (i := 5) (a1 := _) rfl (by kernel_rfl) rfl (by simp) (by intro wq hwq; go_wp2; exact ⟨rfl, rfl⟩) rg0 ?_
    refine rg_eff (i := 6) rfl (by kernel_rfl) ?_
    simp only [List.getElem_toArray, List.getElem_cons_succ, List.getElem_cons_zero]
    go_wp2_with fail
    with_reducible refine Calls.mono (sgls m.globals _ (by omega)) ?_
    rintro e wL ⟨aL, cL, rL, rfl, hlL, hrL, ownL, stL⟩
    have kL := own_bytes ownL
    go_wp2_with fail
    refine ⟨mkStep, ?_⟩
    refine rg_eff (i := 7) rfl (by kernel_rfl) ?_
    simp only [List.getElem_toArray, List.getElem_cons_succ, List.getElem_cons_zero]
    go_wp2_with fail
    with_reducible refine Calls.mono (ssec (A := A1) r4 6 m.globals.length rL _ (own_keep own4) (by omega) (by omega) (by omega) (by omega) (by omega)) ?_
    rintro e wS ⟨a5, c5, r5, rfl, hl5, hr5, own5, st5⟩
    go_wp2_with fail
    refine ⟨mkStep, ?_⟩
    refine rg_read (i := 8) (a1 := _) rfl (by kernel_rfl) rfl (by simp) (by intro wq hwq; go_wp2; exact ⟨rfl, rfl⟩) mkStep ?_
    refine rg_done (by kernel_rfl) ?_
    have e5 := hid (show r5 = by5 m by rw [hr5.out, e4.out, hrL.out]; rfl)
    go_wp2_with fail
    refine rg_begin (n := 9) (Step A1) (by kernel_rfl) rfl ?_
    have rg0 := (show (Step A1) (World.drew _) from (show Step A1 wS.drew from mkStep))
    refine rg_read (i := 0) (a1 := _) rfl (by kernel_rfl) rfl (by simp) (by intro wq hwq; go_wp2; exact ⟨rfl, rfl⟩) rg0 ?_
    refine rg_read (i := 1) (a1 := _) rfl (by kernel_rfl) rfl (by simp) (by intro wq hwq; go_wp2; exact ⟨rfl, rfl⟩) rg0 ?_
    refine rg_read (i := 2) (a1 := _) rfl (by kernel_rfl) rfl (by simp) (by intro wq hwq; go_wp2; exact ⟨rfl, rfl⟩) rg0 ?_
    refine rg_read (i := 3) (a1 := _) rfl (by kernel_rfl) rfl (by simp) (by intro wq hwq; go_wp2; exact ⟨rfl, rfl⟩) rg0 ?_
    refine rg_read (i := 4) (a1 := _) rfl (by kernel_rfl) rfl (by simp) (by intro wq hwq; go_wp2; exact ⟨rfl, rfl⟩) rg0 ?_
    refine rg_read (i := 5) (a1 := _) rfl (by kernel_rfl) rfl (by simp) (by intro wq hwq; go_wp2; exact ⟨rfl, rfl⟩) rg0 ?_
    refine rg_eff (i := 6) rfl (by kernel_rfl) ?_
    simp only [List.getElem_toArray, List.getElem_cons_succ, List.getElem_cons_zero]
    go_wp2_with fail
    with_reducible refine Calls.mono (sexps m.exports _ (by omega) fo.out.exs) ?_
    rintro e wL ⟨aL, cL, rL, rfl, hlL, hrL, ownL, stL⟩
    have kL := own_bytes ownL
    go_wp2_with fail
    refine ⟨mkStep, ?_⟩
    refine rg_eff (i := 7) rfl (by kernel_rfl) ?_
    simp only [List.getElem_toArray, List.getElem_cons_succ, List.getElem_cons_zero]
    go_wp2_with fail
    with_reducible refine Calls.mono (ssec (A := A1) r5 7 m.exports.length rL _ (own_keep own5) (by omega) (by omega) (by omega) (by omega) (by omega)) ?_
    rintro e wS ⟨a6, c6, r6, rfl, hl6, hr6, own6, st6⟩
    go_wp2_with fail
    refine ⟨mkStep, ?_⟩
    refine rg_read (i := 8) (a1 := _) rfl (by kernel_rfl) rfl (by simp) (by intro wq hwq; go_wp2; exact ⟨rfl, rfl⟩) mkStep ?_
    refine rg_done (by kernel_rfl) ?_
    have e6 := hid (show r6 = by6 m by rw [hr6.out, e5.out, hrL.out]; rfl)
    go_wp2_with fail
    with_reducible refine Calls.mono (ssec (A := A1) r6 10 m.funcs.length rG _ (own_keep own6) (by omega) (by omega) (by omega) (by omega) (by omega)) ?_
    rintro e wS ⟨a7, c7, r7, rfl, hl7, hr7, own7, st7⟩
    have e7 := hid (show r7 = by7 m by rw [hr7.out, e6.out, hrG.out]; rfl)
    go_wp2_with fail
    refine rg_begin (n := 10) (Step A1) (by kernel_rfl) rfl ?_
    have rg0 := (show (Step A1) (World.drew _) from (show Step A1 wS.drew from mkStep))
    refine rg_read (i := 0) (a1 := _) rfl (by kernel_rfl) rfl (by simp) (by intro wq hwq; go_wp2; exact ⟨rfl, rfl⟩) rg0 ?_
    refine rg_read (i := 1) (a1 := _) rfl (by kernel_rfl) rfl (by simp) (by intro wq hwq; go_wp2; exact ⟨rfl, rfl⟩) rg0 ?_
    refine rg_read (i := 2) (a1 := _) rfl (by kernel_rfl) rfl (by simp) (by intro wq hwq; go_wp2; exact ⟨rfl, rfl⟩) rg0 ?_
    refine rg_read (i := 3) (a1 := _) rfl (by kernel_rfl) rfl (by simp) (by intro wq hwq; go_wp2; exact ⟨rfl, rfl⟩) rg0 ?_
    refine rg_read (i := 4) (a1 := _) rfl (by kernel_rfl) rfl (by simp) (by intro wq hwq; go_wp2; exact ⟨rfl, rfl⟩) rg0 ?_
    refine rg_read (i := 5) (a1 := _) rfl (by kernel_rfl) rfl (by simp) (by intro wq hwq; go_wp2; exact ⟨rfl, rfl⟩) rg0 ?_
    refine rg_eff (i := 6) rfl (by kernel_rfl) ?_
    simp only [List.getElem_toArray, List.getElem_cons_succ, List.getElem_cons_zero]
    go_wp2_with fail
    with_reducible refine Calls.mono (sdas m.data _ (by omega) fo.out.das) ?_
    rintro e wL ⟨aL, cL, rL, rfl, hlL, hrL, ownL, stL⟩
    have kL := own_bytes ownL
    go_wp2_with fail
    refine ⟨mkStep, ?_⟩
    refine rg_eff (i := 7) rfl (by kernel_rfl) ?_
    simp only [List.getElem_toArray, List.getElem_cons_succ, List.getElem_cons_zero]
    go_wp2_with fail
    with_reducible refine Calls.mono (ssec (A := A1) r7 11 m.data.length rL _ (own_keep own7) (by omega) (by omega) (by omega) (by omega) (by omega)) ?_
    rintro e wS ⟨a8, c8, r8, rfl, hl8, hr8, own8, st8⟩
    go_wp2_with fail
    refine ⟨mkStep, ?_⟩
    refine rg_read (i := 8) (a1 := _) rfl (by kernel_rfl) rfl (by simp) (by intro wq hwq; go_wp2; exact ⟨rfl, rfl⟩) mkStep ?_
    refine rg_read (i := 9) (a1 := _) rfl (by kernel_rfl) rfl (by simp) (by intro wq hwq; go_wp2; exact ⟨rfl, rfl⟩) mkStep ?_
    refine rg_done (by kernel_rfl) ?_
    go_wp2
    go_ret2
    exact ⟨a8, c8, r8, rfl, by omega, hid (by rw [hr8.out, e7.out, hrL.out]; rfl), own_weak own8 mkFr.size, mkStep⟩
  · have e4 := hid (show r3 = by4 m by rw [e3.out]; unfold by4; rw [if_neg hp, List.append_nil])
    go_wp2_with fail
    refine rg_begin (n := 9) (Step A1) (by kernel_rfl) rfl ?_
    have rg0 := (show (Step A1) (World.drew _) from (show Step A1 wS.drew from mkStep))
    refine rg_read (i := 0) (a1 := _) rfl (by kernel_rfl) rfl (by simp) (by intro wq hwq; go_wp2; exact ⟨rfl, rfl⟩) rg0 ?_
    refine rg_read (i := 1) (a1 := _) rfl (by kernel_rfl) rfl (by simp) (by intro wq hwq; go_wp2; exact ⟨rfl, rfl⟩) rg0 ?_
    refine rg_read (i := 2) (a1 := _) rfl (by kernel_rfl) rfl (by simp) (by intro wq hwq; go_wp2; exact ⟨rfl, rfl⟩) rg0 ?_
    refine rg_read (i := 3) (a1 := _) rfl (by kernel_rfl) rfl (by simp) (by intro wq hwq; go_wp2; exact ⟨rfl, rfl⟩) rg0 ?_
    refine rg_read (i := 4) (a1 := _) rfl (by kernel_rfl) rfl (by simp) (by intro wq hwq; go_wp2; exact ⟨rfl, rfl⟩) rg0 ?_
    refine rg_read (i := 5) (a1 := _) rfl (by kernel_rfl) rfl (by simp) (by intro wq hwq; go_wp2; exact ⟨rfl, rfl⟩) rg0 ?_
    refine rg_eff (i := 6) rfl (by kernel_rfl) ?_
    simp only [List.getElem_toArray, List.getElem_cons_succ, List.getElem_cons_zero]
    go_wp2_with fail
    with_reducible refine Calls.mono (sgls m.globals _ (by omega)) ?_
    rintro e wL ⟨aL, cL, rL, rfl, hlL, hrL, ownL, stL⟩
    have kL := own_bytes ownL
    go_wp2_with fail
    refine ⟨mkStep, ?_⟩
    refine rg_eff (i := 7) rfl (by kernel_rfl) ?_
    simp only [List.getElem_toArray, List.getElem_cons_succ, List.getElem_cons_zero]
    go_wp2_with fail
    with_reducible refine Calls.mono (ssec (A := A1) r3 6 m.globals.length rL _ (own_keep own3) (by omega) (by omega) (by omega) (by omega) (by omega)) ?_
    rintro e wS ⟨a5, c5, r5, rfl, hl5, hr5, own5, st5⟩
    go_wp2_with fail
    refine ⟨mkStep, ?_⟩
    refine rg_read (i := 8) (a1 := _) rfl (by kernel_rfl) rfl (by simp) (by intro wq hwq; go_wp2; exact ⟨rfl, rfl⟩) mkStep ?_
    refine rg_done (by kernel_rfl) ?_
    have e5 := hid (show r5 = by5 m by rw [hr5.out, e4.out, hrL.out]; rfl)
    go_wp2_with fail
    refine rg_begin (n := 9) (Step A1) (by kernel_rfl) rfl ?_
    have rg0 := (show (Step A1) (World.drew _) from (show Step A1 wS.drew from mkStep))
    refine rg_read (i := 0) (a1 := _) rfl (by kernel_rfl) rfl (by simp) (by intro wq hwq; go_wp2; exact ⟨rfl, rfl⟩) rg0 ?_
    refine rg_read (i := 1) (a1 := _) rfl (by kernel_rfl) rfl (by simp) (by intro wq hwq; go_wp2; exact ⟨rfl, rfl⟩) rg0 ?_
    refine rg_read (i := 2) (a1 := _) rfl (by kernel_rfl) rfl (by simp) (by intro wq hwq; go_wp2; exact ⟨rfl, rfl⟩) rg0 ?_
    refine rg_read (i := 3) (a1 := _) rfl (by kernel_rfl) rfl (by simp) (by intro wq hwq; go_wp2; exact ⟨rfl, rfl⟩) rg0 ?_
    refine rg_read (i := 4) (a1 := _) rfl (by kernel_rfl) rfl (by simp) (by intro wq hwq; go_wp2; exact ⟨rfl, rfl⟩) rg0 ?_
    refine rg_read (i := 5) (a1 := _) rfl (by kernel_rfl) rfl (by simp) (by intro wq hwq; go_wp2; exact ⟨rfl, rfl⟩) rg0 ?_
    refine rg_eff (i := 6) rfl (by kernel_rfl) ?_
    simp only [List.getElem_toArray, List.getElem_cons_succ, List.getElem_cons_zero]
    go_wp2_with fail
    with_reducible refine Calls.mono (sexps m.exports _ (by omega) fo.out.exs) ?_
    rintro e wL ⟨aL, cL, rL, rfl, hlL, hrL, ownL, stL⟩
    have kL := own_bytes ownL
    go_wp2_with fail
    refine ⟨mkStep, ?_⟩
    refine rg_eff (i := 7) rfl (by kernel_rfl) ?_
    simp only [List.getElem_toArray, List.getElem_cons_succ, List.getElem_cons_zero]
    go_wp2_with fail
    with_reducible refine Calls.mono (ssec (A := A1) r5 7 m.exports.length rL _ (own_keep own5) (by omega) (by omega) (by omega) (by omega) (by omega)) ?_
    rintro e wS ⟨a6, c6, r6, rfl, hl6, hr6, own6, st6⟩
    go_wp2_with fail
    refine ⟨mkStep, ?_⟩
    refine rg_read (i := 8) (a1 := _) rfl (by kernel_rfl) rfl (by simp) (by intro wq hwq; go_wp2; exact ⟨rfl, rfl⟩) mkStep ?_
    refine rg_done (by kernel_rfl) ?_
    have e6 := hid (show r6 = by6 m by rw [hr6.out, e5.out, hrL.out]; rfl)
    go_wp2_with fail
    with_reducible refine Calls.mono (ssec (A := A1) r6 10 m.funcs.length rG _ (own_keep own6) (by omega) (by omega) (by omega) (by omega) (by omega)) ?_
    rintro e wS ⟨a7, c7, r7, rfl, hl7, hr7, own7, st7⟩
    have e7 := hid (show r7 = by7 m by rw [hr7.out, e6.out, hrG.out]; rfl)
    go_wp2_with fail
    refine rg_begin (n := 10) (Step A1) (by kernel_rfl) rfl ?_
    have rg0 := (show (Step A1) (World.drew _) from (show Step A1 wS.drew from mkStep))
    refine rg_read (i := 0) (a1 := _) rfl (by kernel_rfl) rfl (by simp) (by intro wq hwq; go_wp2; exact ⟨rfl, rfl⟩) rg0 ?_
    refine rg_read (i := 1) (a1 := _) rfl (by kernel_rfl) rfl (by simp) (by intro wq hwq; go_wp2; exact ⟨rfl, rfl⟩) rg0 ?_
    refine rg_read (i := 2) (a1 := _) rfl (by kernel_rfl) rfl (by simp) (by intro wq hwq; go_wp2; exact ⟨rfl, rfl⟩) rg0 ?_
    refine rg_read (i := 3) (a1 := _) rfl (by kernel_rfl) rfl (by simp) (by intro wq hwq; go_wp2; exact ⟨rfl, rfl⟩) rg0 ?_
    refine rg_read (i := 4) (a1 := _) rfl (by kernel_rfl) rfl (by simp) (by intro wq hwq; go_wp2; exact ⟨rfl, rfl⟩) rg0 ?_
    refine rg_read (i := 5) (a1 := _) rfl (by kernel_rfl) rfl (by simp) (by intro wq hwq; go_wp2; exact ⟨rfl, rfl⟩) rg0 ?_
    refine rg_eff (i := 6) rfl (by kernel_rfl) ?_
    simp only [List.getElem_toArray, List.getElem_cons_succ, List.getElem_cons_zero]
    go_wp2_with fail
    with_reducible refine Calls.mono (sdas m.data _ (by omega) fo.out.das) ?_
    rintro e wL ⟨aL, cL, rL, rfl, hlL, hrL, ownL, stL⟩
    have kL := own_bytes ownL
    go_wp2_with fail
    refine ⟨mkStep, ?_⟩
    refine rg_eff (i := 7) rfl (by kernel_rfl) ?_
    simp only [List.getElem_toArray, List.getElem_cons_succ, List.getElem_cons_zero]
    go_wp2_with fail
    with_reducible refine Calls.mono (ssec (A := A1) r7 11 m.data.length rL _ (own_keep own7) (by omega) (by omega) (by omega) (by omega) (by omega)) ?_
    rintro e wS ⟨a8, c8, r8, rfl, hl8, hr8, own8, st8⟩
    go_wp2_with fail
    refine ⟨mkStep, ?_⟩
    refine rg_read (i := 8) (a1 := _) rfl (by kernel_rfl) rfl (by simp) (by intro wq hwq; go_wp2; exact ⟨rfl, rfl⟩) mkStep ?_
    refine rg_read (i := 9) (a1 := _) rfl (by kernel_rfl) rfl (by simp) (by intro wq hwq; go_wp2; exact ⟨rfl, rfl⟩) mkStep ?_
    refine rg_done (by kernel_rfl) ?_
    go_wp2
    go_ret2
    exact ⟨a8, c8, r8, rfl, by omega, hid (by rw [hr8.out, e7.out, hrL.out]; rfl), own_weak own8 mkFr.size, mkStep⟩
end Go.Proofs.YtociekeaiigpfaaGreatDoor
namespace Go.Proofs.YtociekeaiigpfaaGreatDoor
attribute [local go_sem ↓] Go.wp_at_zero Go.wp_at_succ
open Go.RowKit
open Rep (Is sz)

def digK (l : List UInt8) (k : Nat) : Int := (l.take k).foldl (fun n x => (131 * n + (x.toNat : Int)) % 1000003) 5
theorem digK_succ (l : List UInt8) (k : Nat) (h : k < l.length) : digK l (k + 1) = (131 * digK l k + (l[k].toNat : Int)) % 1000003 := by
  unfold digK
  rw [List.take_succ_eq_append_getElem h, List.foldl_append]; rfl
noncomputable def digOf (m : ModuleD) : Int := if pB (FormP m) = true then digK (modBy m) (modBy m).length else -1

set_option maxHeartbeats 1000000 in
theorem sdigest {F : List Nat} {cs : List Value} (m : ModuleD) (w : World) (hz : moduleCost m ≤ 1048576) [hm : Shows w F m cs] : Calls Tryz.prog 7 #[.agg cs.toArray] w fun e w' => e = .returned (.int .i64 (digOf m)) ∧ Step w w' := by
  have kk := hm.known
  obtain ⟨a1, k1, a2, k2, a3, k3, a4, k4, a5, k5, a6, k6, F1, F2, F3, F4, F5, F6, rfl, rfl, h1, h2, h3, h4, h5, h6, i3, i4⟩ := module_open hm.is
  clear hm h1 h2 h3 h4 h5 h6
  go_enter Tryz.func7, Tryz.ntmps7
  go_wp2_with fail
  with_reducible refine Calls.mono (smodby m _ hz) ?_
  rintro e w1 ⟨ao, co, r, rfl, hrl, hre, own, st1⟩
  cases hF : pB (FormP m)
  · have hd := hid (show digOf m = -1 by unfold digOf; rw [hF]; rfl)
    replace hF := hid hF
    go_wp2
    go_ret
    exact ⟨by rw [hd.out]; rfl, mkStep⟩
  · have hr2 : r = modBy m := by rw [hre.out, hF]; rfl
    have hd : digOf m = digK r r.length := by unfold digOf; rw [hF, hr2]; rfl
    replace hd := hid hd
    replace hr2 := hid hr2
    clear hre
    replace hF := hid hF
    have hvw := ownsRow_view own
    go_wp2_with fail
    go_loopw [5, 17] (fun n i wr => ∃ (k : Nat) (d : Int), k ≤ r.length ∧ i = .int .i64 k ∧ n = .int .i64 d ∧ 0 ≤ d ∧ d < 1000003 ∧ Hid (d = digK r k) ∧ Step w1 wr) (fun _ i _ => r.length - (intOf i).toNat)
    case atStart => exact ⟨0, 5, by omega, rfl, rfl, by omega, by omega, hid rfl, mkStep⟩
    case round =>
      obtain ⟨k, d, hk, rfl, rfl, hd0, hd1, hde, st⟩ := hrel
      by_cases hlt : k < r.length
      · have hq := hid (digK_succ r k hlt)
        have hb := r[k].toNat_lt
        obtain ⟨b, o, rfl, hc, _⟩ := byte_cell hvw k hlt
        go_wp2
        go_roundw
        case rel => exact ⟨k + 1, (131 * d + (r[k].toNat : Int)) % 1000003, by omega, by go_num, by go_num, by omega, by omega, hid (by rw [hq.out, ← hde.out]), mkStep⟩
        case measure => simp [intOf]; omega
      · obtain rfl : k = r.length := by omega
        go_wp2
        go_ret
        exact ⟨by rw [hd.out, ← hde.out]; rfl, mkStep⟩
end Go.Proofs.YtociekeaiigpfaaGreatDoor
namespace Go.Proofs.YtociekeaiigpfaaGreatDoor
attribute [local go_sem ↓] Go.wp_at_zero Go.wp_at_succ
open Go.RowKit
open Rep (Is sz)

set_option maxHeartbeats 1000000 in
theorem idigest {F : List Nat} {cs : List Value} (m : ModuleD) (w : World) (hz : moduleCost m ≤ 1048576) [hm : Shows w F m cs] [hU : HasU8 w] : Calls Tryz.prog 9 #[.agg cs.toArray] w fun e w' => e = .returned (.int .i64 (digOf m)) ∧ Step w w' := by
  have kk := hm.known
  have kU := hU.known
  obtain ⟨a1, k1, a2, k2, a3, k3, a4, k4, a5, k5, a6, k6, F1, F2, F3, F4, F5, F6, rfl, rfl, h1, h2, h3, h4, h5, h6, i3, i4⟩ := module_open hm.is
  clear hm hU h1 h2 h3 h4 h5 h6
  go_enter Tryz.func9, Tryz.ntmps9
  go_wp2_with fail
  with_reducible refine Calls.mono (imodby m _ hz) ?_
  rintro e w1 ⟨ao, co, r, rfl, hrl, hre, own, st1⟩
  cases hF : pB (FormP m)
  · have hd := hid (show digOf m = -1 by unfold digOf; rw [hF]; rfl)
    replace hF := hid hF
    go_wp2
    go_ret
    exact ⟨by rw [hd.out]; rfl, mkStep⟩
  · have hr2 : r = modBy m := by rw [hre.out, hF]; rfl
    have hd : digOf m = digK r r.length := by unfold digOf; rw [hF, hr2]; rfl
    replace hd := hid hd
    replace hr2 := hid hr2
    clear hre
    replace hF := hid hF
    have hvw := ownsRow_view own
    go_wp2_with fail
    go_loopw [5, 17] (fun n i wr => ∃ (k : Nat) (d : Int), k ≤ r.length ∧ i = .int .i64 k ∧ n = .int .i64 d ∧ 0 ≤ d ∧ d < 1000003 ∧ Hid (d = digK r k) ∧ Step w1 wr) (fun _ i _ => r.length - (intOf i).toNat)
    case atStart => exact ⟨0, 5, by omega, rfl, rfl, by omega, by omega, hid rfl, mkStep⟩
    case round =>
      obtain ⟨k, d, hk, rfl, rfl, hd0, hd1, hde, st⟩ := hrel
      by_cases hlt : k < r.length
      · have hq := hid (digK_succ r k hlt)
        have hb := r[k].toNat_lt
        obtain ⟨b, o, rfl, hc, _⟩ := byte_cell hvw k hlt
        go_wp2
        go_roundw
        case rel => exact ⟨k + 1, (131 * d + (r[k].toNat : Int)) % 1000003, by omega, by go_num, by go_num, by omega, by omega, hid (by rw [hq.out, ← hde.out]), mkStep⟩
        case measure => simp [intOf]; omega
      · obtain rfl : k = r.length := by omega
        go_wp2
        go_ret
        exact ⟨by rw [hd.out, ← hde.out]; rfl, mkStep⟩
end Go.Proofs.YtociekeaiigpfaaGreatDoor
