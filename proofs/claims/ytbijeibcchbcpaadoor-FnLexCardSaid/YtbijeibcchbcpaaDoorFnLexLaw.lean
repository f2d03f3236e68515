/- The walk of FnLex. -/
import Derived.Test.YtbijeibcchbcpaaDoorLexD
import Derived.Test.YtbijeibcchbcpaaDoorArgS
import Derived.Test.YtbijeibcchbcpaaDoorBytes
import Derived.Shelf.Vars
import Derived.MakeChecks
namespace Go.Proofs.YtbijeibcchbcpaaDoor
attribute [local go_sem ↓] Go.wp_at_zero Go.wp_at_succ
open Go.RowKit Go.ChangeShapes Go.WideShapes
open Rep (Is sz)

set_option maxRecDepth 100000 in
theorem FnLex_pow {W : World} (h : laidMetH Tryd.prog Rows.fnLexRow.laid W) : Pow W :=
  tabIs_named (rest := [("unicode.White_Space", Rows.laid_unicode_White_Space), ("strings.asciiSpace", Rows.laid_strings_asciiSpace)]) (t := 94) (by kernel_rfl) Tryd.underlying94 Tryd.underlying83 (by kernel_rfl) (by kernel_rfl) (laidMet_tail (laidMet_tail h))
set_option maxRecDepth 100000 in
theorem FnLex_asc {W : World} (h : laidMetH Tryd.prog Rows.fnLexRow.laid W) : Asc W :=
  tabIs_named (rest := []) (t := 76) (by kernel_rfl) Tryd.underlying76 Tryd.underlying5 (by kernel_rfl) (by kernel_rfl) (laidMet_tail (laidMet_tail (laidMet_tail (laidMet_tail h))))
/-- MaxLen holds some number. -/
theorem ml_of {W : World} (h : W.ShapedOpen Tryd.prog) : MlB W :=
  Go.Proofs.cell_of_shapedOpen_int (zero := #[.int .i64 0]) (t := 3) h (of_decide_eq_true (by kernel_rfl)) (by kernel_rfl) rfl (by kernel_rfl) (by kernel_rfl) Tryd.underlying3

set_option maxRecDepth 20000 in
set_option maxHeartbeats 8000000 in
theorem FnLex_walk {H : Type} {enc : TypeId × Value → H} (W : World) (base : Nat) {d0 : DataW H} {p0 : List MemPlace} (v0 : Value)
    (k0 : Value.okWide Tryd.prog W .any base 22 v0) (h0 : DataW.Trod enc Tryd.prog W 0 (fun _ => true) true 22 v0 d0 p0) (n0 : W.noneFrozen p0)
    (hL : laidMetH Tryd.prog Rows.fnLexRow.laid W) (hS : W.ShapedOpen Tryd.prog) :
    Calls Tryd.prog 3 #[v0] W fun e W' => e = .returned (.bool true) ∧ Fr [] W W' := by
  obtain ⟨bs, F, kr⟩ := opens_bytes.args Tryd.underlying22 k0 h0 n0
  have kP : KnownPow W := ⟨FnLex_pow hL⟩
  have kA : KnownAsc W := ⟨FnLex_asc hL⟩
  have kM : KnownMl W := ⟨ml_of hS⟩
  clear k0 h0 n0 hL hS
  obtain ⟨ar, cr, hv⟩ := slice_form kr.is
  cases hv
  go_enter Tryd.func3, Tryd.ntmps3
  by_cases z : bs.length ≤ 1048576
  rotate_left
  · go_wp2
    go_ret
    exact ⟨rfl, mkFr⟩
  go_wp2_with fail
  with_reducible refine Calls.mono (sdlex bs _ z) ?_
  rintro e w1 ⟨s, rfl, hs, st1⟩
  have hok := hid (lexL_ok s)
  have hbs := bsz s
  go_wp2_with fail
  with_reducible refine Calls.mono (ilex s _ (by omega)) ?_
  rintro e w2 ⟨l, c, q, a2, cap2, F2, rfl, e2, k2, n2, st2⟩
  go_wp2_with fail
  with_reducible refine Calls.mono (slex s _ (by omega)) ?_
  rintro e w3 ⟨l', c', q', a3, cap3, F3, rfl, e3, k3, n3, st3⟩
  have heq := e2.out.symm.trans e3.out
  simp only [Prod.mk.injEq] at heq
  obtain ⟨rfl, rfl, rfl⟩ := heq
  have ok := hok.out
  rw [e2.out] at ok
  have hll := ok.len
  have hcs := ok.cost
  simp only [List.length_nil, List.map_nil, List.sum_nil] at hll hcs
  rw [hbs] at hll hcs
  by_cases c0 : c = 0
  rotate_left
  · have hl0 : l = [] := ok.bad c0
    subst hl0
    have e0 : (c == 0) = false := beq_eq_false_iff_ne.2 c0
    have e1 : (c != 0) = true := by rw [bne_iff_ne]; exact c0
    clear ok
    go_wp2
    go_ret
    exact ⟨rfl, mkFr⟩
  subst c0
  have hpos := hid (fun (i : Nat) (hi : i < l.length) => show 0 ≤ l[i].pos ∧ l[i].pos < s.size from by
    rcases ok.good l[i] (List.getElem_mem hi) with h | ⟨_, h1, h2⟩
    · simp at h
    · rw [bsz] at h2
      exact ⟨h1, by omega⟩)
  have htc : toksCost l ≤ 1048576 := by unfold toksCost; omega
  have hul : (unlexL l).size ≤ 1048576 := by
    have h1 := unlexK_len l l.length (Nat.le_refl _)
    have h2 := sum_take_le tokCost l l.length
    show (unlexK l l.length).toArray.size ≤ _
    rw [List.size_toArray]
    omega
  clear ok hcs
  go_wp2_with fail
  with_reducible refine Calls.mono (iunlex l _ htc) ?_
  rintro e w4 ⟨rfl, st4⟩
  go_wp2_with fail
  with_reducible refine Calls.mono (ilex (unlexL l) _ hul) ?_
  rintro e w5 ⟨m, c5, q5, a5, cap5, F5, rfl, e5, k5, n5, st5⟩
  by_cases hb : 6000 < (unlexL l).size
  · have h5 := e5.out
    rw [lexL_big hb] at h5
    simp only [Prod.mk.injEq] at h5
    obtain ⟨rfl, rfl, rfl⟩ := h5
    go_wp2
    go_ret
    exact ⟨rfl, mkFr⟩
  obtain ⟨m2, h1, h2, h3⟩ := lexL_unlex e2.out (by omega)
  have h5 := e5.out
  rw [h1] at h5
  simp only [Prod.mk.injEq] at h5
  obtain ⟨rfl, rfl, rfl⟩ := h5
  have hml : m2.length ≤ l.length ∧ l.length ≤ m2.length := by omega
  obtain ⟨hm1, hm2⟩ := hml
  have hne : ((m2.length : Int) != (l.length : Int)) = false := by rw [bne_eq_false_iff_eq]; omega
  replace h1 := hid h1
  replace h2 := hid h2
  replace h3 := hid h3
  obtain ⟨_, _, cl2, FF2, hv2, _, hvA, hrA, hmA⟩ := list_open k2.is
  cases hv2
  obtain ⟨_, _, cl5, FF5, hv5, _, hvB, hrB, hmB⟩ := list_open k5.is
  cases hv5
  unfold maxLen at hmA hmB
  go_wp2
  refine wp_name ?_
  intro A sA
  go_loopw [76] (fun i wr => ∃ k : Nat, k ≤ l.length ∧ i = .int .i64 k ∧ Step A wr) (fun i _ => l.length - (intOf i).toNat)
  case atStart => exact ⟨0, by omega, rfl, mkStep⟩
  case round =>
    obtain ⟨k, hk, rfl, st⟩ := hrel
    by_cases hlt : k < l.length
    · have hlt2 : k < m2.length := by omega
      obtain ⟨ba, oa, Ga, csa, rfl, hGa, hIa, hca, hoa⟩ := hvA.row hrA rfl (by decide) k hlt
      have hI0a := hIa
      obtain ⟨rfl, rfl, i0a, i1a, i2a, i3a⟩ := tok_open hI0a
      have kea : Known w2 _ l[k] _ := ⟨hIa⟩
      have c0a := (hca 0 _ rfl).1
      replace c0a : w2.cell? ⟨ba, oa + k * 4, none⟩ = _ := c0a
      have c1a := (hca 1 _ rfl).1
      replace c1a : w2.cell? ⟨ba, oa + k * 4 + 1, none⟩ = _ := c1a
      have c2a := (hca 2 _ rfl).1
      replace c2a : w2.cell? ⟨ba, oa + k * 4 + 2, none⟩ = _ := c2a
      have c3a := (hca 3 _ rfl).1
      replace c3a : w2.cell? ⟨ba, oa + k * 4 + 3, none⟩ = _ := c3a
      clear hca
      obtain ⟨bb, ob, Gb, csb, rfl, hGb, hIb, hcb, hob⟩ := hvB.row hrB rfl (by decide) k hlt2
      have hI0b := hIb
      obtain ⟨rfl, rfl, i0b, i1b, i2b, i3b⟩ := tok_open hI0b
      have keb : Known w5 _ m2[k] _ := ⟨hIb⟩
      have c0b := (hcb 0 _ rfl).1
      replace c0b : w5.cell? ⟨bb, ob + k * 4, none⟩ = _ := c0b
      have c1b := (hcb 1 _ rfl).1
      replace c1b : w5.cell? ⟨bb, ob + k * 4 + 1, none⟩ = _ := c1b
      have c2b := (hcb 2 _ rfl).1
      replace c2b : w5.cell? ⟨bb, ob + k * 4 + 2, none⟩ = _ := c2b
      have c3b := (hcb 3 _ rfl).1
      replace c3b : w5.cell? ⟨bb, ob + k * 4 + 3, none⟩ = _ := c3b
      clear hcb
      obtain ⟨g1, g2, g3⟩ := h3.out k hlt2 hlt
      obtain ⟨g4, g5⟩ := hpos.out k hlt
      have z1 : l[k].s.size ≤ 1048576 := by
        have := cost_at tokCost (B := 1048576) (by exact htc) hlt
        exact this
      have z2 : m2[k].s.size ≤ 1048576 := by rw [g3]; exact z1
      have e1 : (l[k].kind != m2[k].kind) = false := by rw [bne_eq_false_iff_eq]; exact g1.symm
      have e6 : (l[k].n != m2[k].n) = false := by rw [bne_eq_false_iff_eq]; exact g2.symm
      have e7 : ((tokText l[k]).toList != (tokText m2[k]).toList) = false := strne_no (by unfold tokText; rw [g1, g2, g3])
      have e8 : ((tokText l[k]).toList == (tokText m2[k]).toList) = true := str_yes (by unfold tokText; rw [g1, g2, g3])
      have b1 : (0 : Int) ≤ (k : Int) := by omega
      have b2 : (k : Int) < (l.length : Int) := by omega
      have b3 : (k : Int) < (m2.length : Int) := by omega
      replace g1 := hid g1
      replace g2 := hid g2
      replace g3 := hid g3
      go_wp2_with fail
      refine rg_begin0 (n := 47) (by kernel_rfl) rfl fun rg0 => ?_
      refine rg_read (i := 0) (a1 := _) rfl (by kernel_rfl) rfl (by simp) (by intro wq hwq; go_wp2; exact ⟨rfl, rfl⟩) mkStep ?_
      refine rg_read (i := 1) (a1 := _) rfl (by kernel_rfl) rfl (by simp) (by intro wq hwq; go_wp2; exact ⟨rfl, rfl⟩) mkStep ?_
      refine rg_read (i := 2) (a1 := _) rfl (by kernel_rfl) rfl (by simp) (by intro wq hwq; go_wp2; exact ⟨rfl, rfl⟩) mkStep ?_
      refine rg_read (i := 3) (a1 := _) rfl (by kernel_rfl) rfl (by simp) (by intro wq hwq; go_wp2; exact ⟨rfl, rfl⟩) mkStep ?_
      refine rg_read (i := 4) (a1 := _) rfl (by kernel_rfl) rfl (by simp) (by intro wq hwq; go_wp2; exact ⟨rfl, rfl⟩) mkStep ?_
      refine rg_read (i := 5) (a1 := _) rfl (by kernel_rfl) rfl (by simp) (by intro wq hwq; go_wp2; exact ⟨rfl, rfl⟩) mkStep ?_
      refine rg_read (i := 6) (a1 := _) rfl (by kernel_rfl) rfl (by simp) (by intro wq hwq; go_wp2; exact ⟨rfl, rfl⟩) mkStep ?_
      refine rg_read (i := 7) (a1 := _) rfl (by kernel_rfl) rfl (by simp) (by intro wq hwq; go_wp2; exact ⟨rfl, rfl⟩) mkStep ?_
      refine rg_read (i := 8) (a1 := _) rfl (by kernel_rfl) rfl (by simp) (by intro wq hwq; go_wp2; exact ⟨rfl, rfl⟩) mkStep ?_
      refine rg_read (i := 9) (a1 := _) rfl (by kernel_rfl) rfl (by simp) (by intro wq hwq; go_wp2; exact ⟨rfl, rfl⟩) mkStep ?_
      refine rg_read (i := 10) (a1 := _) rfl (by kernel_rfl) rfl (by simp) (by intro wq hwq; go_wp2; exact ⟨rfl, rfl⟩) mkStep ?_
      refine rg_read (i := 11) (a1 := _) rfl (by kernel_rfl) rfl (by simp) (by intro wq hwq; go_wp2; exact ⟨rfl, rfl⟩) mkStep ?_
      refine rg_read (i := 12) (a1 := _) rfl (by kernel_rfl) rfl (by simp) (by intro wq hwq; go_wp2; exact ⟨rfl, rfl⟩) mkStep ?_
      refine rg_read (i := 13) (a1 := _) rfl (by kernel_rfl) rfl (by simp) (by intro wq hwq; go_wp2; exact ⟨rfl, rfl⟩) mkStep ?_
      refine rg_read (i := 14) (a1 := _) rfl (by kernel_rfl) rfl (by simp) (by intro wq hwq; go_wp2; exact ⟨rfl, rfl⟩) mkStep ?_
      refine rg_read (i := 15) (a1 := _) rfl (by kernel_rfl) rfl (by simp) (by intro wq hwq; go_wp2; exact ⟨rfl, rfl⟩) mkStep ?_
      refine rg_read (i := 16) (a1 := _) rfl (by kernel_rfl) rfl (by simp) (by intro wq hwq; go_wp2; exact ⟨rfl, rfl⟩) mkStep ?_
      refine rg_read (i := 17) (a1 := _) rfl (by kernel_rfl) rfl (by simp) (by intro wq hwq; go_wp2; exact ⟨rfl, rfl⟩) mkStep ?_
      refine rg_read (i := 18) (a1 := _) rfl (by kernel_rfl) rfl (by simp) (by intro wq hwq; go_wp2; exact ⟨rfl, rfl⟩) mkStep ?_
      refine rg_read (i := 19) (a1 := _) rfl (by kernel_rfl) rfl (by simp) (by intro wq hwq; go_wp2; exact ⟨rfl, rfl⟩) mkStep ?_
      refine rg_read (i := 20) (a1 := _) rfl (by kernel_rfl) rfl (by simp) (by intro wq hwq; go_wp2; exact ⟨rfl, rfl⟩) mkStep ?_
      refine rg_read (i := 21) (a1 := _) rfl (by kernel_rfl) rfl (by simp) (by intro wq hwq; go_wp2; exact ⟨rfl, rfl⟩) mkStep ?_
      refine rg_read (i := 22) (a1 := _) rfl (by kernel_rfl) rfl (by simp) (by intro wq hwq; go_wp2; exact ⟨rfl, rfl⟩) mkStep ?_
      refine rg_read (i := 23) (a1 := _) rfl (by kernel_rfl) rfl (by simp) (by intro wq hwq; go_wp2; exact ⟨rfl, rfl⟩) mkStep ?_
      refine rg_read (i := 24) (a1 := _) rfl (by kernel_rfl) rfl (by simp) (by intro wq hwq; go_wp2; exact ⟨rfl, rfl⟩) mkStep ?_
      refine rg_read (i := 25) (a1 := _) rfl (by kernel_rfl) rfl (by simp) (by intro wq hwq; go_wp2; exact ⟨rfl, rfl⟩) mkStep ?_
      refine rg_read (i := 26) (a1 := _) rfl (by kernel_rfl) rfl (by simp) (by intro wq hwq; go_wp2; exact ⟨rfl, rfl⟩) mkStep ?_
      refine rg_read (i := 27) (a1 := _) rfl (by kernel_rfl) rfl (by simp) (by intro wq hwq; go_wp2; exact ⟨rfl, rfl⟩) mkStep ?_
      refine rg_read (i := 28) (a1 := _) rfl (by kernel_rfl) rfl (by simp) (by intro wq hwq; go_wp2; exact ⟨rfl, rfl⟩) mkStep ?_
      refine rg_read (i := 30) (a1 := _) rfl (by kernel_rfl) rfl (by simp) (by intro wq hwq; go_wp2; exact ⟨rfl, rfl⟩) mkStep ?_
      refine rg_read (i := 31) (a1 := _) rfl (by kernel_rfl) rfl (by simp) (by intro wq hwq; go_wp2; exact ⟨rfl, rfl⟩) mkStep ?_
      refine rg_read (i := 32) (a1 := _) rfl (by kernel_rfl) rfl (by simp) (by intro wq hwq; go_wp2; exact ⟨rfl, rfl⟩) mkStep ?_
      refine rg_read (i := 33) (a1 := _) rfl (by kernel_rfl) rfl (by simp) (by intro wq hwq; go_wp2; exact ⟨rfl, rfl⟩) mkStep ?_
      refine rg_eff (i := 29) rfl (by kernel_rfl) ?_
      simp only [List.getElem_toArray, List.getElem_cons_succ, List.getElem_cons_zero]
      go_wp2_with (first | (go_at_call 8; (with_reducible refine Calls.mono (itoktext _ _ (by assumption)) ?_); rintro e wk ⟨rfl, st⟩))
      refine ⟨mkStep, ?_⟩
      refine rg_eff (i := 34) rfl (by kernel_rfl) ?_
      simp only [List.getElem_toArray, List.getElem_cons_succ, List.getElem_cons_zero]
      go_wp2_with (first | (go_at_call 8; (with_reducible refine Calls.mono (itoktext _ _ (by assumption)) ?_); rintro e wk ⟨rfl, st⟩))
      refine ⟨mkStep, ?_⟩
      refine rg_read (i := 35) (a1 := _) rfl (by kernel_rfl) rfl (by simp) (by intro wq hwq; go_wp2; exact ⟨rfl, rfl⟩) mkStep ?_
      refine rg_read (i := 36) (a1 := _) rfl (by kernel_rfl) rfl (by simp) (by intro wq hwq; go_wp2; exact ⟨rfl, rfl⟩) mkStep ?_
      refine rg_read (i := 37) (a1 := _) rfl (by kernel_rfl) rfl (by simp) (by intro wq hwq; go_wp2; exact ⟨rfl, rfl⟩) mkStep ?_
      refine rg_read (i := 38) (a1 := _) rfl (by kernel_rfl) rfl (by simp) (by intro wq hwq; go_wp2; exact ⟨rfl, rfl⟩) mkStep ?_
      refine rg_read (i := 39) (a1 := _) rfl (by kernel_rfl) rfl (by simp) (by intro wq hwq; go_wp2; exact ⟨rfl, rfl⟩) mkStep ?_
      refine rg_read (i := 40) (a1 := _) rfl (by kernel_rfl) rfl (by simp) (by intro wq hwq; go_wp2; exact ⟨rfl, rfl⟩) mkStep ?_
      refine rg_read (i := 41) (a1 := _) rfl (by kernel_rfl) rfl (by simp) (by intro wq hwq; go_wp2; exact ⟨rfl, rfl⟩) mkStep ?_
      refine rg_read (i := 42) (a1 := _) rfl (by kernel_rfl) rfl (by simp) (by intro wq hwq; go_wp2; exact ⟨rfl, rfl⟩) mkStep ?_
      refine rg_read (i := 43) (a1 := _) rfl (by kernel_rfl) rfl (by simp) (by intro wq hwq; go_wp2; exact ⟨rfl, rfl⟩) mkStep ?_
      refine rg_read (i := 44) (a1 := _) rfl (by kernel_rfl) rfl (by simp) (by intro wq hwq; go_wp2; exact ⟨rfl, rfl⟩) mkStep ?_
      refine rg_read (i := 45) (a1 := _) rfl (by kernel_rfl) rfl (by simp) (by intro wq hwq; go_wp2; exact ⟨rfl, rfl⟩) mkStep ?_
      refine rg_read (i := 46) (a1 := _) rfl (by kernel_rfl) rfl (by simp) (by intro wq hwq; go_wp2; exact ⟨rfl, rfl⟩) mkStep ?_
      refine rg_done (by kernel_rfl) ?_
      go_wp2
      go_roundw
      case rel => exact ⟨k + 1, by omega, by go_num, mkStep⟩
      case measure => simp [intOf]; omega
    · go_wp2
      go_ret
      exact ⟨rfl, mkFr⟩
end Go.Proofs.YtbijeibcchbcpaaDoor
