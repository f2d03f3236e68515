/- Contracts: what goes through a body, impl's side: plain instructions. -/
import Derived.Test.YtpaekgeopmifeaaDoorK35
namespace Go.Proofs.YtpaekgeopmifeaaDoor
attribute [local go_sem ↓] Go.wp_at_zero Go.wp_at_succ
open Go.RowKit
open Rep (Is sz)

theorem take0_add0 {s : ChkS} (h : s.t.base ≤ s.h) : (s.take 0).add 0 = s := by
  show ChkS.mk (tkH s.h s.t.base 0 + 0) s.lo s.t = s
  rw [tkH_0 h, Int.add_zero]
theorem plain_of {m : ModuleD} {loc : Int} {s : ChkS} {i : InsD} {t1 t2 : Int} (h : hasC m loc i = true) (ht : takesC m i = (t1, t2)) : plainC m loc s i = (s.takeB t1, (s.take t1).add t2) := by rw [plain_on h, ht]
/-- Nothing old is written but the checker's height. -/
def IvS (A : World) (p : Nat) (M : MH) (sg : SigD) (loc : Int) (wr : World) : Prop := StepX [p] A wr ∧ ∃ h st, BoxL wr p (iv M sg loc h st)

instance (priority := 90) ib_set {w : World} {p B g b o : Nat} {u : Value} {M : MH} {sg : SigD} {loc : Int} {s : ChkS} [h : IB w p B g M sg loc s] [n1 : NeB b p] [n2 : NeB b g] : IB (w.setCell ⟨b, o, none⟩ u) p B g M sg loc s :=
  h.frx ((Fr.refl [b] w).setCell (p := ⟨b, o, none⟩) (.inl (by simp)) u) (by simpa using n1.ne.symm) (by simpa using n2.ne.symm)
theorem mkPl {w w' : World} {p B g : Nat} {M : MH} {sg : SigD} {loc : Int} {s s' : ChkS} {m : ModuleD} {i : InsD} {b' : Bool} {e : Ending} (h : plainC m loc s i = (b', s')) (he : e = .returned (.bool b')) (hI : IB w' p B g M sg loc s') (hx : StepX [p] w w') :
    e = .returned (.bool (plainC m loc s i).1) ∧ IB w' p B g M sg loc (plainC m loc s i).2 ∧ StepX [p] w w' := by rw [h]; exact ⟨he, hI, hx⟩

set_option maxRecDepth 10000 in
set_option maxHeartbeats 8000000 in
theorem iplain {p B g : Nat} {F : List Nat} {M : MH} {sg : SigD} {loc R : Int} {K : Nat} {sh : List Bool} {s : ChkS} (m : ModuleD) (i : InsD) (w : World) (pa : PartsP m) (hg : -1 ≤ m.pages) (v : Inv R K sh s) (hK : K ≤ 9000) (hi : insOk i = true) (hf : flowOp i.op = false) [hS : IB w p B g M sg loc s] [hm : Shows w F m M.cells] [apf : Apart F [p]] :
    Calls Tryd.prog 44 #[.pointer (some ⟨p, 0, none⟩), .agg #[.int .i64 i.op, .int .i64 i.a, .int .i64 i.b]] w fun e w' => e = .returned (.bool (plainC m loc s i).1) ∧ IB w' p B g M sg loc (plainC m loc s i).2 ∧ StepX [p] w w' := by
  have hv := v.nums
  have hlt := hS.lt
  have hne := hS.ne
  have nb : NeB g p := ⟨hne⟩
  have nb' : NeB p g := ⟨hne.symm⟩
  have ag : Arg g w := ⟨hlt.2.1⟩
  have ap : Arg p w := ⟨hlt.1⟩
  have og : Old g w := ⟨hlt.2.1⟩
  have opp : Old p w := ⟨hlt.1⟩
  have hk2 := ins_kind2 hi
  have hl : s.lo.length ≤ 10000 := by omega
  have hh : 0 ≤ s.t.base ∧ s.t.base ≤ s.h ∧ s.h ≤ 10000 := by omega
  obtain ⟨⟨cap, bx, own⟩, -, -⟩ := id hS
  replace own := hid own
  have kk := hm.known
  have hsg0 := fun (a : Int) (w9 : World) (h9 : Shows w9 F m M.cells) => isigOf m a w9 pa (h := h9)
  obtain ⟨a1, k1, a2, k2, a3, k3, a4, k4, a5, k5, a6, k6, F1, F2, F3, F4, F5, F6, rfl, rfl, h1, h2, h3, h4, h5, h6, i3, i4⟩ := mh_open hm.is
  clear hm
  obtain ⟨_, _, cl4, FF4, hv4, hF4, hvw4, hr4, hml4⟩ := list_open h4
  cases hv4
  unfold maxLen at hml4
  have hgl : (m.globals.length : Int) ≤ 9223372036854775807 := by omega
  simp only [flowOp, decide_eq_false_iff_not] at hf
  obtain ⟨op, a, b⟩ := i
  simp only at hk2 hf
  have nbh : NeB w.heap.size p := ⟨by omega⟩
  by_cases o1 : op = 1
  · subst o1
    have r := hid (show plainC m loc s ⟨1, a, b⟩ = (true, s) by
      rw [plain_of (t1 := 0) (t2 := 0) (show hasC m loc ⟨1, a, b⟩ = true from hasC_other (by show ¬ ((1 : Int) = 16 ∨ ((32 : Int) ≤ 1 ∧ (1 : Int) ≤ 36) ∨ (1 : Int) = 40 ∨ (1 : Int) = 54 ∨ (1 : Int) = 63 ∨ (1 : Int) = 64); omega)) rfl, take0_add0 hh.2.1, show s.takeB 0 = true from tkB_0 hh.2.1])
    clear hk2 hf
    go_enter Tryd.func44, Tryd.ntmps44
    go_wp2
    go_ret
    exact mkPl r.out rfl inferInstance mkStepX
  by_cases o16 : op = 16
  · subst o16
    have hb := takesC_le pa.sigs ⟨16, a, b⟩
    rw [takes_16 rfl] at hb
    simp only at hb
    have nbA : ∀ o, NewB (w.alloc o) (w.heap.size + 1) := fun o => ⟨by simp⟩
    have nbp : NeB (w.heap.size + 1) p := ⟨by omega⟩
    have nbg : NeB (w.heap.size + 1) g := ⟨by omega⟩
    have hsg := hsg0 a
    clear hsg0
    cases hq : sigC m a with
    | none =>
      have r := hid (plain_no (s := s) (show hasC m loc ⟨16, a, b⟩ = false by rw [hasC_16 rfl]; show (sigC m a).isSome = false; rw [hq]; rfl))
      clear hk2 hf
      rw [hq] at hsg
      replace hq := hid hq
      go_enter Tryd.func44, Tryd.ntmps44
      go_wp2_with fail
      refine rg_begin0 (n := 13) (by kernel_rfl) rfl fun rg0 => ?_
      refine rg_read (i := 0) (a1 := _) rfl (by kernel_rfl) rfl (by simp) (by intro wq hwq; go_wp2; exact ⟨rfl, rfl⟩) mkStep ?_
      refine rg_read (i := 1) (a1 := _) rfl (by kernel_rfl) rfl (by simp) (by intro wq hwq; go_wp2; exact ⟨rfl, rfl⟩) mkStep ?_
      refine rg_read (i := 2) (a1 := _) rfl (by kernel_rfl) rfl (by simp) (by intro wq hwq; go_wp2; exact ⟨rfl, rfl⟩) mkStep ?_
      refine rg_read (i := 3) (a1 := _) rfl (by kernel_rfl) rfl (by simp) (by intro wq hwq; go_wp2; exact ⟨rfl, rfl⟩) mkStep ?_
      refine rg_read (i := 4) (a1 := _) rfl (by kernel_rfl) rfl (by simp) (by intro wq hwq; go_wp2; exact ⟨rfl, rfl⟩) mkStep ?_
      refine rg_read (i := 5) (a1 := _) rfl (by kernel_rfl) rfl (by simp) (by intro wq hwq; go_wp2; exact ⟨rfl, rfl⟩) mkStep ?_
      refine rg_two (i := 6) (j := 10) rfl rfl (by kernel_rfl) ?_ ?_
      · simp only [List.getElem_toArray, List.getElem_cons_succ, List.getElem_cons_zero]
        go_wp2_with fail
        with_reducible refine Calls.mono (hsg _ inferInstance) ?_
        rintro e wk ⟨rfl, st⟩
        simp only [Option.getD_none, Option.isSome_none]
        go_wp2
        refine ⟨mkStep, ?_⟩
        refine rg_read (i := 7) (a1 := _) rfl (by kernel_rfl) rfl (by simp) (by intro wq hwq; go_wp2; exact ⟨rfl, rfl⟩) mkStep ?_
        refine rg_read (i := 8) (a1 := _) rfl (by kernel_rfl) rfl (by simp) (by intro wq hwq; go_wp2; exact ⟨rfl, rfl⟩) mkStep ?_
        refine rg_read (i := 9) (a1 := _) rfl (by kernel_rfl) rfl (by simp) (by intro wq hwq; go_wp2; exact ⟨rfl, rfl⟩) mkStep ?_
        refine rg_eff (i := 10) rfl (by kernel_rfl) ?_
        simp only [List.getElem_toArray, List.getElem_cons_succ, List.getElem_cons_zero]
        go_wp2_with (fail)
        refine ⟨mkStep, ?_⟩
        refine rg_eff (i := 11) rfl (by kernel_rfl) ?_
        simp only [List.getElem_toArray, List.getElem_cons_succ, List.getElem_cons_zero]
        go_wp2_with (fail)
        refine ⟨mkStep, ?_⟩
        refine rg_read (i := 12) (a1 := _) rfl (by kernel_rfl) rfl (by simp) (by intro wq hwq; go_wp2; exact ⟨rfl, rfl⟩) mkStep ?_
        refine rg_done (by kernel_rfl) ?_
        go_wp2
        go_ret
        exact mkPl r.out rfl inferInstance mkStepX
      · simp only [List.getElem_toArray, List.getElem_cons_succ, List.getElem_cons_zero]
        go_wp2_with (fail)
        refine ⟨mkStep, ?_⟩
        refine rg_eff (i := 6) rfl (by kernel_rfl) ?_
        simp only [List.getElem_toArray, List.getElem_cons_succ, List.getElem_cons_zero]
        go_wp2_with fail
        with_reducible refine Calls.mono (hsg _ inferInstance) ?_
        rintro e wk ⟨rfl, st⟩
        simp only [Option.getD_none, Option.isSome_none]
        go_wp2
        refine ⟨mkStep, ?_⟩
        refine rg_read (i := 7) (a1 := _) rfl (by kernel_rfl) rfl (by simp) (by intro wq hwq; go_wp2; exact ⟨rfl, rfl⟩) mkStep ?_
        refine rg_read (i := 8) (a1 := _) rfl (by kernel_rfl) rfl (by simp) (by intro wq hwq; go_wp2; exact ⟨rfl, rfl⟩) mkStep ?_
        refine rg_read (i := 9) (a1 := _) rfl (by kernel_rfl) rfl (by simp) (by intro wq hwq; go_wp2; exact ⟨rfl, rfl⟩) mkStep ?_
        refine rg_eff (i := 11) rfl (by kernel_rfl) ?_
        simp only [List.getElem_toArray, List.getElem_cons_succ, List.getElem_cons_zero]
        go_wp2_with (fail)
        refine ⟨mkStep, ?_⟩
        refine rg_read (i := 12) (a1 := _) rfl (by kernel_rfl) rfl (by simp) (by intro wq hwq; go_wp2; exact ⟨rfl, rfl⟩) mkStep ?_
        refine rg_done (by kernel_rfl) ?_
        go_wp2
        go_ret
        exact mkPl r.out rfl inferInstance mkStepX
    | some gg =>
      rw [hq] at hb hsg
      simp only [Option.getD_some] at hb
      have r := hid (plain_of (s := s) (show hasC m loc ⟨16, a, b⟩ = true by rw [hasC_16 rfl]; show (sigC m a).isSome = true; rw [hq]; rfl) (t1 := gg.params) (t2 := gg.results) (by rw [takes_16 rfl]; show (((sigC m a).getD ⟨0, 0⟩).params, ((sigC m a).getD ⟨0, 0⟩).results) = _; rw [hq]; rfl))
      clear hk2 hf
      replace hq := hid hq
      go_enter Tryd.func44, Tryd.ntmps44
      go_wp2_with fail
      refine rg_begin0 (n := 13) (by kernel_rfl) rfl fun rg0 => ?_
      refine rg_read (i := 0) (a1 := _) rfl (by kernel_rfl) rfl (by simp) (by intro wq hwq; go_wp2; exact ⟨rfl, rfl⟩) mkStep ?_
      refine rg_read (i := 1) (a1 := _) rfl (by kernel_rfl) rfl (by simp) (by intro wq hwq; go_wp2; exact ⟨rfl, rfl⟩) mkStep ?_
      refine rg_read (i := 2) (a1 := _) rfl (by kernel_rfl) rfl (by simp) (by intro wq hwq; go_wp2; exact ⟨rfl, rfl⟩) mkStep ?_
      refine rg_read (i := 3) (a1 := _) rfl (by kernel_rfl) rfl (by simp) (by intro wq hwq; go_wp2; exact ⟨rfl, rfl⟩) mkStep ?_
      refine rg_read (i := 4) (a1 := _) rfl (by kernel_rfl) rfl (by simp) (by intro wq hwq; go_wp2; exact ⟨rfl, rfl⟩) mkStep ?_
      refine rg_read (i := 5) (a1 := _) rfl (by kernel_rfl) rfl (by simp) (by intro wq hwq; go_wp2; exact ⟨rfl, rfl⟩) mkStep ?_
      refine rg_two (i := 6) (j := 10) rfl rfl (by kernel_rfl) ?_ ?_
      · simp only [List.getElem_toArray, List.getElem_cons_succ, List.getElem_cons_zero]
        go_wp2_with fail
        with_reducible refine Calls.mono (hsg _ inferInstance) ?_
        rintro e wk ⟨rfl, st⟩
        simp only [Option.getD_some, Option.isSome_some]
        go_wp2
        refine ⟨mkStep, ?_⟩
        refine rg_read (i := 7) (a1 := _) rfl (by kernel_rfl) rfl (by simp) (by intro wq hwq; go_wp2; exact ⟨rfl, rfl⟩) mkStep ?_
        refine rg_read (i := 8) (a1 := _) rfl (by kernel_rfl) rfl (by simp) (by intro wq hwq; go_wp2; exact ⟨rfl, rfl⟩) mkStep ?_
        refine rg_read (i := 9) (a1 := _) rfl (by kernel_rfl) rfl (by simp) (by intro wq hwq; go_wp2; exact ⟨rfl, rfl⟩) mkStep ?_
        refine rg_eff (i := 10) rfl (by kernel_rfl) ?_
        simp only [List.getElem_toArray, List.getElem_cons_succ, List.getElem_cons_zero]
        go_wp2_with (fail)
        refine ⟨mkStep, ?_⟩
        refine rg_eff (i := 11) rfl (by kernel_rfl) ?_
        simp only [List.getElem_toArray, List.getElem_cons_succ, List.getElem_cons_zero]
        go_wp2_with (fail)
        refine ⟨mkStep, ?_⟩
        refine rg_read (i := 12) (a1 := _) rfl (by kernel_rfl) rfl (by simp) (by intro wq hwq; go_wp2; exact ⟨rfl, rfl⟩) mkStep ?_
        refine rg_done (by kernel_rfl) ?_
        go_wp2_with (first | (go_at_call 60; (with_reducible refine Calls.mono (iboth _ _ _ (by omega) (by omega) (by omega) (by omega)) ?_); rintro e wk ⟨rfl, hS9, st9⟩))
        go_ret
        exact mkPl r.out rfl inferInstance mkStepX
      · simp only [List.getElem_toArray, List.getElem_cons_succ, List.getElem_cons_zero]
        go_wp2_with (fail)
        refine ⟨mkStep, ?_⟩
        refine rg_eff (i := 6) rfl (by kernel_rfl) ?_
        simp only [List.getElem_toArray, List.getElem_cons_succ, List.getElem_cons_zero]
        go_wp2_with fail
        with_reducible refine Calls.mono (hsg _ inferInstance) ?_
        rintro e wk ⟨rfl, st⟩
        simp only [Option.getD_some, Option.isSome_some]
        go_wp2
        refine ⟨mkStep, ?_⟩
        refine rg_read (i := 7) (a1 := _) rfl (by kernel_rfl) rfl (by simp) (by intro wq hwq; go_wp2; exact ⟨rfl, rfl⟩) mkStep ?_
        refine rg_read (i := 8) (a1 := _) rfl (by kernel_rfl) rfl (by simp) (by intro wq hwq; go_wp2; exact ⟨rfl, rfl⟩) mkStep ?_
        refine rg_read (i := 9) (a1 := _) rfl (by kernel_rfl) rfl (by simp) (by intro wq hwq; go_wp2; exact ⟨rfl, rfl⟩) mkStep ?_
        refine rg_eff (i := 11) rfl (by kernel_rfl) ?_
        simp only [List.getElem_toArray, List.getElem_cons_succ, List.getElem_cons_zero]
        go_wp2_with (fail)
        refine ⟨mkStep, ?_⟩
        refine rg_read (i := 12) (a1 := _) rfl (by kernel_rfl) rfl (by simp) (by intro wq hwq; go_wp2; exact ⟨rfl, rfl⟩) mkStep ?_
        refine rg_done (by kernel_rfl) ?_
        go_wp2_with (first | (go_at_call 60; (with_reducible refine Calls.mono (iboth _ _ _ (by omega) (by omega) (by omega) (by omega)) ?_); rintro e wk ⟨rfl, hS9, st9⟩))
        go_ret
        exact mkPl r.out rfl inferInstance mkStepX
  clear hsg0
  by_cases o26 : op = 26
  · subst o26
    have r := hid (plain_of (s := s) (show hasC m loc ⟨26, a, b⟩ = true from hasC_other (by show ¬ (26 = 16 ∨ (32 ≤ 26 ∧ 26 ≤ 36) ∨ 26 = 40 ∨ 26 = 54 ∨ 26 = 63 ∨ 26 = 64); omega)) (t1 := 1) (t2 := 0) rfl)
    clear hk2 hf
    go_enter Tryd.func44, Tryd.ntmps44
    go_wp2_with (first | (go_at_call 60; (with_reducible refine Calls.mono (iboth _ _ _ (by omega) (by omega) (by omega) (by omega)) ?_); rintro e wk ⟨rfl, hS9, st9⟩))
    go_ret
    exact mkPl r.out rfl inferInstance mkStepX
  by_cases o27 : op = 27
  · subst o27
    have r := hid (plain_of (s := s) (show hasC m loc ⟨27, a, b⟩ = true from hasC_other (by show ¬ (27 = 16 ∨ (32 ≤ 27 ∧ 27 ≤ 36) ∨ 27 = 40 ∨ 27 = 54 ∨ 27 = 63 ∨ 27 = 64); omega)) (t1 := 3) (t2 := 1) rfl)
    clear hk2 hf
    go_enter Tryd.func44, Tryd.ntmps44
    go_wp2_with (first | (go_at_call 60; (with_reducible refine Calls.mono (iboth _ _ _ (by omega) (by omega) (by omega) (by omega)) ?_); rintro e wk ⟨rfl, hS9, st9⟩))
    go_ret
    exact mkPl r.out rfl inferInstance mkStepX
  by_cases o65 : op = 65
  · subst o65
    have r := hid (plain_of (s := s) (show hasC m loc ⟨65, a, b⟩ = true from hasC_other (by show ¬ (65 = 16 ∨ (32 ≤ 65 ∧ 65 ≤ 36) ∨ 65 = 40 ∨ 65 = 54 ∨ 65 = 63 ∨ 65 = 64); omega)) (t1 := 0) (t2 := 1) rfl)
    clear hk2 hf
    go_enter Tryd.func44, Tryd.ntmps44
    go_wp2_with (first | (go_at_call 60; (with_reducible refine Calls.mono (iboth _ _ _ (by omega) (by omega) (by omega) (by omega)) ?_); rintro e wk ⟨rfl, hS9, st9⟩))
    go_ret
    exact mkPl r.out rfl inferInstance mkStepX
  by_cases o69 : op = 69
  · subst o69
    have r := hid (plain_of (s := s) (show hasC m loc ⟨69, a, b⟩ = true from hasC_other (by show ¬ (69 = 16 ∨ (32 ≤ 69 ∧ 69 ≤ 36) ∨ 69 = 40 ∨ 69 = 54 ∨ 69 = 63 ∨ 69 = 64); omega)) (t1 := 1) (t2 := 1) rfl)
    clear hk2 hf
    go_enter Tryd.func44, Tryd.ntmps44
    go_wp2_with (first | (go_at_call 60; (with_reducible refine Calls.mono (iboth _ _ _ (by omega) (by omega) (by omega) (by omega)) ?_); rintro e wk ⟨rfl, hS9, st9⟩))
    go_ret
    exact mkPl r.out rfl inferInstance mkStepX
  by_cases o32 : op = 32
  · subst o32
    clear hk2 hf
    have hq : hasC m loc ⟨32, a, b⟩ = decide (a < loc) := hasC_get (.inl rfl)
    by_cases hal : a < loc
    · have r := hid (plain_of (s := s) (hq.trans (decide_eq_true hal)) (t1 := 0) (t2 := 1) rfl)
      replace hq := hid hq
      go_enter Tryd.func44, Tryd.ntmps44
      go_wp2_with fail
      refine wp_name ?_
      intro A sA
      have bA : BoxL A.drew p (iv ⟨.slice a1 m.sigs.length k1, .slice a2 m.imports.length k2, .slice a3 m.funcs.length k3, m.pages, m.most, .slice a4 m.globals.length k4, .slice a5 m.exports.length k5, .slice a6 m.data.length k6⟩ sg loc s.h (.slice (some ⟨g, 0, none⟩) (s.lo.length + 1) cap)) := boxOf
      refine rg_begin (n := 12) (IvS A p ⟨.slice a1 m.sigs.length k1, .slice a2 m.imports.length k2, .slice a3 m.funcs.length k3, m.pages, m.most, .slice a4 m.globals.length k4, .slice a5 m.exports.length k5, .slice a6 m.data.length k6⟩ sg loc) (by kernel_rfl) rfl ?_
      have rg0 := (show (IvS A p ⟨.slice a1 m.sigs.length k1, .slice a2 m.imports.length k2, .slice a3 m.funcs.length k3, m.pages, m.most, .slice a4 m.globals.length k4, .slice a5 m.exports.length k5, .slice a6 m.data.length k6⟩ sg loc) (World.drew _) from ⟨⟨(Fr.refl _ _).drew⟩, _, _, bA⟩)
      refine rg_read (i := 0) (a1 := _) rfl (by kernel_rfl) rfl (by simp) (by intro wq hwq; go_wp2; exact ⟨rfl, rfl⟩) rg0 ?_
      refine rg_read (i := 1) (a1 := _) rfl (by kernel_rfl) rfl (by simp) (by intro wq hwq; obtain ⟨hx, h9, st9, bq⟩ := hwq; go_wp2; exact ⟨rfl, rfl⟩) rg0 ?_
      refine rg_read (i := 2) (a1 := _) rfl (by kernel_rfl) rfl (by simp) (by intro wq hwq; go_wp2; exact ⟨rfl, rfl⟩) rg0 ?_
      refine rg_read (i := 3) (a1 := _) rfl (by kernel_rfl) rfl (by simp) (by intro wq hwq; go_wp2; exact ⟨rfl, rfl⟩) rg0 ?_
      refine rg_read (i := 4) (a1 := _) rfl (by kernel_rfl) rfl (by simp) (by intro wq hwq; go_wp2; exact ⟨rfl, rfl⟩) rg0 ?_
      refine rg_read (i := 5) (a1 := _) rfl (by kernel_rfl) rfl (by simp) (by intro wq hwq; obtain ⟨hx, h9, st9, bq⟩ := hwq; go_wp2; exact ⟨rfl, rfl⟩) rg0 ?_
      refine rg_read (i := 6) (a1 := _) rfl (by kernel_rfl) rfl (by simp) (by intro wq hwq; go_wp2; exact ⟨rfl, rfl⟩) rg0 ?_
      refine rg_read (i := 7) (a1 := _) rfl (by kernel_rfl) rfl (by simp) (by intro wq hwq; go_wp2; exact ⟨rfl, rfl⟩) rg0 ?_
      refine rg_read (i := 8) (a1 := _) rfl (by kernel_rfl) rfl (by simp) (by intro wq hwq; go_wp2; exact ⟨rfl, rfl⟩) rg0 ?_
      refine rg_eff (i := 9) rfl (by kernel_rfl) ?_
      simp only [List.getElem_toArray, List.getElem_cons_succ, List.getElem_cons_zero]
      go_wp2_with (first | (go_at_call 60; (with_reducible refine Calls.mono (iboth _ _ _ (by omega) (by omega) (by omega) (by omega)) ?_); rintro e wk ⟨rfl, hS9, st9⟩))
      have s9 : IvS A p ⟨.slice a1 m.sigs.length k1, .slice a2 m.imports.length k2, .slice a3 m.funcs.length k3, m.pages, m.most, .slice a4 m.globals.length k4, .slice a5 m.exports.length k5, .slice a6 m.data.length k6⟩ sg loc wk := ⟨mkStepX, by obtain ⟨⟨c9, b9, o9⟩, -, -⟩ := hS9; exact ⟨_, _, b9⟩⟩
      refine ⟨s9, ?_⟩
      refine rg_read (i := 10) (a1 := _) rfl (by kernel_rfl) rfl (by simp) (by intro wq hwq; go_wp2; exact ⟨rfl, rfl⟩) s9 ?_
      refine rg_read (i := 11) (a1 := _) rfl (by kernel_rfl) rfl (by simp) (by intro wq hwq; go_wp2; exact ⟨rfl, rfl⟩) s9 ?_
      refine rg_done (by kernel_rfl) ?_
      go_wp2
      go_ret
      exact mkPl r.out rfl inferInstance mkStepX
    · have r := hid (plain_no (s := s) (hq.trans (decide_eq_false hal)))
      replace hq := hid hq
      go_enter Tryd.func44, Tryd.ntmps44
      go_wp2_with fail
      refine wp_name ?_
      intro A sA
      have bA : BoxL A.drew p (iv ⟨.slice a1 m.sigs.length k1, .slice a2 m.imports.length k2, .slice a3 m.funcs.length k3, m.pages, m.most, .slice a4 m.globals.length k4, .slice a5 m.exports.length k5, .slice a6 m.data.length k6⟩ sg loc s.h (.slice (some ⟨g, 0, none⟩) (s.lo.length + 1) cap)) := boxOf
      refine rg_begin (n := 12) (IvS A p ⟨.slice a1 m.sigs.length k1, .slice a2 m.imports.length k2, .slice a3 m.funcs.length k3, m.pages, m.most, .slice a4 m.globals.length k4, .slice a5 m.exports.length k5, .slice a6 m.data.length k6⟩ sg loc) (by kernel_rfl) rfl ?_
      have rg0 := (show (IvS A p ⟨.slice a1 m.sigs.length k1, .slice a2 m.imports.length k2, .slice a3 m.funcs.length k3, m.pages, m.most, .slice a4 m.globals.length k4, .slice a5 m.exports.length k5, .slice a6 m.data.length k6⟩ sg loc) (World.drew _) from ⟨⟨(Fr.refl _ _).drew⟩, _, _, bA⟩)
      refine rg_read (i := 0) (a1 := _) rfl (by kernel_rfl) rfl (by simp) (by intro wq hwq; go_wp2; exact ⟨rfl, rfl⟩) rg0 ?_
      refine rg_read (i := 1) (a1 := _) rfl (by kernel_rfl) rfl (by simp) (by intro wq hwq; obtain ⟨hx, h9, st9, bq⟩ := hwq; go_wp2; exact ⟨rfl, rfl⟩) rg0 ?_
      refine rg_read (i := 2) (a1 := _) rfl (by kernel_rfl) rfl (by simp) (by intro wq hwq; go_wp2; exact ⟨rfl, rfl⟩) rg0 ?_
      refine rg_read (i := 3) (a1 := _) rfl (by kernel_rfl) rfl (by simp) (by intro wq hwq; go_wp2; exact ⟨rfl, rfl⟩) rg0 ?_
      refine rg_read (i := 4) (a1 := _) rfl (by kernel_rfl) rfl (by simp) (by intro wq hwq; go_wp2; exact ⟨rfl, rfl⟩) rg0 ?_
      refine rg_read (i := 5) (a1 := _) rfl (by kernel_rfl) rfl (by simp) (by intro wq hwq; obtain ⟨hx, h9, st9, bq⟩ := hwq; go_wp2; exact ⟨rfl, rfl⟩) rg0 ?_
      refine rg_read (i := 6) (a1 := _) rfl (by kernel_rfl) rfl (by simp) (by intro wq hwq; go_wp2; exact ⟨rfl, rfl⟩) rg0 ?_
      refine rg_read (i := 7) (a1 := _) rfl (by kernel_rfl) rfl (by simp) (by intro wq hwq; go_wp2; exact ⟨rfl, rfl⟩) rg0 ?_
      refine rg_read (i := 8) (a1 := _) rfl (by kernel_rfl) rfl (by simp) (by intro wq hwq; go_wp2; exact ⟨rfl, rfl⟩) rg0 ?_
      refine rg_eff (i := 9) rfl (by kernel_rfl) ?_
      simp only [List.getElem_toArray, List.getElem_cons_succ, List.getElem_cons_zero]
      go_wp2_with fail
      refine ⟨rg0, ?_⟩
      refine rg_read (i := 10) (a1 := _) rfl (by kernel_rfl) rfl (by simp) (by intro wq hwq; go_wp2; exact ⟨rfl, rfl⟩) rg0 ?_
      refine rg_read (i := 11) (a1 := _) rfl (by kernel_rfl) rfl (by simp) (by intro wq hwq; go_wp2; exact ⟨rfl, rfl⟩) rg0 ?_
      refine rg_done (by kernel_rfl) ?_
      go_wp2
      go_ret
      exact mkPl r.out rfl inferInstance mkStepX
  by_cases o33 : op = 33
  · subst o33
    clear hk2 hf
    have hq : hasC m loc ⟨33, a, b⟩ = decide (a < loc) := hasC_get (.inr (.inl rfl))
    by_cases hal : a < loc
    · have r := hid (plain_of (s := s) (hq.trans (decide_eq_true hal)) (t1 := 1) (t2 := 0) rfl)
      replace hq := hid hq
      go_enter Tryd.func44, Tryd.ntmps44
      go_wp2_with fail
      refine wp_name ?_
      intro A sA
      have bA : BoxL A.drew p (iv ⟨.slice a1 m.sigs.length k1, .slice a2 m.imports.length k2, .slice a3 m.funcs.length k3, m.pages, m.most, .slice a4 m.globals.length k4, .slice a5 m.exports.length k5, .slice a6 m.data.length k6⟩ sg loc s.h (.slice (some ⟨g, 0, none⟩) (s.lo.length + 1) cap)) := boxOf
      refine rg_begin (n := 12) (IvS A p ⟨.slice a1 m.sigs.length k1, .slice a2 m.imports.length k2, .slice a3 m.funcs.length k3, m.pages, m.most, .slice a4 m.globals.length k4, .slice a5 m.exports.length k5, .slice a6 m.data.length k6⟩ sg loc) (by kernel_rfl) rfl ?_
      have rg0 := (show (IvS A p ⟨.slice a1 m.sigs.length k1, .slice a2 m.imports.length k2, .slice a3 m.funcs.length k3, m.pages, m.most, .slice a4 m.globals.length k4, .slice a5 m.exports.length k5, .slice a6 m.data.length k6⟩ sg loc) (World.drew _) from ⟨⟨(Fr.refl _ _).drew⟩, _, _, bA⟩)
      refine rg_read (i := 0) (a1 := _) rfl (by kernel_rfl) rfl (by simp) (by intro wq hwq; go_wp2; exact ⟨rfl, rfl⟩) rg0 ?_
      refine rg_read (i := 1) (a1 := _) rfl (by kernel_rfl) rfl (by simp) (by intro wq hwq; obtain ⟨hx, h9, st9, bq⟩ := hwq; go_wp2; exact ⟨rfl, rfl⟩) rg0 ?_
      refine rg_read (i := 2) (a1 := _) rfl (by kernel_rfl) rfl (by simp) (by intro wq hwq; go_wp2; exact ⟨rfl, rfl⟩) rg0 ?_
      refine rg_read (i := 3) (a1 := _) rfl (by kernel_rfl) rfl (by simp) (by intro wq hwq; go_wp2; exact ⟨rfl, rfl⟩) rg0 ?_
      refine rg_read (i := 4) (a1 := _) rfl (by kernel_rfl) rfl (by simp) (by intro wq hwq; go_wp2; exact ⟨rfl, rfl⟩) rg0 ?_
      refine rg_read (i := 5) (a1 := _) rfl (by kernel_rfl) rfl (by simp) (by intro wq hwq; obtain ⟨hx, h9, st9, bq⟩ := hwq; go_wp2; exact ⟨rfl, rfl⟩) rg0 ?_
      refine rg_read (i := 6) (a1 := _) rfl (by kernel_rfl) rfl (by simp) (by intro wq hwq; go_wp2; exact ⟨rfl, rfl⟩) rg0 ?_
      refine rg_read (i := 7) (a1 := _) rfl (by kernel_rfl) rfl (by simp) (by intro wq hwq; go_wp2; exact ⟨rfl, rfl⟩) rg0 ?_
      refine rg_read (i := 8) (a1 := _) rfl (by kernel_rfl) rfl (by simp) (by intro wq hwq; go_wp2; exact ⟨rfl, rfl⟩) rg0 ?_
      refine rg_eff (i := 9) rfl (by kernel_rfl) ?_
      simp only [List.getElem_toArray, List.getElem_cons_succ, List.getElem_cons_zero]
      go_wp2_with (first | (go_at_call 60; (with_reducible refine Calls.mono (iboth _ _ _ (by omega) (by omega) (by omega) (by omega)) ?_); rintro e wk ⟨rfl, hS9, st9⟩))
      have s9 : IvS A p ⟨.slice a1 m.sigs.length k1, .slice a2 m.imports.length k2, .slice a3 m.funcs.length k3, m.pages, m.most, .slice a4 m.globals.length k4, .slice a5 m.exports.length k5, .slice a6 m.data.length k6⟩ sg loc wk := ⟨mkStepX, by obtain ⟨⟨c9, b9, o9⟩, -, -⟩ := hS9; exact ⟨_, _, b9⟩⟩
      refine ⟨s9, ?_⟩
      refine rg_read (i := 10) (a1 := _) rfl (by kernel_rfl) rfl (by simp) (by intro wq hwq; go_wp2; exact ⟨rfl, rfl⟩) s9 ?_
      refine rg_read (i := 11) (a1 := _) rfl (by kernel_rfl) rfl (by simp) (by intro wq hwq; go_wp2; exact ⟨rfl, rfl⟩) s9 ?_
      refine rg_done (by kernel_rfl) ?_
      go_wp2
      go_ret
      exact mkPl r.out rfl inferInstance mkStepX
    · have r := hid (plain_no (s := s) (hq.trans (decide_eq_false hal)))
      replace hq := hid hq
      go_enter Tryd.func44, Tryd.ntmps44
      go_wp2_with fail
      refine wp_name ?_
      intro A sA
      have bA : BoxL A.drew p (iv ⟨.slice a1 m.sigs.length k1, .slice a2 m.imports.length k2, .slice a3 m.funcs.length k3, m.pages, m.most, .slice a4 m.globals.length k4, .slice a5 m.exports.length k5, .slice a6 m.data.length k6⟩ sg loc s.h (.slice (some ⟨g, 0, none⟩) (s.lo.length + 1) cap)) := boxOf
      refine rg_begin (n := 12) (IvS A p ⟨.slice a1 m.sigs.length k1, .slice a2 m.imports.length k2, .slice a3 m.funcs.length k3, m.pages, m.most, .slice a4 m.globals.length k4, .slice a5 m.exports.length k5, .slice a6 m.data.length k6⟩ sg loc) (by kernel_rfl) rfl ?_
      have rg0 := (show (IvS A p ⟨.slice a1 m.sigs.length k1, .slice a2 m.imports.length k2, .slice a3 m.funcs.length k3, m.pages, m.most, .slice a4 m.globals.length k4, .slice a5 m.exports.length k5, .slice a6 m.data.length k6⟩ sg loc) (World.drew _) from ⟨⟨(Fr.refl _ _).drew⟩, _, _, bA⟩)
      refine rg_read (i := 0) (a1 := _) rfl (by kernel_rfl) rfl (by simp) (by intro wq hwq; go_wp2; exact ⟨rfl, rfl⟩) rg0 ?_
      refine rg_read (i := 1) (a1 := _) rfl (by kernel_rfl) rfl (by simp) (by intro wq hwq; obtain ⟨hx, h9, st9, bq⟩ := hwq; go_wp2; exact ⟨rfl, rfl⟩) rg0 ?_
      refine rg_read (i := 2) (a1 := _) rfl (by kernel_rfl) rfl (by simp) (by intro wq hwq; go_wp2; exact ⟨rfl, rfl⟩) rg0 ?_
      refine rg_read (i := 3) (a1 := _) rfl (by kernel_rfl) rfl (by simp) (by intro wq hwq; go_wp2; exact ⟨rfl, rfl⟩) rg0 ?_
      refine rg_read (i := 4) (a1 := _) rfl (by kernel_rfl) rfl (by simp) (by intro wq hwq; go_wp2; exact ⟨rfl, rfl⟩) rg0 ?_
      refine rg_read (i := 5) (a1 := _) rfl (by kernel_rfl) rfl (by simp) (by intro wq hwq; obtain ⟨hx, h9, st9, bq⟩ := hwq; go_wp2; exact ⟨rfl, rfl⟩) rg0 ?_
      refine rg_read (i := 6) (a1 := _) rfl (by kernel_rfl) rfl (by simp) (by intro wq hwq; go_wp2; exact ⟨rfl, rfl⟩) rg0 ?_
      refine rg_read (i := 7) (a1 := _) rfl (by kernel_rfl) rfl (by simp) (by intro wq hwq; go_wp2; exact ⟨rfl, rfl⟩) rg0 ?_
      refine rg_read (i := 8) (a1 := _) rfl (by kernel_rfl) rfl (by simp) (by intro wq hwq; go_wp2; exact ⟨rfl, rfl⟩) rg0 ?_
      refine rg_eff (i := 9) rfl (by kernel_rfl) ?_
      simp only [List.getElem_toArray, List.getElem_cons_succ, List.getElem_cons_zero]
      go_wp2_with fail
      refine ⟨rg0, ?_⟩
      refine rg_read (i := 10) (a1 := _) rfl (by kernel_rfl) rfl (by simp) (by intro wq hwq; go_wp2; exact ⟨rfl, rfl⟩) rg0 ?_
      refine rg_read (i := 11) (a1 := _) rfl (by kernel_rfl) rfl (by simp) (by intro wq hwq; go_wp2; exact ⟨rfl, rfl⟩) rg0 ?_
      refine rg_done (by kernel_rfl) ?_
      go_wp2
      go_ret
      exact mkPl r.out rfl inferInstance mkStepX
  by_cases o34 : op = 34
  · subst o34
    clear hk2 hf
    have hq : hasC m loc ⟨34, a, b⟩ = decide (a < loc) := hasC_get (.inr (.inr rfl))
    by_cases hal : a < loc
    · have r := hid (plain_of (s := s) (hq.trans (decide_eq_true hal)) (t1 := 1) (t2 := 1) rfl)
      replace hq := hid hq
      go_enter Tryd.func44, Tryd.ntmps44
      go_wp2_with fail
      refine wp_name ?_
      intro A sA
      have bA : BoxL A.drew p (iv ⟨.slice a1 m.sigs.length k1, .slice a2 m.imports.length k2, .slice a3 m.funcs.length k3, m.pages, m.most, .slice a4 m.globals.length k4, .slice a5 m.exports.length k5, .slice a6 m.data.length k6⟩ sg loc s.h (.slice (some ⟨g, 0, none⟩) (s.lo.length + 1) cap)) := boxOf
      refine rg_begin (n := 12) (IvS A p ⟨.slice a1 m.sigs.length k1, .slice a2 m.imports.length k2, .slice a3 m.funcs.length k3, m.pages, m.most, .slice a4 m.globals.length k4, .slice a5 m.exports.length k5, .slice a6 m.data.length k6⟩ sg loc) (by kernel_rfl) rfl ?_
      have rg0 := (show (IvS A p ⟨.slice a1 m.sigs.length k1, .slice a2 m.imports.length k2, .slice a3 m.funcs.length k3, m.pages, m.most, .slice a4 m.globals.length k4, .slice a5 m.exports.length k5, .slice a6 m.data.length k6⟩ sg loc) (World.drew _) from ⟨⟨(Fr.refl _ _).drew⟩, _, _, bA⟩)
      refine rg_read (i := 0) (a1 := _) rfl (by kernel_rfl) rfl (by simp) (by intro wq hwq; go_wp2; exact ⟨rfl, rfl⟩) rg0 ?_
      refine rg_read (i := 1) (a1 := _) rfl (by kernel_rfl) rfl (by simp) (by intro wq hwq; obtain ⟨hx, h9, st9, bq⟩ := hwq; go_wp2; exact ⟨rfl, rfl⟩) rg0 ?_
      refine rg_read (i := 2) (a1 := _) rfl (by kernel_rfl) rfl (by simp) (by intro wq hwq; go_wp2; exact ⟨rfl, rfl⟩) rg0 ?_
      refine rg_read (i := 3) (a1 := _) rfl (by kernel_rfl) rfl (by simp) (by intro wq hwq; go_wp2; exact ⟨rfl, rfl⟩) rg0 ?_
      refine rg_read (i := 4) (a1 := _) rfl (by kernel_rfl) rfl (by simp) (by intro wq hwq; go_wp2; exact ⟨rfl, rfl⟩) rg0 ?_
      refine rg_read (i := 5) (a1 := _) rfl (by kernel_rfl) rfl (by simp) (by intro wq hwq; obtain ⟨hx, h9, st9, bq⟩ := hwq; go_wp2; exact ⟨rfl, rfl⟩) rg0 ?_
      refine rg_read (i := 6) (a1 := _) rfl (by kernel_rfl) rfl (by simp) (by intro wq hwq; go_wp2; exact ⟨rfl, rfl⟩) rg0 ?_
      refine rg_read (i := 7) (a1 := _) rfl (by kernel_rfl) rfl (by simp) (by intro wq hwq; go_wp2; exact ⟨rfl, rfl⟩) rg0 ?_
      refine rg_read (i := 8) (a1 := _) rfl (by kernel_rfl) rfl (by simp) (by intro wq hwq; go_wp2; exact ⟨rfl, rfl⟩) rg0 ?_
      refine rg_eff (i := 9) rfl (by kernel_rfl) ?_
      simp only [List.getElem_toArray, List.getElem_cons_succ, List.getElem_cons_zero]
      go_wp2_with (first | (go_at_call 60; (with_reducible refine Calls.mono (iboth _ _ _ (by omega) (by omega) (by omega) (by omega)) ?_); rintro e wk ⟨rfl, hS9, st9⟩))
      have s9 : IvS A p ⟨.slice a1 m.sigs.length k1, .slice a2 m.imports.length k2, .slice a3 m.funcs.length k3, m.pages, m.most, .slice a4 m.globals.length k4, .slice a5 m.exports.length k5, .slice a6 m.data.length k6⟩ sg loc wk := ⟨mkStepX, by obtain ⟨⟨c9, b9, o9⟩, -, -⟩ := hS9; exact ⟨_, _, b9⟩⟩
      refine ⟨s9, ?_⟩
      refine rg_read (i := 10) (a1 := _) rfl (by kernel_rfl) rfl (by simp) (by intro wq hwq; go_wp2; exact ⟨rfl, rfl⟩) s9 ?_
      refine rg_read (i := 11) (a1 := _) rfl (by kernel_rfl) rfl (by simp) (by intro wq hwq; go_wp2; exact ⟨rfl, rfl⟩) s9 ?_
      refine rg_done (by kernel_rfl) ?_
      go_wp2
      go_ret
      exact mkPl r.out rfl inferInstance mkStepX
    · have r := hid (plain_no (s := s) (hq.trans (decide_eq_false hal)))
      replace hq := hid hq
      go_enter Tryd.func44, Tryd.ntmps44
      go_wp2_with fail
      refine wp_name ?_
      intro A sA
      have bA : BoxL A.drew p (iv ⟨.slice a1 m.sigs.length k1, .slice a2 m.imports.length k2, .slice a3 m.funcs.length k3, m.pages, m.most, .slice a4 m.globals.length k4, .slice a5 m.exports.length k5, .slice a6 m.data.length k6⟩ sg loc s.h (.slice (some ⟨g, 0, none⟩) (s.lo.length + 1) cap)) := boxOf
      refine rg_begin (n := 12) (IvS A p ⟨.slice a1 m.sigs.length k1, .slice a2 m.imports.length k2, .slice a3 m.funcs.length k3, m.pages, m.most, .slice a4 m.globals.length k4, .slice a5 m.exports.length k5, .slice a6 m.data.length k6⟩ sg loc) (by kernel_rfl) rfl ?_
      have rg0 := (show (IvS A p ⟨.slice a1 m.sigs.length k1, .slice a2 m.imports.length k2, .slice a3 m.funcs.length k3, m.pages, m.most, .slice a4 m.globals.length k4, .slice a5 m.exports.length k5, .slice a6 m.data.length k6⟩ sg loc) (World.drew _) from ⟨⟨(Fr.refl _ _).drew⟩, _, _, bA⟩)
      refine rg_read (i := 0) (a1 := _) rfl (by kernel_rfl) rfl (by simp) (by intro wq hwq; go_wp2; exact ⟨rfl, rfl⟩) rg0 ?_
      refine rg_read (i := 1) (a1 := _) rfl (by kernel_rfl) rfl (by simp) (by intro wq hwq; obtain ⟨hx, h9, st9, bq⟩ := hwq; go_wp2; exact ⟨rfl, rfl⟩) rg0 ?_
      refine rg_read (i := 2) (a1 := _) rfl (by kernel_rfl) rfl (by simp) (by intro wq hwq; go_wp2; exact ⟨rfl, rfl⟩) rg0 ?_
      refine rg_read (i := 3) (a1 := _) rfl (by kernel_rfl) rfl (by simp) (by intro wq hwq; go_wp2; exact ⟨rfl, rfl⟩) rg0 ?_
      refine rg_read (i := 4) (a1 := _) rfl (by kernel_rfl) rfl (by simp) (by intro wq hwq; go_wp2; exact ⟨rfl, rfl⟩) rg0 ?_
      refine rg_read (i := 5) (a1 := _) rfl (by kernel_rfl) rfl (by simp) (by intro wq hwq; obtain ⟨hx, h9, st9, bq⟩ := hwq; go_wp2; exact ⟨rfl, rfl⟩) rg0 ?_
      refine rg_read (i := 6) (a1 := _) rfl (by kernel_rfl) rfl (by simp) (by intro wq hwq; go_wp2; exact ⟨rfl, rfl⟩) rg0 ?_
      refine rg_read (i := 7) (a1 := _) rfl (by kernel_rfl) rfl (by simp) (by intro wq hwq; go_wp2; exact ⟨rfl, rfl⟩) rg0 ?_
      refine rg_read (i := 8) (a1 := _) rfl (by kernel_rfl) rfl (by simp) (by intro wq hwq; go_wp2; exact ⟨rfl, rfl⟩) rg0 ?_
      refine rg_eff (i := 9) rfl (by kernel_rfl) ?_
      simp only [List.getElem_toArray, List.getElem_cons_succ, List.getElem_cons_zero]
      go_wp2_with fail
      refine ⟨rg0, ?_⟩
      refine rg_read (i := 10) (a1 := _) rfl (by kernel_rfl) rfl (by simp) (by intro wq hwq; go_wp2; exact ⟨rfl, rfl⟩) rg0 ?_
      refine rg_read (i := 11) (a1 := _) rfl (by kernel_rfl) rfl (by simp) (by intro wq hwq; go_wp2; exact ⟨rfl, rfl⟩) rg0 ?_
      refine rg_done (by kernel_rfl) ?_
      go_wp2
      go_ret
      exact mkPl r.out rfl inferInstance mkStepX
  by_cases o35 : op = 35
  · subst o35
    clear hk2 hf
    have hq : hasC m loc ⟨35, a, b⟩ = decide (a < m.globals.length) := hasC_35 rfl
    by_cases hal : a < m.globals.length
    · have r := hid (plain_of (s := s) (hq.trans (decide_eq_true hal)) (t1 := 0) (t2 := 1) rfl)
      replace hq := hid hq
      go_enter Tryd.func44, Tryd.ntmps44
      go_wp2_with fail
      refine wp_name ?_
      intro A sA
      have bA : BoxL A.drew p (iv ⟨.slice a1 m.sigs.length k1, .slice a2 m.imports.length k2, .slice a3 m.funcs.length k3, m.pages, m.most, .slice a4 m.globals.length k4, .slice a5 m.exports.length k5, .slice a6 m.data.length k6⟩ sg loc s.h (.slice (some ⟨g, 0, none⟩) (s.lo.length + 1) cap)) := boxOf
      refine rg_begin (n := 14) (IvS A p ⟨.slice a1 m.sigs.length k1, .slice a2 m.imports.length k2, .slice a3 m.funcs.length k3, m.pages, m.most, .slice a4 m.globals.length k4, .slice a5 m.exports.length k5, .slice a6 m.data.length k6⟩ sg loc) (by kernel_rfl) rfl ?_
      have rg0 := (show (IvS A p ⟨.slice a1 m.sigs.length k1, .slice a2 m.imports.length k2, .slice a3 m.funcs.length k3, m.pages, m.most, .slice a4 m.globals.length k4, .slice a5 m.exports.length k5, .slice a6 m.data.length k6⟩ sg loc) (World.drew _) from ⟨⟨(Fr.refl _ _).drew⟩, _, _, bA⟩)
      refine rg_read (i := 0) (a1 := _) rfl (by kernel_rfl) rfl (by simp) (by intro wq hwq; go_wp2; exact ⟨rfl, rfl⟩) rg0 ?_
      refine rg_read (i := 1) (a1 := _) rfl (by kernel_rfl) rfl (by simp) (by intro wq hwq; obtain ⟨hx, h9, st9, bq⟩ := hwq; go_wp2; exact ⟨rfl, rfl⟩) rg0 ?_
      refine rg_read (i := 2) (a1 := _) rfl (by kernel_rfl) rfl (by simp) (by intro wq hwq; go_wp2; exact ⟨rfl, rfl⟩) rg0 ?_
      refine rg_read (i := 3) (a1 := _) rfl (by kernel_rfl) rfl (by simp) (by intro wq hwq; go_wp2; exact ⟨rfl, rfl⟩) rg0 ?_
      refine rg_read (i := 4) (a1 := _) rfl (by kernel_rfl) rfl (by simp) (by intro wq hwq; go_wp2; exact ⟨rfl, rfl⟩) rg0 ?_
      refine rg_read (i := 5) (a1 := _) rfl (by kernel_rfl) rfl (by simp) (by intro wq hwq; go_wp2; exact ⟨rfl, rfl⟩) rg0 ?_
      refine rg_read (i := 6) (a1 := _) rfl (by kernel_rfl) rfl (by simp) (by intro wq hwq; obtain ⟨hx, h9, st9, bq⟩ := hwq; go_wp2; exact ⟨rfl, rfl⟩) rg0 ?_
      refine rg_read (i := 7) (a1 := _) rfl (by kernel_rfl) rfl (by simp) (by intro wq hwq; go_wp2; exact ⟨rfl, rfl⟩) rg0 ?_
      refine rg_read (i := 8) (a1 := _) rfl (by kernel_rfl) rfl (by simp) (by intro wq hwq; go_wp2; exact ⟨rfl, rfl⟩) rg0 ?_
      refine rg_read (i := 9) (a1 := _) rfl (by kernel_rfl) rfl (by simp) (by intro wq hwq; go_wp2; exact ⟨rfl, rfl⟩) rg0 ?_
      refine rg_read (i := 10) (a1 := _) rfl (by kernel_rfl) rfl (by simp) (by intro wq hwq; go_wp2; exact ⟨rfl, rfl⟩) rg0 ?_
      refine rg_eff (i := 11) rfl (by kernel_rfl) ?_
      simp only [List.getElem_toArray, List.getElem_cons_succ, List.getElem_cons_zero]
      go_wp2_with (first | (go_at_call 60; (with_reducible refine Calls.mono (iboth _ _ _ (by omega) (by omega) (by omega) (by omega)) ?_); rintro e wk ⟨rfl, hS9, st9⟩))
      have s9 : IvS A p ⟨.slice a1 m.sigs.length k1, .slice a2 m.imports.length k2, .slice a3 m.funcs.length k3, m.pages, m.most, .slice a4 m.globals.length k4, .slice a5 m.exports.length k5, .slice a6 m.data.length k6⟩ sg loc wk := ⟨mkStepX, by obtain ⟨⟨c9, b9, o9⟩, -, -⟩ := hS9; exact ⟨_, _, b9⟩⟩
      refine ⟨s9, ?_⟩
      refine rg_read (i := 12) (a1 := _) rfl (by kernel_rfl) rfl (by simp) (by intro wq hwq; go_wp2; exact ⟨rfl, rfl⟩) s9 ?_
      refine rg_read (i := 13) (a1 := _) rfl (by kernel_rfl) rfl (by simp) (by intro wq hwq; go_wp2; exact ⟨rfl, rfl⟩) s9 ?_
      refine rg_done (by kernel_rfl) ?_
      go_wp2
      go_ret
      exact mkPl r.out rfl inferInstance mkStepX
    · have r := hid (plain_no (s := s) (hq.trans (decide_eq_false hal)))
      replace hq := hid hq
      go_enter Tryd.func44, Tryd.ntmps44
      go_wp2_with fail
      refine wp_name ?_
      intro A sA
      have bA : BoxL A.drew p (iv ⟨.slice a1 m.sigs.length k1, .slice a2 m.imports.length k2, .slice a3 m.funcs.length k3, m.pages, m.most, .slice a4 m.globals.length k4, .slice a5 m.exports.length k5, .slice a6 m.data.length k6⟩ sg loc s.h (.slice (some ⟨g, 0, none⟩) (s.lo.length + 1) cap)) := boxOf
      refine rg_begin (n := 14) (IvS A p ⟨.slice a1 m.sigs.length k1, .slice a2 m.imports.length k2, .slice a3 m.funcs.length k3, m.pages, m.most, .slice a4 m.globals.length k4, .slice a5 m.exports.length k5, .slice a6 m.data.length k6⟩ sg loc) (by kernel_rfl) rfl ?_
      have rg0 := (show (IvS A p ⟨.slice a1 m.sigs.length k1, .slice a2 m.imports.length k2, .slice a3 m.funcs.length k3, m.pages, m.most, .slice a4 m.globals.length k4, .slice a5 m.exports.length k5, .slice a6 m.data.length k6⟩ sg loc) (World.drew _) from ⟨⟨(Fr.refl _ _).drew⟩, _, _, bA⟩)
      refine rg_read (i := 0) (a1 := _) rfl (by kernel_rfl) rfl (by simp) (by intro wq hwq; go_wp2; exact ⟨rfl, rfl⟩) rg0 ?_
      refine rg_read (i := 1) (a1 := _) rfl (by kernel_rfl) rfl (by simp) (by intro wq hwq; obtain ⟨hx, h9, st9, bq⟩ := hwq; go_wp2; exact ⟨rfl, rfl⟩) rg0 ?_
      refine rg_read (i := 2) (a1 := _) rfl (by kernel_rfl) rfl (by simp) (by intro wq hwq; go_wp2; exact ⟨rfl, rfl⟩) rg0 ?_
      refine rg_read (i := 3) (a1 := _) rfl (by kernel_rfl) rfl (by simp) (by intro wq hwq; go_wp2; exact ⟨rfl, rfl⟩) rg0 ?_
      refine rg_read (i := 4) (a1 := _) rfl (by kernel_rfl) rfl (by simp) (by intro wq hwq; go_wp2; exact ⟨rfl, rfl⟩) rg0 ?_
      refine rg_read (i := 5) (a1 := _) rfl (by kernel_rfl) rfl (by simp) (by intro wq hwq; go_wp2; exact ⟨rfl, rfl⟩) rg0 ?_
      refine rg_read (i := 6) (a1 := _) rfl (by kernel_rfl) rfl (by simp) (by intro wq hwq; obtain ⟨hx, h9, st9, bq⟩ := hwq; go_wp2; exact ⟨rfl, rfl⟩) rg0 ?_
      refine rg_read (i := 7) (a1 := _) rfl (by kernel_rfl) rfl (by simp) (by intro wq hwq; go_wp2; exact ⟨rfl, rfl⟩) rg0 ?_
      refine rg_read (i := 8) (a1 := _) rfl (by kernel_rfl) rfl (by simp) (by intro wq hwq; go_wp2; exact ⟨rfl, rfl⟩) rg0 ?_
      refine rg_read (i := 9) (a1 := _) rfl (by kernel_rfl) rfl (by simp) (by intro wq hwq; go_wp2; exact ⟨rfl, rfl⟩) rg0 ?_
      refine rg_read (i := 10) (a1 := _) rfl (by kernel_rfl) rfl (by simp) (by intro wq hwq; go_wp2; exact ⟨rfl, rfl⟩) rg0 ?_
      refine rg_eff (i := 11) rfl (by kernel_rfl) ?_
      simp only [List.getElem_toArray, List.getElem_cons_succ, List.getElem_cons_zero]
      go_wp2_with fail
      refine ⟨rg0, ?_⟩
      refine rg_read (i := 12) (a1 := _) rfl (by kernel_rfl) rfl (by simp) (by intro wq hwq; go_wp2; exact ⟨rfl, rfl⟩) rg0 ?_
      refine rg_read (i := 13) (a1 := _) rfl (by kernel_rfl) rfl (by simp) (by intro wq hwq; go_wp2; exact ⟨rfl, rfl⟩) rg0 ?_
      refine rg_done (by kernel_rfl) ?_
      go_wp2
      go_ret
      exact mkPl r.out rfl inferInstance mkStepX
  by_cases o36 : op = 36
  · subst o36
    obtain ⟨k, rfl⟩ := Int.eq_ofNat_of_zero_le (hk2 (by omega)).1
    clear hk2 hf
    by_cases hk : k < m.globals.length
    · have hq := hasC_36 (m := m) (loc := loc) (i := ⟨36, (k : Int), b⟩) rfl rfl hk
      obtain ⟨be, oe, Ge, cse, rfl, hGe, hIe, hce, hoe⟩ := hvw4.row hr4 rfl (by decide) k hk
      have hI0e := hIe
      obtain ⟨rfl, rfl, i1e⟩ := global_open hI0e
      have kee : Known w _ m.globals[k] _ := ⟨hIe⟩
      have c0e := (hce 0 _ rfl).1
      replace c0e : w.cell? ⟨be, oe + k * 2, none⟩ = _ := c0e
      have c1e := (hce 1 _ rfl).1
      replace c1e : w.cell? ⟨be, oe + k * 2 + 1, none⟩ = _ := c1e
      clear hce
      have hbe : be ∈ F4 := by rw [hF4, if_neg (by intro e; rw [e] at hk; simp at hk)]; simp [blk]
      have nbe : NeB be p := ⟨fun e => apf.ne be (by simp [hbe]) (by simp [e])⟩
      cases hmu : m.globals[k].isMut
      · rw [hmu] at hq c0e
        have r := hid (plain_no (s := s) hq)
        replace hq := hid hq
        replace hmu := hid hmu
        go_enter Tryd.func44, Tryd.ntmps44
        go_wp2_with fail
        refine wp_name ?_
        intro A sA
        have bA : BoxL A.drew p (iv ⟨.slice a1 m.sigs.length k1, .slice a2 m.imports.length k2, .slice a3 m.funcs.length k3, m.pages, m.most, .slice (some ⟨be, oe, none⟩) m.globals.length k4, .slice a5 m.exports.length k5, .slice a6 m.data.length k6⟩ sg loc s.h (.slice (some ⟨g, 0, none⟩) (s.lo.length + 1) cap)) := boxOf
        refine rg_begin (n := 26) (IvS A p ⟨.slice a1 m.sigs.length k1, .slice a2 m.imports.length k2, .slice a3 m.funcs.length k3, m.pages, m.most, .slice (some ⟨be, oe, none⟩) m.globals.length k4, .slice a5 m.exports.length k5, .slice a6 m.data.length k6⟩ sg loc) (by kernel_rfl) rfl ?_
        have rg0 := (show (IvS A p ⟨.slice a1 m.sigs.length k1, .slice a2 m.imports.length k2, .slice a3 m.funcs.length k3, m.pages, m.most, .slice (some ⟨be, oe, none⟩) m.globals.length k4, .slice a5 m.exports.length k5, .slice a6 m.data.length k6⟩ sg loc) (World.drew _) from ⟨⟨(Fr.refl _ _).drew⟩, _, _, bA⟩)
        refine rg_read (i := 0) (a1 := _) rfl (by kernel_rfl) rfl (by simp) (by intro wq hwq; go_wp2; exact ⟨rfl, rfl⟩) rg0 ?_
        refine rg_read (i := 1) (a1 := _) rfl (by kernel_rfl) rfl (by simp) (by intro wq hwq; obtain ⟨hx, h9, st9, bq⟩ := hwq; go_wp2; exact ⟨rfl, rfl⟩) rg0 ?_
        refine rg_read (i := 2) (a1 := _) rfl (by kernel_rfl) rfl (by simp) (by intro wq hwq; go_wp2; exact ⟨rfl, rfl⟩) rg0 ?_
        refine rg_read (i := 3) (a1 := _) rfl (by kernel_rfl) rfl (by simp) (by intro wq hwq; go_wp2; exact ⟨rfl, rfl⟩) rg0 ?_
        refine rg_read (i := 4) (a1 := _) rfl (by kernel_rfl) rfl (by simp) (by intro wq hwq; go_wp2; exact ⟨rfl, rfl⟩) rg0 ?_
        refine rg_read (i := 5) (a1 := _) rfl (by kernel_rfl) rfl (by simp) (by intro wq hwq; go_wp2; exact ⟨rfl, rfl⟩) rg0 ?_
        refine rg_read (i := 6) (a1 := _) rfl (by kernel_rfl) rfl (by simp) (by intro wq hwq; obtain ⟨hx, h9, st9, bq⟩ := hwq; go_wp2; exact ⟨rfl, rfl⟩) rg0 ?_
        refine rg_read (i := 7) (a1 := _) rfl (by kernel_rfl) rfl (by simp) (by intro wq hwq; go_wp2; exact ⟨rfl, rfl⟩) rg0 ?_
        refine rg_read (i := 8) (a1 := _) rfl (by kernel_rfl) rfl (by simp) (by intro wq hwq; go_wp2; exact ⟨rfl, rfl⟩) rg0 ?_
        refine rg_read (i := 9) (a1 := _) rfl (by kernel_rfl) rfl (by simp) (by intro wq hwq; go_wp2; exact ⟨rfl, rfl⟩) rg0 ?_
        refine rg_read (i := 10) (a1 := _) rfl (by kernel_rfl) rfl (by simp) (by intro wq hwq; go_wp2; exact ⟨rfl, rfl⟩) rg0 ?_
        refine rg_read (i := 11) (a1 := _) rfl (by kernel_rfl) rfl (by simp) (by intro wq hwq; go_wp2; exact ⟨rfl, rfl⟩) rg0 ?_
        refine rg_read (i := 12) (a1 := _) rfl (by kernel_rfl) rfl (by simp) (by intro wq hwq; go_wp2; exact ⟨rfl, rfl⟩) rg0 ?_
        refine rg_read (i := 13) (a1 := _) rfl (by kernel_rfl) rfl (by simp) (by intro wq hwq; go_wp2; exact ⟨rfl, rfl⟩) rg0 ?_
        refine rg_read (i := 14) (a1 := _) rfl (by kernel_rfl) rfl (by simp) (by intro wq hwq; obtain ⟨hx, h9, st9, bq⟩ := hwq; go_wp2; exact ⟨rfl, rfl⟩) rg0 ?_
        refine rg_read (i := 15) (a1 := _) rfl (by kernel_rfl) rfl (by simp) (by intro wq hwq; go_wp2; exact ⟨rfl, rfl⟩) rg0 ?_
        refine rg_read (i := 16) (a1 := _) rfl (by kernel_rfl) rfl (by simp) (by intro wq hwq; obtain ⟨hx, h9, st9, bq⟩ := hwq; go_wp2; exact ⟨rfl, rfl⟩) rg0 ?_
        refine rg_read (i := 17) (a1 := _) rfl (by kernel_rfl) rfl (by simp) (by intro wq hwq; go_wp2; exact ⟨rfl, rfl⟩) rg0 ?_
        refine rg_read (i := 18) (a1 := _) rfl (by kernel_rfl) rfl (by simp) (by intro wq hwq; go_wp2; exact ⟨rfl, rfl⟩) rg0 ?_
        refine rg_read (i := 19) (a1 := _) rfl (by kernel_rfl) rfl (by simp) (by intro wq hwq; obtain ⟨hx, h9, st9, bq⟩ := hwq; go_wp2; exact ⟨rfl, rfl⟩) rg0 ?_
        refine rg_read (i := 20) (a1 := _) rfl (by kernel_rfl) rfl (by simp) (by intro wq hwq; go_wp2; exact ⟨rfl, rfl⟩) rg0 ?_
        refine rg_read (i := 21) (a1 := _) rfl (by kernel_rfl) rfl (by simp) (by intro wq hwq; go_wp2; exact ⟨rfl, rfl⟩) rg0 ?_
        refine rg_read (i := 22) (a1 := _) rfl (by kernel_rfl) rfl (by simp) (by intro wq hwq; go_wp2; exact ⟨rfl, rfl⟩) rg0 ?_
        refine rg_eff (i := 23) rfl (by kernel_rfl) ?_
        simp only [List.getElem_toArray, List.getElem_cons_succ, List.getElem_cons_zero]
        go_wp2_with fail
        refine ⟨rg0, ?_⟩
        refine rg_read (i := 24) (a1 := _) rfl (by kernel_rfl) rfl (by simp) (by intro wq hwq; go_wp2; exact ⟨rfl, rfl⟩) rg0 ?_
        refine rg_read (i := 25) (a1 := _) rfl (by kernel_rfl) rfl (by simp) (by intro wq hwq; go_wp2; exact ⟨rfl, rfl⟩) rg0 ?_
        refine rg_done (by kernel_rfl) ?_
        go_wp2
        go_ret
        exact mkPl r.out rfl inferInstance mkStepX
      · rw [hmu] at hq c0e
        have r := hid (plain_of (s := s) hq (t1 := 1) (t2 := 0) rfl)
        replace hq := hid hq
        replace hmu := hid hmu
        go_enter Tryd.func44, Tryd.ntmps44
        go_wp2_with fail
        refine wp_name ?_
        intro A sA
        have bA : BoxL A.drew p (iv ⟨.slice a1 m.sigs.length k1, .slice a2 m.imports.length k2, .slice a3 m.funcs.length k3, m.pages, m.most, .slice (some ⟨be, oe, none⟩) m.globals.length k4, .slice a5 m.exports.length k5, .slice a6 m.data.length k6⟩ sg loc s.h (.slice (some ⟨g, 0, none⟩) (s.lo.length + 1) cap)) := boxOf
        refine rg_begin (n := 26) (IvS A p ⟨.slice a1 m.sigs.length k1, .slice a2 m.imports.length k2, .slice a3 m.funcs.length k3, m.pages, m.most, .slice (some ⟨be, oe, none⟩) m.globals.length k4, .slice a5 m.exports.length k5, .slice a6 m.data.length k6⟩ sg loc) (by kernel_rfl) rfl ?_
        have rg0 := (show (IvS A p ⟨.slice a1 m.sigs.length k1, .slice a2 m.imports.length k2, .slice a3 m.funcs.length k3, m.pages, m.most, .slice (some ⟨be, oe, none⟩) m.globals.length k4, .slice a5 m.exports.length k5, .slice a6 m.data.length k6⟩ sg loc) (World.drew _) from ⟨⟨(Fr.refl _ _).drew⟩, _, _, bA⟩)
        refine rg_read (i := 0) (a1 := _) rfl (by kernel_rfl) rfl (by simp) (by intro wq hwq; go_wp2; exact ⟨rfl, rfl⟩) rg0 ?_
        refine rg_read (i := 1) (a1 := _) rfl (by kernel_rfl) rfl (by simp) (by intro wq hwq; obtain ⟨hx, h9, st9, bq⟩ := hwq; go_wp2; exact ⟨rfl, rfl⟩) rg0 ?_
        refine rg_read (i := 2) (a1 := _) rfl (by kernel_rfl) rfl (by simp) (by intro wq hwq; go_wp2; exact ⟨rfl, rfl⟩) rg0 ?_
        refine rg_read (i := 3) (a1 := _) rfl (by kernel_rfl) rfl (by simp) (by intro wq hwq; go_wp2; exact ⟨rfl, rfl⟩) rg0 ?_
        refine rg_read (i := 4) (a1 := _) rfl (by kernel_rfl) rfl (by simp) (by intro wq hwq; go_wp2; exact ⟨rfl, rfl⟩) rg0 ?_
        refine rg_read (i := 5) (a1 := _) rfl (by kernel_rfl) rfl (by simp) (by intro wq hwq; go_wp2; exact ⟨rfl, rfl⟩) rg0 ?_
        refine rg_read (i := 6) (a1 := _) rfl (by kernel_rfl) rfl (by simp) (by intro wq hwq; obtain ⟨hx, h9, st9, bq⟩ := hwq; go_wp2; exact ⟨rfl, rfl⟩) rg0 ?_
        refine rg_read (i := 7) (a1 := _) rfl (by kernel_rfl) rfl (by simp) (by intro wq hwq; go_wp2; exact ⟨rfl, rfl⟩) rg0 ?_
        refine rg_read (i := 8) (a1 := _) rfl (by kernel_rfl) rfl (by simp) (by intro wq hwq; go_wp2; exact ⟨rfl, rfl⟩) rg0 ?_
        refine rg_read (i := 9) (a1 := _) rfl (by kernel_rfl) rfl (by simp) (by intro wq hwq; go_wp2; exact ⟨rfl, rfl⟩) rg0 ?_
        refine rg_read (i := 10) (a1 := _) rfl (by kernel_rfl) rfl (by simp) (by intro wq hwq; go_wp2; exact ⟨rfl, rfl⟩) rg0 ?_
        refine rg_read (i := 11) (a1 := _) rfl (by kernel_rfl) rfl (by simp) (by intro wq hwq; go_wp2; exact ⟨rfl, rfl⟩) rg0 ?_
        refine rg_read (i := 12) (a1 := _) rfl (by kernel_rfl) rfl (by simp) (by intro wq hwq; go_wp2; exact ⟨rfl, rfl⟩) rg0 ?_
        refine rg_read (i := 13) (a1 := _) rfl (by kernel_rfl) rfl (by simp) (by intro wq hwq; go_wp2; exact ⟨rfl, rfl⟩) rg0 ?_
        refine rg_read (i := 14) (a1 := _) rfl (by kernel_rfl) rfl (by simp) (by intro wq hwq; obtain ⟨hx, h9, st9, bq⟩ := hwq; go_wp2; exact ⟨rfl, rfl⟩) rg0 ?_
        refine rg_read (i := 15) (a1 := _) rfl (by kernel_rfl) rfl (by simp) (by intro wq hwq; go_wp2; exact ⟨rfl, rfl⟩) rg0 ?_
        refine rg_read (i := 16) (a1 := _) rfl (by kernel_rfl) rfl (by simp) (by intro wq hwq; obtain ⟨hx, h9, st9, bq⟩ := hwq; go_wp2; exact ⟨rfl, rfl⟩) rg0 ?_
        refine rg_read (i := 17) (a1 := _) rfl (by kernel_rfl) rfl (by simp) (by intro wq hwq; go_wp2; exact ⟨rfl, rfl⟩) rg0 ?_
        refine rg_read (i := 18) (a1 := _) rfl (by kernel_rfl) rfl (by simp) (by intro wq hwq; go_wp2; exact ⟨rfl, rfl⟩) rg0 ?_
        refine rg_read (i := 19) (a1 := _) rfl (by kernel_rfl) rfl (by simp) (by intro wq hwq; obtain ⟨hx, h9, st9, bq⟩ := hwq; go_wp2; exact ⟨rfl, rfl⟩) rg0 ?_
        refine rg_read (i := 20) (a1 := _) rfl (by kernel_rfl) rfl (by simp) (by intro wq hwq; go_wp2; exact ⟨rfl, rfl⟩) rg0 ?_
        refine rg_read (i := 21) (a1 := _) rfl (by kernel_rfl) rfl (by simp) (by intro wq hwq; go_wp2; exact ⟨rfl, rfl⟩) rg0 ?_
        refine rg_read (i := 22) (a1 := _) rfl (by kernel_rfl) rfl (by simp) (by intro wq hwq; go_wp2; exact ⟨rfl, rfl⟩) rg0 ?_
        refine rg_eff (i := 23) rfl (by kernel_rfl) ?_
        simp only [List.getElem_toArray, List.getElem_cons_succ, List.getElem_cons_zero]
        go_wp2_with (first | (go_at_call 60; (with_reducible refine Calls.mono (iboth _ _ _ (by omega) (by omega) (by omega) (by omega)) ?_); rintro e wk ⟨rfl, hS9, st9⟩))
        have s9 : IvS A p ⟨.slice a1 m.sigs.length k1, .slice a2 m.imports.length k2, .slice a3 m.funcs.length k3, m.pages, m.most, .slice (some ⟨be, oe, none⟩) m.globals.length k4, .slice a5 m.exports.length k5, .slice a6 m.data.length k6⟩ sg loc wk := ⟨mkStepX, by obtain ⟨⟨c9, b9, o9⟩, -, -⟩ := hS9; exact ⟨_, _, b9⟩⟩
        refine ⟨s9, ?_⟩
        refine rg_read (i := 24) (a1 := _) rfl (by kernel_rfl) rfl (by simp) (by intro wq hwq; go_wp2; exact ⟨rfl, rfl⟩) s9 ?_
        refine rg_read (i := 25) (a1 := _) rfl (by kernel_rfl) rfl (by simp) (by intro wq hwq; go_wp2; exact ⟨rfl, rfl⟩) s9 ?_
        refine rg_done (by kernel_rfl) ?_
        go_wp2
        go_ret
        exact mkPl r.out rfl inferInstance mkStepX
    · have hq := hasC_36n (m := m) (loc := loc) (i := ⟨36, (k : Int), b⟩) rfl (by show ¬ (k : Int) < _; omega)
      have r := hid (plain_no (s := s) hq)
      replace hq := hid hq
      go_enter Tryd.func44, Tryd.ntmps44
      go_wp2_with fail
      refine wp_name ?_
      intro A sA
      have bA : BoxL A.drew p (iv ⟨.slice a1 m.sigs.length k1, .slice a2 m.imports.length k2, .slice a3 m.funcs.length k3, m.pages, m.most, .slice a4 m.globals.length k4, .slice a5 m.exports.length k5, .slice a6 m.data.length k6⟩ sg loc s.h (.slice (some ⟨g, 0, none⟩) (s.lo.length + 1) cap)) := boxOf
      refine rg_begin (n := 26) (IvS A p ⟨.slice a1 m.sigs.length k1, .slice a2 m.imports.length k2, .slice a3 m.funcs.length k3, m.pages, m.most, .slice a4 m.globals.length k4, .slice a5 m.exports.length k5, .slice a6 m.data.length k6⟩ sg loc) (by kernel_rfl) rfl ?_
      have rg0 := (show (IvS A p ⟨.slice a1 m.sigs.length k1, .slice a2 m.imports.length k2, .slice a3 m.funcs.length k3, m.pages, m.most, .slice a4 m.globals.length k4, .slice a5 m.exports.length k5, .slice a6 m.data.length k6⟩ sg loc) (World.drew _) from ⟨⟨(Fr.refl _ _).drew⟩, _, _, bA⟩)
      refine rg_read (i := 0) (a1 := _) rfl (by kernel_rfl) rfl (by simp) (by intro wq hwq; go_wp2; exact ⟨rfl, rfl⟩) rg0 ?_
      refine rg_read (i := 1) (a1 := _) rfl (by kernel_rfl) rfl (by simp) (by intro wq hwq; obtain ⟨hx, h9, st9, bq⟩ := hwq; go_wp2; exact ⟨rfl, rfl⟩) rg0 ?_
      refine rg_read (i := 2) (a1 := _) rfl (by kernel_rfl) rfl (by simp) (by intro wq hwq; go_wp2; exact ⟨rfl, rfl⟩) rg0 ?_
      refine rg_read (i := 3) (a1 := _) rfl (by kernel_rfl) rfl (by simp) (by intro wq hwq; go_wp2; exact ⟨rfl, rfl⟩) rg0 ?_
      refine rg_read (i := 4) (a1 := _) rfl (by kernel_rfl) rfl (by simp) (by intro wq hwq; go_wp2; exact ⟨rfl, rfl⟩) rg0 ?_
      refine rg_read (i := 5) (a1 := _) rfl (by kernel_rfl) rfl (by simp) (by intro wq hwq; go_wp2; exact ⟨rfl, rfl⟩) rg0 ?_
      refine rg_read (i := 6) (a1 := _) rfl (by kernel_rfl) rfl (by simp) (by intro wq hwq; obtain ⟨hx, h9, st9, bq⟩ := hwq; go_wp2; exact ⟨rfl, rfl⟩) rg0 ?_
      refine rg_read (i := 7) (a1 := _) rfl (by kernel_rfl) rfl (by simp) (by intro wq hwq; go_wp2; exact ⟨rfl, rfl⟩) rg0 ?_
      refine rg_read (i := 8) (a1 := _) rfl (by kernel_rfl) rfl (by simp) (by intro wq hwq; go_wp2; exact ⟨rfl, rfl⟩) rg0 ?_
      refine rg_read (i := 9) (a1 := _) rfl (by kernel_rfl) rfl (by simp) (by intro wq hwq; go_wp2; exact ⟨rfl, rfl⟩) rg0 ?_
      refine rg_read (i := 10) (a1 := _) rfl (by kernel_rfl) rfl (by simp) (by intro wq hwq; go_wp2; exact ⟨rfl, rfl⟩) rg0 ?_
      refine rg_read (i := 11) (a1 := _) rfl (by kernel_rfl) rfl (by simp) (by intro wq hwq; go_wp2; exact ⟨rfl, rfl⟩) rg0 ?_
      refine rg_read (i := 12) (a1 := _) rfl (by kernel_rfl) rfl (by simp) (by intro wq hwq; go_wp2; exact ⟨rfl, rfl⟩) rg0 ?_
      refine rg_read (i := 13) (a1 := _) rfl (by kernel_rfl) rfl (by simp) (by intro wq hwq; go_wp2; exact ⟨rfl, rfl⟩) rg0 ?_
      refine rg_read (i := 14) (a1 := _) rfl (by kernel_rfl) rfl (by simp) (by intro wq hwq; obtain ⟨hx, h9, st9, bq⟩ := hwq; go_wp2; exact ⟨rfl, rfl⟩) rg0 ?_
      refine rg_read (i := 15) (a1 := _) rfl (by kernel_rfl) rfl (by simp) (by intro wq hwq; go_wp2; exact ⟨rfl, rfl⟩) rg0 ?_
      refine rg_read (i := 16) (a1 := _) rfl (by kernel_rfl) rfl (by simp) (by intro wq hwq; obtain ⟨hx, h9, st9, bq⟩ := hwq; go_wp2; exact ⟨rfl, rfl⟩) rg0 ?_
      refine rg_read (i := 17) (a1 := _) rfl (by kernel_rfl) rfl (by simp) (by intro wq hwq; go_wp2; exact ⟨rfl, rfl⟩) rg0 ?_
      refine rg_read (i := 18) (a1 := _) rfl (by kernel_rfl) rfl (by simp) (by intro wq hwq; go_wp2; exact ⟨rfl, rfl⟩) rg0 ?_
      refine rg_read (i := 19) (a1 := _) rfl (by kernel_rfl) rfl (by simp) (by intro wq hwq; obtain ⟨hx, h9, st9, bq⟩ := hwq; go_wp2; exact ⟨rfl, rfl⟩) rg0 ?_
      refine rg_read (i := 20) (a1 := _) rfl (by kernel_rfl) rfl (by simp) (by intro wq hwq; go_wp2; exact ⟨rfl, rfl⟩) rg0 ?_
      refine rg_read (i := 21) (a1 := _) rfl (by kernel_rfl) rfl (by simp) (by intro wq hwq; go_wp2; exact ⟨rfl, rfl⟩) rg0 ?_
      refine rg_read (i := 22) (a1 := _) rfl (by kernel_rfl) rfl (by simp) (by intro wq hwq; go_wp2; exact ⟨rfl, rfl⟩) rg0 ?_
      refine rg_eff (i := 23) rfl (by kernel_rfl) ?_
      simp only [List.getElem_toArray, List.getElem_cons_succ, List.getElem_cons_zero]
      go_wp2_with fail
      refine ⟨rg0, ?_⟩
      refine rg_read (i := 24) (a1 := _) rfl (by kernel_rfl) rfl (by simp) (by intro wq hwq; go_wp2; exact ⟨rfl, rfl⟩) rg0 ?_
      refine rg_read (i := 25) (a1 := _) rfl (by kernel_rfl) rfl (by simp) (by intro wq hwq; go_wp2; exact ⟨rfl, rfl⟩) rg0 ?_
      refine rg_done (by kernel_rfl) ?_
      go_wp2
      go_ret
      exact mkPl r.out rfl inferInstance mkStepX
  by_cases o40 : op = 40
  · subst o40
    clear hk2 hf
    have hq : hasC m loc ⟨40, a, b⟩ = decide (0 ≤ m.pages) := hasC_mem (.inl rfl)
    by_cases hal : 0 ≤ m.pages
    · have r := hid (plain_of (s := s) (hq.trans (decide_eq_true hal)) (t1 := 1) (t2 := 1) rfl)
      have hp1 : (m.pages != -1) = true := by simp; omega
      replace hq := hid hq
      replace hal := hid hal
      go_enter Tryd.func44, Tryd.ntmps44
      go_wp2_with (first | (go_at_call 60; (with_reducible refine Calls.mono (iboth _ _ _ (by omega) (by omega) (by omega) (by omega)) ?_); rintro e wk ⟨rfl, hS9, st9⟩))
      go_ret
      exact mkPl r.out rfl inferInstance mkStepX
    · have r := hid (plain_no (s := s) (hq.trans (decide_eq_false hal)))
      have hp1 : (m.pages != -1) = false := by simp; omega
      replace hq := hid hq
      replace hal := hid hal
      go_enter Tryd.func44, Tryd.ntmps44
      go_wp2_with (first | (go_at_call 60; (with_reducible refine Calls.mono (iboth _ _ _ (by omega) (by omega) (by omega) (by omega)) ?_); rintro e wk ⟨rfl, hS9, st9⟩))
      go_ret
      exact mkPl r.out rfl inferInstance mkStepX
  by_cases o64 : op = 64
  · subst o64
    clear hk2 hf
    have hq : hasC m loc ⟨64, a, b⟩ = decide (0 ≤ m.pages) := hasC_mem (.inr (.inr (.inr rfl)))
    by_cases hal : 0 ≤ m.pages
    · have r := hid (plain_of (s := s) (hq.trans (decide_eq_true hal)) (t1 := 1) (t2 := 1) rfl)
      have hp1 : (m.pages != -1) = true := by simp; omega
      replace hq := hid hq
      replace hal := hid hal
      go_enter Tryd.func44, Tryd.ntmps44
      go_wp2_with (first | (go_at_call 60; (with_reducible refine Calls.mono (iboth _ _ _ (by omega) (by omega) (by omega) (by omega)) ?_); rintro e wk ⟨rfl, hS9, st9⟩))
      go_ret
      exact mkPl r.out rfl inferInstance mkStepX
    · have r := hid (plain_no (s := s) (hq.trans (decide_eq_false hal)))
      have hp1 : (m.pages != -1) = false := by simp; omega
      replace hq := hid hq
      replace hal := hid hal
      go_enter Tryd.func44, Tryd.ntmps44
      go_wp2_with (first | (go_at_call 60; (with_reducible refine Calls.mono (iboth _ _ _ (by omega) (by omega) (by omega) (by omega)) ?_); rintro e wk ⟨rfl, hS9, st9⟩))
      go_ret
      exact mkPl r.out rfl inferInstance mkStepX
  by_cases o54 : op = 54
  · subst o54
    clear hk2 hf
    have hq : hasC m loc ⟨54, a, b⟩ = decide (0 ≤ m.pages) := hasC_mem (.inr (.inl rfl))
    by_cases hal : 0 ≤ m.pages
    · have r := hid (plain_of (s := s) (hq.trans (decide_eq_true hal)) (t1 := 2) (t2 := 0) rfl)
      have hp1 : (m.pages != -1) = true := by simp; omega
      replace hq := hid hq
      replace hal := hid hal
      go_enter Tryd.func44, Tryd.ntmps44
      go_wp2_with (first | (go_at_call 60; (with_reducible refine Calls.mono (iboth _ _ _ (by omega) (by omega) (by omega) (by omega)) ?_); rintro e wk ⟨rfl, hS9, st9⟩))
      go_ret
      exact mkPl r.out rfl inferInstance mkStepX
    · have r := hid (plain_no (s := s) (hq.trans (decide_eq_false hal)))
      have hp1 : (m.pages != -1) = false := by simp; omega
      replace hq := hid hq
      replace hal := hid hal
      go_enter Tryd.func44, Tryd.ntmps44
      go_wp2_with (first | (go_at_call 60; (with_reducible refine Calls.mono (iboth _ _ _ (by omega) (by omega) (by omega) (by omega)) ?_); rintro e wk ⟨rfl, hS9, st9⟩))
      go_ret
      exact mkPl r.out rfl inferInstance mkStepX
  by_cases o63 : op = 63
  · subst o63
    clear hk2 hf
    have hq : hasC m loc ⟨63, a, b⟩ = decide (0 ≤ m.pages) := hasC_mem (.inr (.inr (.inl rfl)))
    by_cases hal : 0 ≤ m.pages
    · have r := hid (plain_of (s := s) (hq.trans (decide_eq_true hal)) (t1 := 0) (t2 := 1) rfl)
      have hp1 : (m.pages != -1) = true := by simp; omega
      replace hq := hid hq
      replace hal := hid hal
      go_enter Tryd.func44, Tryd.ntmps44
      go_wp2_with (first | (go_at_call 60; (with_reducible refine Calls.mono (iboth _ _ _ (by omega) (by omega) (by omega) (by omega)) ?_); rintro e wk ⟨rfl, hS9, st9⟩))
      go_ret
      exact mkPl r.out rfl inferInstance mkStepX
    · have r := hid (plain_no (s := s) (hq.trans (decide_eq_false hal)))
      have hp1 : (m.pages != -1) = false := by simp; omega
      replace hq := hid hq
      replace hal := hid hal
      go_enter Tryd.func44, Tryd.ntmps44
      go_wp2_with (first | (go_at_call 60; (with_reducible refine Calls.mono (iboth _ _ _ (by omega) (by omega) (by omega) (by omega)) ?_); rintro e wk ⟨rfl, hS9, st9⟩))
      go_ret
      exact mkPl r.out rfl inferInstance mkStepX
  have hr := takes_rest (m := m) (i := ⟨op, a, b⟩) ⟨o1, o16, o26, o33, o36, o27, o32, o35, o63, o65, o34, o40, o64, o69, o54⟩
  replace hr : takesC m ⟨op, a, b⟩ = if 103 ≤ op ∧ op ≤ 105 then (1, 1) else (2, 1) := hr
  have hq : hasC m loc ⟨op, a, b⟩ = true := hasC_other (by show ¬ (op = 16 ∨ (32 ≤ op ∧ op ≤ 36) ∨ op = 40 ∨ op = 54 ∨ op = 63 ∨ op = 64); omega)
  clear hk2 hf
  replace o1 : (op == 1) = false := beq_eq_false_iff_ne.2 o1
  replace o16 : (op == 16) = false := beq_eq_false_iff_ne.2 o16
  replace o26 : (op == 26) = false := beq_eq_false_iff_ne.2 o26
  replace o33 : (op == 33) = false := beq_eq_false_iff_ne.2 o33
  replace o36 : (op == 36) = false := beq_eq_false_iff_ne.2 o36
  replace o27 : (op == 27) = false := beq_eq_false_iff_ne.2 o27
  replace o32 : (op == 32) = false := beq_eq_false_iff_ne.2 o32
  replace o35 : (op == 35) = false := beq_eq_false_iff_ne.2 o35
  replace o63 : (op == 63) = false := beq_eq_false_iff_ne.2 o63
  replace o65 : (op == 65) = false := beq_eq_false_iff_ne.2 o65
  replace o34 : (op == 34) = false := beq_eq_false_iff_ne.2 o34
  replace o40 : (op == 40) = false := beq_eq_false_iff_ne.2 o40
  replace o64 : (op == 64) = false := beq_eq_false_iff_ne.2 o64
  replace o69 : (op == 69) = false := beq_eq_false_iff_ne.2 o69
  replace o54 : (op == 54) = false := beq_eq_false_iff_ne.2 o54
  by_cases c1 : 103 ≤ op ∧ op ≤ 105
  · have r := hid (plain_of (s := s) hq (hr.trans (if_pos c1)))
    replace hq := hid hq
    replace hr := hid hr
    go_enter Tryd.func44, Tryd.ntmps44
    go_wp2_with (first | (go_at_call 17; (with_reducible refine Calls.mono (within_any ..) ?_); rintro e wk ⟨rfl, rfl⟩) | (go_at_call 60; (with_reducible refine Calls.mono (iboth _ _ _ (by omega) (by omega) (by omega) (by omega)) ?_); rintro e wk ⟨rfl, hS9, st9⟩))
    go_ret
    exact mkPl r.out rfl inferInstance mkStepX
  · have r := hid (plain_of (s := s) hq (hr.trans (if_neg c1)))
    replace hq := hid hq
    replace hr := hid hr
    go_enter Tryd.func44, Tryd.ntmps44
    go_wp2_with (first | (go_at_call 17; (with_reducible refine Calls.mono (within_any ..) ?_); rintro e wk ⟨rfl, rfl⟩) | (go_at_call 60; (with_reducible refine Calls.mono (iboth _ _ _ (by omega) (by omega) (by omega) (by omega)) ?_); rintro e wk ⟨rfl, hS9, st9⟩))
    go_ret
    exact mkPl r.out rfl inferInstance mkStepX
end Go.Proofs.YtpaekgeopmifeaaDoor
