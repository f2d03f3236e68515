/- Contracts: impl's shorter: the rest. -/
import Derived.Test.YtoffaobiikdflaaGreatDoorPeepK
namespace Go.Proofs.YtoffaobiikdflaaGreatDoor
attribute [local go_sem ↓] Go.wp_at_zero Go.wp_at_succ
open Go.RowKit
open Rep (Is sz)

set_option maxHeartbeats 8000000 in
theorem ishort_f {F : List Nat} {v : Value} (l : List InsD) (w : World) (h65 : ¬ opAt l 0 = 65) (h32 : ¬ (opAt l 0 = 32 ∨ opAt l 0 = 35)) (h33 : ¬ opAt l 0 = 33) (hl : l.length ≤ 1048576) [h : Shows w F l [v]] [hZ : HasTz w] :
    Calls Tryz.prog 38 #[v] w fun e w' => ∃ u G, e = .returned (.tuple #[u, .int .i64 ((tryP l).2 : Nat)]) ∧ Known w' G (tryP l).1 [u] ∧ Step w w' := by
  have kk := h.known
  have kz := hZ.known
  obtain ⟨ar, cap, hv, _, hvl, hml, hin⟩ := inss_open h.is
  cases hv
  have hia : 0 < l.length → In64 (argAt l 0) := fun hn => by rw [argAt_in hn]; exact (hin _ (List.getElem_mem hn)).2.1
  have hca := hid (fun (b o : Nat) (k : Nat) (hk : k < l.length) (e : ar = some ⟨b, o, none⟩) => argAt_cell (w := w) (b := b) (o := o) (l := l) (n := l.length) (e ▸ hvl) (by omega) k hk)
  have hT : tryP l = tryQ (opAt l 0) (opAt l 1) (opAt l 2) (argAt l 0) (argAt l 1) := rfl
  have hlen0 := @opAt_lt l 0
  have hlen1 := @opAt_lt l 1
  have hvb : 0 < l.length → ∃ b o, ar = some ⟨b, o, none⟩ := fun hn => by obtain ⟨b, o, e, _⟩ := hvl.cells hn; exact ⟨b, o, e⟩
  clear h hZ hin hvl
  unfold maxLen at hml
  obtain ⟨o0, e0⟩ : ∃ o, opAt l 0 = o := ⟨_, rfl⟩
  obtain ⟨o1, e1⟩ : ∃ o, opAt l 1 = o := ⟨_, rfl⟩
  obtain ⟨o2, e2⟩ : ∃ o, opAt l 2 = o := ⟨_, rfl⟩
  obtain ⟨a0, f0⟩ : ∃ o, argAt l 0 = o := ⟨_, rfl⟩
  obtain ⟨a1, f1⟩ : ∃ o, argAt l 1 = o := ⟨_, rfl⟩
  rw [e0, e1, e2, f0, f1] at hT
  rw [f0] at hia
  rw [e0] at hlen0
  rw [e1] at hlen1
  replace hT := hid hT
  replace hlen0 := hid hlen0
  replace hlen1 := hid hlen1
  replace hvb := hid hvb
  replace hia := hid hia
  go_enter Tryz.func38, Tryz.ntmps38
  rw [e0] at h65 h32 h33
  have p0 := h65
  have p4 : ¬ o0 = 32 := fun h => h32 (.inl h)
  have p5 : ¬ o0 = 35 := fun h => h32 (.inr h)
  have p8 := h33
  clear h65 h32 h33
  by_cases p7 : o0 = 1
  · subst p7
    have hr := hid (hT.out.trans (tq_nop))
    clear hT
    go_wp2_with (first | (go_at_call 73; (with_reducible refine Calls.mono (iop (v := .slice ar l.length cap) l 0 0 _ _ rfl e0 (by go_simp)) ?_); rintro e wk ⟨rfl, st⟩) | (go_at_call 73; (with_reducible refine Calls.mono (iop (v := .slice ar l.length cap) l 1 1 _ _ rfl e1 (by go_simp)) ?_); rintro e wk ⟨rfl, st⟩) | (go_at_call 73; (with_reducible refine Calls.mono (iop (v := .slice ar l.length cap) l 2 2 _ _ rfl e2 (by go_simp)) ?_); rintro e wk ⟨rfl, st⟩) | (go_at_call 74; (with_reducible refine Calls.mono (itwo ..) ?_); rintro e wk ⟨rfl, st⟩) | (go_at_call 76; (with_reducible refine Calls.mono (ione ..) ?_); rintro e wk ⟨rfl, st⟩) | (go_at_call 75; (with_reducible refine Calls.mono (ibin _ _ _ _ (by assumption)) ?_); rintro e wk ⟨rfl, st⟩) | (go_at_call 77; (with_reducible refine Calls.mono (iun _ _ _ (by assumption)) ?_); rintro e wk ⟨rfl, st⟩))
    go_ret2
    exact try_leaf hr.out rfl (known_nil _) mkStep
  by_cases p9 : o0 = 69
  · subst p9
    by_cases p10 : o1 = 69
    · subst p10
      by_cases p11 : o2 = 69
      · subst p11
        have hr := hid (hT.out.trans (tq_eqz))
        have h3 : In3 ⟨69, 0, 0⟩ := in3_mk (by unfold In64; omega) (by unfold In64; omega) (by unfold In64; omega)
        replace h3 := hid h3
        clear hT
        go_wp2_with (first | (go_at_call 73; (with_reducible refine Calls.mono (iop (v := .slice ar l.length cap) l 0 0 _ _ rfl e0 (by go_simp)) ?_); rintro e wk ⟨rfl, st⟩) | (go_at_call 73; (with_reducible refine Calls.mono (iop (v := .slice ar l.length cap) l 1 1 _ _ rfl e1 (by go_simp)) ?_); rintro e wk ⟨rfl, st⟩) | (go_at_call 73; (with_reducible refine Calls.mono (iop (v := .slice ar l.length cap) l 2 2 _ _ rfl e2 (by go_simp)) ?_); rintro e wk ⟨rfl, st⟩) | (go_at_call 74; (with_reducible refine Calls.mono (itwo ..) ?_); rintro e wk ⟨rfl, st⟩) | (go_at_call 76; (with_reducible refine Calls.mono (ione ..) ?_); rintro e wk ⟨rfl, st⟩) | (go_at_call 75; (with_reducible refine Calls.mono (ibin _ _ _ _ (by assumption)) ?_); rintro e wk ⟨rfl, st⟩) | (go_at_call 77; (with_reducible refine Calls.mono (iun _ _ _ (by assumption)) ?_); rintro e wk ⟨rfl, st⟩))
        refine rg_begin0 (n := 20) (by kernel_rfl) rfl fun rg0 => ?_
        refine rg_read (i := 0) (a1 := _) rfl (by kernel_rfl) rfl (by simp) (by intro wq hwq; go_wp2; exact ⟨rfl, rfl⟩) mkStep ?_
        refine rg_eff (i := 1) rfl (by kernel_rfl) ?_
        simp only [List.getElem_toArray, List.getElem_cons_succ, List.getElem_cons_zero]
        go_wp2_with (first | (go_at_call 73; (with_reducible refine Calls.mono (iop (v := .slice ar l.length cap) l 0 0 _ _ rfl e0 (by go_simp)) ?_); rintro e wk ⟨rfl, st⟩) | (go_at_call 73; (with_reducible refine Calls.mono (iop (v := .slice ar l.length cap) l 1 1 _ _ rfl e1 (by go_simp)) ?_); rintro e wk ⟨rfl, st⟩) | (go_at_call 73; (with_reducible refine Calls.mono (iop (v := .slice ar l.length cap) l 2 2 _ _ rfl e2 (by go_simp)) ?_); rintro e wk ⟨rfl, st⟩) | (go_at_call 74; (with_reducible refine Calls.mono (itwo ..) ?_); rintro e wk ⟨rfl, st⟩) | (go_at_call 76; (with_reducible refine Calls.mono (ione ..) ?_); rintro e wk ⟨rfl, st⟩) | (go_at_call 75; (with_reducible refine Calls.mono (ibin _ _ _ _ (by assumption)) ?_); rintro e wk ⟨rfl, st⟩) | (go_at_call 77; (with_reducible refine Calls.mono (iun _ _ _ (by assumption)) ?_); rintro e wk ⟨rfl, st⟩))
        refine ⟨mkStep, ?_⟩
        refine rg_read (i := 2) (a1 := _) rfl (by kernel_rfl) rfl (by simp) (by intro wq hwq; go_wp2; exact ⟨rfl, rfl⟩) mkStep ?_
        refine rg_read (i := 3) (a1 := _) rfl (by kernel_rfl) rfl (by simp) (by intro wq hwq; go_wp2; exact ⟨rfl, rfl⟩) mkStep ?_
        refine rg_read (i := 4) (a1 := _) rfl (by kernel_rfl) rfl (by simp) (by intro wq hwq; go_wp2; exact ⟨rfl, rfl⟩) mkStep ?_
        refine rg_eff (i := 5) rfl (by kernel_rfl) ?_
        simp only [List.getElem_toArray, List.getElem_cons_succ, List.getElem_cons_zero]
        go_wp2_with (first | (go_at_call 73; (with_reducible refine Calls.mono (iop (v := .slice ar l.length cap) l 0 0 _ _ rfl e0 (by go_simp)) ?_); rintro e wk ⟨rfl, st⟩) | (go_at_call 73; (with_reducible refine Calls.mono (iop (v := .slice ar l.length cap) l 1 1 _ _ rfl e1 (by go_simp)) ?_); rintro e wk ⟨rfl, st⟩) | (go_at_call 73; (with_reducible refine Calls.mono (iop (v := .slice ar l.length cap) l 2 2 _ _ rfl e2 (by go_simp)) ?_); rintro e wk ⟨rfl, st⟩) | (go_at_call 74; (with_reducible refine Calls.mono (itwo ..) ?_); rintro e wk ⟨rfl, st⟩) | (go_at_call 76; (with_reducible refine Calls.mono (ione ..) ?_); rintro e wk ⟨rfl, st⟩) | (go_at_call 75; (with_reducible refine Calls.mono (ibin _ _ _ _ (by assumption)) ?_); rintro e wk ⟨rfl, st⟩) | (go_at_call 77; (with_reducible refine Calls.mono (iun _ _ _ (by assumption)) ?_); rintro e wk ⟨rfl, st⟩))
        refine ⟨mkStep, ?_⟩
        refine rg_read (i := 6) (a1 := _) rfl (by kernel_rfl) rfl (by simp) (by intro wq hwq; go_wp2; exact ⟨rfl, rfl⟩) mkStep ?_
        refine rg_read (i := 7) (a1 := _) rfl (by kernel_rfl) rfl (by simp) (by intro wq hwq; go_wp2; exact ⟨rfl, rfl⟩) mkStep ?_
        refine rg_read (i := 8) (a1 := _) rfl (by kernel_rfl) rfl (by simp) (by intro wq hwq; go_wp2; exact ⟨rfl, rfl⟩) mkStep ?_
        refine rg_read (i := 9) (a1 := _) rfl (by kernel_rfl) rfl (by simp) (by intro wq hwq; go_wp2; exact ⟨rfl, rfl⟩) mkStep ?_
        refine rg_read (i := 10) (a1 := _) rfl (by kernel_rfl) rfl (by simp) (by intro wq hwq; go_wp2; exact ⟨rfl, rfl⟩) mkStep ?_
        refine rg_read (i := 11) (a1 := _) rfl (by kernel_rfl) rfl (by simp) (by intro wq hwq; go_wp2; exact ⟨rfl, rfl⟩) mkStep ?_
        refine rg_read (i := 12) (a1 := _) rfl (by kernel_rfl) rfl (by simp) (by intro wq hwq; go_wp2; exact ⟨rfl, rfl⟩) mkStep ?_
        refine rg_read (i := 13) (a1 := _) rfl (by kernel_rfl) rfl (by simp) (by intro wq hwq; go_wp2; exact ⟨rfl, rfl⟩) mkStep ?_
        refine rg_read (i := 14) (a1 := _) rfl (by kernel_rfl) rfl (by simp) (by intro wq hwq; go_wp2; exact ⟨rfl, rfl⟩) mkStep ?_
        refine rg_read (i := 15) (a1 := _) rfl (by kernel_rfl) rfl (by simp) (by intro wq hwq; go_wp2; exact ⟨rfl, rfl⟩) mkStep ?_
        refine rg_read (i := 16) (a1 := _) rfl (by kernel_rfl) rfl (by simp) (by intro wq hwq; go_wp2; exact ⟨rfl, rfl⟩) mkStep ?_
        refine rg_read (i := 17) (a1 := _) rfl (by kernel_rfl) rfl (by simp) (by intro wq hwq; go_wp2; exact ⟨rfl, rfl⟩) mkStep ?_
        refine rg_read (i := 18) (a1 := _) rfl (by kernel_rfl) rfl (by simp) (by intro wq hwq; go_wp2; exact ⟨rfl, rfl⟩) mkStep ?_
        refine rg_read (i := 19) (a1 := _) rfl (by kernel_rfl) rfl (by simp) (by intro wq hwq; go_wp2; exact ⟨rfl, rfl⟩) mkStep ?_
        refine rg_done (by kernel_rfl) ?_
        go_wp2_with (first | (go_at_call 73; (with_reducible refine Calls.mono (iop (v := .slice ar l.length cap) l 0 0 _ _ rfl e0 (by go_simp)) ?_); rintro e wk ⟨rfl, st⟩) | (go_at_call 73; (with_reducible refine Calls.mono (iop (v := .slice ar l.length cap) l 1 1 _ _ rfl e1 (by go_simp)) ?_); rintro e wk ⟨rfl, st⟩) | (go_at_call 73; (with_reducible refine Calls.mono (iop (v := .slice ar l.length cap) l 2 2 _ _ rfl e2 (by go_simp)) ?_); rintro e wk ⟨rfl, st⟩) | (go_at_call 74; (with_reducible refine Calls.mono (itwo ..) ?_); rintro e wk ⟨rfl, st⟩) | (go_at_call 76; (with_reducible refine Calls.mono (ione ..) ?_); rintro e wk ⟨rfl, st⟩) | (go_at_call 75; (with_reducible refine Calls.mono (ibin _ _ _ _ (by assumption)) ?_); rintro e wk ⟨rfl, st⟩) | (go_at_call 77; (with_reducible refine Calls.mono (iun _ _ _ (by assumption)) ?_); rintro e wk ⟨rfl, st⟩))
        go_ret2
        exact try_leaf hr.out rfl (known_oneAt (by simp) h3.out) mkStep
      ·
        have hr := hid (hT.out.trans (tq_eqz_no (fun h => p11 h.2)))
        clear hT
        go_wp2_with (first | (go_at_call 73; (with_reducible refine Calls.mono (iop (v := .slice ar l.length cap) l 0 0 _ _ rfl e0 (by go_simp)) ?_); rintro e wk ⟨rfl, st⟩) | (go_at_call 73; (with_reducible refine Calls.mono (iop (v := .slice ar l.length cap) l 1 1 _ _ rfl e1 (by go_simp)) ?_); rintro e wk ⟨rfl, st⟩) | (go_at_call 73; (with_reducible refine Calls.mono (iop (v := .slice ar l.length cap) l 2 2 _ _ rfl e2 (by go_simp)) ?_); rintro e wk ⟨rfl, st⟩) | (go_at_call 74; (with_reducible refine Calls.mono (itwo ..) ?_); rintro e wk ⟨rfl, st⟩) | (go_at_call 76; (with_reducible refine Calls.mono (ione ..) ?_); rintro e wk ⟨rfl, st⟩) | (go_at_call 75; (with_reducible refine Calls.mono (ibin _ _ _ _ (by assumption)) ?_); rintro e wk ⟨rfl, st⟩) | (go_at_call 77; (with_reducible refine Calls.mono (iun _ _ _ (by assumption)) ?_); rintro e wk ⟨rfl, st⟩))
        refine rg_begin0 (n := 20) (by kernel_rfl) rfl fun rg0 => ?_
        refine rg_read (i := 0) (a1 := _) rfl (by kernel_rfl) rfl (by simp) (by intro wq hwq; go_wp2; exact ⟨rfl, rfl⟩) mkStep ?_
        refine rg_eff (i := 1) rfl (by kernel_rfl) ?_
        simp only [List.getElem_toArray, List.getElem_cons_succ, List.getElem_cons_zero]
        go_wp2_with (first | (go_at_call 73; (with_reducible refine Calls.mono (iop (v := .slice ar l.length cap) l 0 0 _ _ rfl e0 (by go_simp)) ?_); rintro e wk ⟨rfl, st⟩) | (go_at_call 73; (with_reducible refine Calls.mono (iop (v := .slice ar l.length cap) l 1 1 _ _ rfl e1 (by go_simp)) ?_); rintro e wk ⟨rfl, st⟩) | (go_at_call 73; (with_reducible refine Calls.mono (iop (v := .slice ar l.length cap) l 2 2 _ _ rfl e2 (by go_simp)) ?_); rintro e wk ⟨rfl, st⟩) | (go_at_call 74; (with_reducible refine Calls.mono (itwo ..) ?_); rintro e wk ⟨rfl, st⟩) | (go_at_call 76; (with_reducible refine Calls.mono (ione ..) ?_); rintro e wk ⟨rfl, st⟩) | (go_at_call 75; (with_reducible refine Calls.mono (ibin _ _ _ _ (by assumption)) ?_); rintro e wk ⟨rfl, st⟩) | (go_at_call 77; (with_reducible refine Calls.mono (iun _ _ _ (by assumption)) ?_); rintro e wk ⟨rfl, st⟩))
        refine ⟨mkStep, ?_⟩
        refine rg_read (i := 2) (a1 := _) rfl (by kernel_rfl) rfl (by simp) (by intro wq hwq; go_wp2; exact ⟨rfl, rfl⟩) mkStep ?_
        refine rg_read (i := 3) (a1 := _) rfl (by kernel_rfl) rfl (by simp) (by intro wq hwq; go_wp2; exact ⟨rfl, rfl⟩) mkStep ?_
        refine rg_read (i := 4) (a1 := _) rfl (by kernel_rfl) rfl (by simp) (by intro wq hwq; go_wp2; exact ⟨rfl, rfl⟩) mkStep ?_
        refine rg_eff (i := 5) rfl (by kernel_rfl) ?_
        simp only [List.getElem_toArray, List.getElem_cons_succ, List.getElem_cons_zero]
        go_wp2_with (first | (go_at_call 73; (with_reducible refine Calls.mono (iop (v := .slice ar l.length cap) l 0 0 _ _ rfl e0 (by go_simp)) ?_); rintro e wk ⟨rfl, st⟩) | (go_at_call 73; (with_reducible refine Calls.mono (iop (v := .slice ar l.length cap) l 1 1 _ _ rfl e1 (by go_simp)) ?_); rintro e wk ⟨rfl, st⟩) | (go_at_call 73; (with_reducible refine Calls.mono (iop (v := .slice ar l.length cap) l 2 2 _ _ rfl e2 (by go_simp)) ?_); rintro e wk ⟨rfl, st⟩) | (go_at_call 74; (with_reducible refine Calls.mono (itwo ..) ?_); rintro e wk ⟨rfl, st⟩) | (go_at_call 76; (with_reducible refine Calls.mono (ione ..) ?_); rintro e wk ⟨rfl, st⟩) | (go_at_call 75; (with_reducible refine Calls.mono (ibin _ _ _ _ (by assumption)) ?_); rintro e wk ⟨rfl, st⟩) | (go_at_call 77; (with_reducible refine Calls.mono (iun _ _ _ (by assumption)) ?_); rintro e wk ⟨rfl, st⟩))
        refine ⟨mkStep, ?_⟩
        refine rg_read (i := 6) (a1 := _) rfl (by kernel_rfl) rfl (by simp) (by intro wq hwq; go_wp2; exact ⟨rfl, rfl⟩) mkStep ?_
        refine rg_read (i := 7) (a1 := _) rfl (by kernel_rfl) rfl (by simp) (by intro wq hwq; go_wp2; exact ⟨rfl, rfl⟩) mkStep ?_
        refine rg_read (i := 8) (a1 := _) rfl (by kernel_rfl) rfl (by simp) (by intro wq hwq; go_wp2; exact ⟨rfl, rfl⟩) mkStep ?_
        refine rg_read (i := 9) (a1 := _) rfl (by kernel_rfl) rfl (by simp) (by intro wq hwq; go_wp2; exact ⟨rfl, rfl⟩) mkStep ?_
        refine rg_read (i := 10) (a1 := _) rfl (by kernel_rfl) rfl (by simp) (by intro wq hwq; go_wp2; exact ⟨rfl, rfl⟩) mkStep ?_
        refine rg_read (i := 11) (a1 := _) rfl (by kernel_rfl) rfl (by simp) (by intro wq hwq; go_wp2; exact ⟨rfl, rfl⟩) mkStep ?_
        refine rg_read (i := 12) (a1 := _) rfl (by kernel_rfl) rfl (by simp) (by intro wq hwq; go_wp2; exact ⟨rfl, rfl⟩) mkStep ?_
        refine rg_read (i := 13) (a1 := _) rfl (by kernel_rfl) rfl (by simp) (by intro wq hwq; go_wp2; exact ⟨rfl, rfl⟩) mkStep ?_
        refine rg_read (i := 14) (a1 := _) rfl (by kernel_rfl) rfl (by simp) (by intro wq hwq; go_wp2; exact ⟨rfl, rfl⟩) mkStep ?_
        refine rg_read (i := 15) (a1 := _) rfl (by kernel_rfl) rfl (by simp) (by intro wq hwq; go_wp2; exact ⟨rfl, rfl⟩) mkStep ?_
        refine rg_read (i := 16) (a1 := _) rfl (by kernel_rfl) rfl (by simp) (by intro wq hwq; go_wp2; exact ⟨rfl, rfl⟩) mkStep ?_
        refine rg_read (i := 17) (a1 := _) rfl (by kernel_rfl) rfl (by simp) (by intro wq hwq; go_wp2; exact ⟨rfl, rfl⟩) mkStep ?_
        refine rg_read (i := 18) (a1 := _) rfl (by kernel_rfl) rfl (by simp) (by intro wq hwq; go_wp2; exact ⟨rfl, rfl⟩) mkStep ?_
        refine rg_read (i := 19) (a1 := _) rfl (by kernel_rfl) rfl (by simp) (by intro wq hwq; go_wp2; exact ⟨rfl, rfl⟩) mkStep ?_
        refine rg_done (by kernel_rfl) ?_
        go_wp2_with (first | (go_at_call 73; (with_reducible refine Calls.mono (iop (v := .slice ar l.length cap) l 0 0 _ _ rfl e0 (by go_simp)) ?_); rintro e wk ⟨rfl, st⟩) | (go_at_call 73; (with_reducible refine Calls.mono (iop (v := .slice ar l.length cap) l 1 1 _ _ rfl e1 (by go_simp)) ?_); rintro e wk ⟨rfl, st⟩) | (go_at_call 73; (with_reducible refine Calls.mono (iop (v := .slice ar l.length cap) l 2 2 _ _ rfl e2 (by go_simp)) ?_); rintro e wk ⟨rfl, st⟩) | (go_at_call 74; (with_reducible refine Calls.mono (itwo ..) ?_); rintro e wk ⟨rfl, st⟩) | (go_at_call 76; (with_reducible refine Calls.mono (ione ..) ?_); rintro e wk ⟨rfl, st⟩) | (go_at_call 75; (with_reducible refine Calls.mono (ibin _ _ _ _ (by assumption)) ?_); rintro e wk ⟨rfl, st⟩) | (go_at_call 77; (with_reducible refine Calls.mono (iun _ _ _ (by assumption)) ?_); rintro e wk ⟨rfl, st⟩))
        go_ret2
        exact try_leaf hr.out rfl (known_nil _) mkStep
    ·
      have hr := hid (hT.out.trans (tq_eqz_no (fun h => p10 h.1)))
      clear hT
      go_wp2_with (first | (go_at_call 73; (with_reducible refine Calls.mono (iop (v := .slice ar l.length cap) l 0 0 _ _ rfl e0 (by go_simp)) ?_); rintro e wk ⟨rfl, st⟩) | (go_at_call 73; (with_reducible refine Calls.mono (iop (v := .slice ar l.length cap) l 1 1 _ _ rfl e1 (by go_simp)) ?_); rintro e wk ⟨rfl, st⟩) | (go_at_call 73; (with_reducible refine Calls.mono (iop (v := .slice ar l.length cap) l 2 2 _ _ rfl e2 (by go_simp)) ?_); rintro e wk ⟨rfl, st⟩) | (go_at_call 74; (with_reducible refine Calls.mono (itwo ..) ?_); rintro e wk ⟨rfl, st⟩) | (go_at_call 76; (with_reducible refine Calls.mono (ione ..) ?_); rintro e wk ⟨rfl, st⟩) | (go_at_call 75; (with_reducible refine Calls.mono (ibin _ _ _ _ (by assumption)) ?_); rintro e wk ⟨rfl, st⟩) | (go_at_call 77; (with_reducible refine Calls.mono (iun _ _ _ (by assumption)) ?_); rintro e wk ⟨rfl, st⟩))
      refine rg_begin0 (n := 20) (by kernel_rfl) rfl fun rg0 => ?_
      refine rg_read (i := 0) (a1 := _) rfl (by kernel_rfl) rfl (by simp) (by intro wq hwq; go_wp2; exact ⟨rfl, rfl⟩) mkStep ?_
      refine rg_eff (i := 1) rfl (by kernel_rfl) ?_
      simp only [List.getElem_toArray, List.getElem_cons_succ, List.getElem_cons_zero]
      go_wp2_with (first | (go_at_call 73; (with_reducible refine Calls.mono (iop (v := .slice ar l.length cap) l 0 0 _ _ rfl e0 (by go_simp)) ?_); rintro e wk ⟨rfl, st⟩) | (go_at_call 73; (with_reducible refine Calls.mono (iop (v := .slice ar l.length cap) l 1 1 _ _ rfl e1 (by go_simp)) ?_); rintro e wk ⟨rfl, st⟩) | (go_at_call 73; (with_reducible refine Calls.mono (iop (v := .slice ar l.length cap) l 2 2 _ _ rfl e2 (by go_simp)) ?_); rintro e wk ⟨rfl, st⟩) | (go_at_call 74; (with_reducible refine Calls.mono (itwo ..) ?_); rintro e wk ⟨rfl, st⟩) | (go_at_call 76; (with_reducible refine Calls.mono (ione ..) ?_); rintro e wk ⟨rfl, st⟩) | (go_at_call 75; (with_reducible refine Calls.mono (ibin _ _ _ _ (by assumption)) ?_); rintro e wk ⟨rfl, st⟩) | (go_at_call 77; (with_reducible refine Calls.mono (iun _ _ _ (by assumption)) ?_); rintro e wk ⟨rfl, st⟩))
      refine ⟨mkStep, ?_⟩
      refine rg_read (i := 2) (a1 := _) rfl (by kernel_rfl) rfl (by simp) (by intro wq hwq; go_wp2; exact ⟨rfl, rfl⟩) mkStep ?_
      refine rg_read (i := 3) (a1 := _) rfl (by kernel_rfl) rfl (by simp) (by intro wq hwq; go_wp2; exact ⟨rfl, rfl⟩) mkStep ?_
      refine rg_read (i := 4) (a1 := _) rfl (by kernel_rfl) rfl (by simp) (by intro wq hwq; go_wp2; exact ⟨rfl, rfl⟩) mkStep ?_
      refine rg_eff (i := 5) rfl (by kernel_rfl) ?_
      simp only [List.getElem_toArray, List.getElem_cons_succ, List.getElem_cons_zero]
      go_wp2_with (first | (go_at_call 73; (with_reducible refine Calls.mono (iop (v := .slice ar l.length cap) l 0 0 _ _ rfl e0 (by go_simp)) ?_); rintro e wk ⟨rfl, st⟩) | (go_at_call 73; (with_reducible refine Calls.mono (iop (v := .slice ar l.length cap) l 1 1 _ _ rfl e1 (by go_simp)) ?_); rintro e wk ⟨rfl, st⟩) | (go_at_call 73; (with_reducible refine Calls.mono (iop (v := .slice ar l.length cap) l 2 2 _ _ rfl e2 (by go_simp)) ?_); rintro e wk ⟨rfl, st⟩) | (go_at_call 74; (with_reducible refine Calls.mono (itwo ..) ?_); rintro e wk ⟨rfl, st⟩) | (go_at_call 76; (with_reducible refine Calls.mono (ione ..) ?_); rintro e wk ⟨rfl, st⟩) | (go_at_call 75; (with_reducible refine Calls.mono (ibin _ _ _ _ (by assumption)) ?_); rintro e wk ⟨rfl, st⟩) | (go_at_call 77; (with_reducible refine Calls.mono (iun _ _ _ (by assumption)) ?_); rintro e wk ⟨rfl, st⟩))
      refine ⟨mkStep, ?_⟩
      refine rg_read (i := 6) (a1 := _) rfl (by kernel_rfl) rfl (by simp) (by intro wq hwq; go_wp2; exact ⟨rfl, rfl⟩) mkStep ?_
      refine rg_read (i := 7) (a1 := _) rfl (by kernel_rfl) rfl (by simp) (by intro wq hwq; go_wp2; exact ⟨rfl, rfl⟩) mkStep ?_
      refine rg_read (i := 8) (a1 := _) rfl (by kernel_rfl) rfl (by simp) (by intro wq hwq; go_wp2; exact ⟨rfl, rfl⟩) mkStep ?_
      refine rg_read (i := 9) (a1 := _) rfl (by kernel_rfl) rfl (by simp) (by intro wq hwq; go_wp2; exact ⟨rfl, rfl⟩) mkStep ?_
      refine rg_read (i := 10) (a1 := _) rfl (by kernel_rfl) rfl (by simp) (by intro wq hwq; go_wp2; exact ⟨rfl, rfl⟩) mkStep ?_
      refine rg_read (i := 11) (a1 := _) rfl (by kernel_rfl) rfl (by simp) (by intro wq hwq; go_wp2; exact ⟨rfl, rfl⟩) mkStep ?_
      refine rg_read (i := 12) (a1 := _) rfl (by kernel_rfl) rfl (by simp) (by intro wq hwq; go_wp2; exact ⟨rfl, rfl⟩) mkStep ?_
      refine rg_read (i := 13) (a1 := _) rfl (by kernel_rfl) rfl (by simp) (by intro wq hwq; go_wp2; exact ⟨rfl, rfl⟩) mkStep ?_
      refine rg_read (i := 14) (a1 := _) rfl (by kernel_rfl) rfl (by simp) (by intro wq hwq; go_wp2; exact ⟨rfl, rfl⟩) mkStep ?_
      refine rg_read (i := 15) (a1 := _) rfl (by kernel_rfl) rfl (by simp) (by intro wq hwq; go_wp2; exact ⟨rfl, rfl⟩) mkStep ?_
      refine rg_read (i := 16) (a1 := _) rfl (by kernel_rfl) rfl (by simp) (by intro wq hwq; go_wp2; exact ⟨rfl, rfl⟩) mkStep ?_
      refine rg_read (i := 17) (a1 := _) rfl (by kernel_rfl) rfl (by simp) (by intro wq hwq; go_wp2; exact ⟨rfl, rfl⟩) mkStep ?_
      refine rg_read (i := 18) (a1 := _) rfl (by kernel_rfl) rfl (by simp) (by intro wq hwq; go_wp2; exact ⟨rfl, rfl⟩) mkStep ?_
      refine rg_read (i := 19) (a1 := _) rfl (by kernel_rfl) rfl (by simp) (by intro wq hwq; go_wp2; exact ⟨rfl, rfl⟩) mkStep ?_
      refine rg_done (by kernel_rfl) ?_
      go_wp2_with (first | (go_at_call 73; (with_reducible refine Calls.mono (iop (v := .slice ar l.length cap) l 0 0 _ _ rfl e0 (by go_simp)) ?_); rintro e wk ⟨rfl, st⟩) | (go_at_call 73; (with_reducible refine Calls.mono (iop (v := .slice ar l.length cap) l 1 1 _ _ rfl e1 (by go_simp)) ?_); rintro e wk ⟨rfl, st⟩) | (go_at_call 73; (with_reducible refine Calls.mono (iop (v := .slice ar l.length cap) l 2 2 _ _ rfl e2 (by go_simp)) ?_); rintro e wk ⟨rfl, st⟩) | (go_at_call 74; (with_reducible refine Calls.mono (itwo ..) ?_); rintro e wk ⟨rfl, st⟩) | (go_at_call 76; (with_reducible refine Calls.mono (ione ..) ?_); rintro e wk ⟨rfl, st⟩) | (go_at_call 75; (with_reducible refine Calls.mono (ibin _ _ _ _ (by assumption)) ?_); rintro e wk ⟨rfl, st⟩) | (go_at_call 77; (with_reducible refine Calls.mono (iun _ _ _ (by assumption)) ?_); rintro e wk ⟨rfl, st⟩))
      go_ret2
      exact try_leaf hr.out rfl (known_nil _) mkStep
  have hr := hid (hT.out.trans (tq_no p0 p4 p5 p7 p8 p9))
  clear hT
  go_wp2_with (first | (go_at_call 73; (with_reducible refine Calls.mono (iop (v := .slice ar l.length cap) l 0 0 _ _ rfl e0 (by go_simp)) ?_); rintro e wk ⟨rfl, st⟩) | (go_at_call 73; (with_reducible refine Calls.mono (iop (v := .slice ar l.length cap) l 1 1 _ _ rfl e1 (by go_simp)) ?_); rintro e wk ⟨rfl, st⟩) | (go_at_call 73; (with_reducible refine Calls.mono (iop (v := .slice ar l.length cap) l 2 2 _ _ rfl e2 (by go_simp)) ?_); rintro e wk ⟨rfl, st⟩) | (go_at_call 74; (with_reducible refine Calls.mono (itwo ..) ?_); rintro e wk ⟨rfl, st⟩) | (go_at_call 76; (with_reducible refine Calls.mono (ione ..) ?_); rintro e wk ⟨rfl, st⟩) | (go_at_call 75; (with_reducible refine Calls.mono (ibin _ _ _ _ (by assumption)) ?_); rintro e wk ⟨rfl, st⟩) | (go_at_call 77; (with_reducible refine Calls.mono (iun _ _ _ (by assumption)) ?_); rintro e wk ⟨rfl, st⟩))
  refine rg_begin0 (n := 20) (by kernel_rfl) rfl fun rg0 => ?_
  refine rg_read (i := 0) (a1 := _) rfl (by kernel_rfl) rfl (by simp) (by intro wq hwq; go_wp2; exact ⟨rfl, rfl⟩) mkStep ?_
  refine rg_eff (i := 1) rfl (by kernel_rfl) ?_
  simp only [List.getElem_toArray, List.getElem_cons_succ, List.getElem_cons_zero]
  go_wp2_with (first | (go_at_call 73; (with_reducible refine Calls.mono (iop (v := .slice ar l.length cap) l 0 0 _ _ rfl e0 (by go_simp)) ?_); rintro e wk ⟨rfl, st⟩) | (go_at_call 73; (with_reducible refine Calls.mono (iop (v := .slice ar l.length cap) l 1 1 _ _ rfl e1 (by go_simp)) ?_); rintro e wk ⟨rfl, st⟩) | (go_at_call 73; (with_reducible refine Calls.mono (iop (v := .slice ar l.length cap) l 2 2 _ _ rfl e2 (by go_simp)) ?_); rintro e wk ⟨rfl, st⟩) | (go_at_call 74; (with_reducible refine Calls.mono (itwo ..) ?_); rintro e wk ⟨rfl, st⟩) | (go_at_call 76; (with_reducible refine Calls.mono (ione ..) ?_); rintro e wk ⟨rfl, st⟩) | (go_at_call 75; (with_reducible refine Calls.mono (ibin _ _ _ _ (by assumption)) ?_); rintro e wk ⟨rfl, st⟩) | (go_at_call 77; (with_reducible refine Calls.mono (iun _ _ _ (by assumption)) ?_); rintro e wk ⟨rfl, st⟩))
  refine ⟨mkStep, ?_⟩
  refine rg_read (i := 2) (a1 := _) rfl (by kernel_rfl) rfl (by simp) (by intro wq hwq; go_wp2; exact ⟨rfl, rfl⟩) mkStep ?_
  refine rg_read (i := 3) (a1 := _) rfl (by kernel_rfl) rfl (by simp) (by intro wq hwq; go_wp2; exact ⟨rfl, rfl⟩) mkStep ?_
  refine rg_read (i := 4) (a1 := _) rfl (by kernel_rfl) rfl (by simp) (by intro wq hwq; go_wp2; exact ⟨rfl, rfl⟩) mkStep ?_
  refine rg_eff (i := 5) rfl (by kernel_rfl) ?_
  simp only [List.getElem_toArray, List.getElem_cons_succ, List.getElem_cons_zero]
  go_wp2_with (first | (go_at_call 73; (with_reducible refine Calls.mono (iop (v := .slice ar l.length cap) l 0 0 _ _ rfl e0 (by go_simp)) ?_); rintro e wk ⟨rfl, st⟩) | (go_at_call 73; (with_reducible refine Calls.mono (iop (v := .slice ar l.length cap) l 1 1 _ _ rfl e1 (by go_simp)) ?_); rintro e wk ⟨rfl, st⟩) | (go_at_call 73; (with_reducible refine Calls.mono (iop (v := .slice ar l.length cap) l 2 2 _ _ rfl e2 (by go_simp)) ?_); rintro e wk ⟨rfl, st⟩) | (go_at_call 74; (with_reducible refine Calls.mono (itwo ..) ?_); rintro e wk ⟨rfl, st⟩) | (go_at_call 76; (with_reducible refine Calls.mono (ione ..) ?_); rintro e wk ⟨rfl, st⟩) | (go_at_call 75; (with_reducible refine Calls.mono (ibin _ _ _ _ (by assumption)) ?_); rintro e wk ⟨rfl, st⟩) | (go_at_call 77; (with_reducible refine Calls.mono (iun _ _ _ (by assumption)) ?_); rintro e wk ⟨rfl, st⟩))
  refine ⟨mkStep, ?_⟩
  refine rg_read (i := 6) (a1 := _) rfl (by kernel_rfl) rfl (by simp) (by intro wq hwq; go_wp2; exact ⟨rfl, rfl⟩) mkStep ?_
  refine rg_read (i := 7) (a1 := _) rfl (by kernel_rfl) rfl (by simp) (by intro wq hwq; go_wp2; exact ⟨rfl, rfl⟩) mkStep ?_
  refine rg_read (i := 8) (a1 := _) rfl (by kernel_rfl) rfl (by simp) (by intro wq hwq; go_wp2; exact ⟨rfl, rfl⟩) mkStep ?_
  refine rg_read (i := 9) (a1 := _) rfl (by kernel_rfl) rfl (by simp) (by intro wq hwq; go_wp2; exact ⟨rfl, rfl⟩) mkStep ?_
  refine rg_read (i := 10) (a1 := _) rfl (by kernel_rfl) rfl (by simp) (by intro wq hwq; go_wp2; exact ⟨rfl, rfl⟩) mkStep ?_
  refine rg_read (i := 11) (a1 := _) rfl (by kernel_rfl) rfl (by simp) (by intro wq hwq; go_wp2; exact ⟨rfl, rfl⟩) mkStep ?_
  refine rg_read (i := 12) (a1 := _) rfl (by kernel_rfl) rfl (by simp) (by intro wq hwq; go_wp2; exact ⟨rfl, rfl⟩) mkStep ?_
  refine rg_read (i := 13) (a1 := _) rfl (by kernel_rfl) rfl (by simp) (by intro wq hwq; go_wp2; exact ⟨rfl, rfl⟩) mkStep ?_
  refine rg_read (i := 14) (a1 := _) rfl (by kernel_rfl) rfl (by simp) (by intro wq hwq; go_wp2; exact ⟨rfl, rfl⟩) mkStep ?_
  refine rg_read (i := 15) (a1 := _) rfl (by kernel_rfl) rfl (by simp) (by intro wq hwq; go_wp2; exact ⟨rfl, rfl⟩) mkStep ?_
  refine rg_read (i := 16) (a1 := _) rfl (by kernel_rfl) rfl (by simp) (by intro wq hwq; go_wp2; exact ⟨rfl, rfl⟩) mkStep ?_
  refine rg_read (i := 17) (a1 := _) rfl (by kernel_rfl) rfl (by simp) (by intro wq hwq; go_wp2; exact ⟨rfl, rfl⟩) mkStep ?_
  refine rg_read (i := 18) (a1 := _) rfl (by kernel_rfl) rfl (by simp) (by intro wq hwq; go_wp2; exact ⟨rfl, rfl⟩) mkStep ?_
  refine rg_read (i := 19) (a1 := _) rfl (by kernel_rfl) rfl (by simp) (by intro wq hwq; go_wp2; exact ⟨rfl, rfl⟩) mkStep ?_
  refine rg_done (by kernel_rfl) ?_
  go_wp2_with (first | (go_at_call 73; (with_reducible refine Calls.mono (iop (v := .slice ar l.length cap) l 0 0 _ _ rfl e0 (by go_simp)) ?_); rintro e wk ⟨rfl, st⟩) | (go_at_call 73; (with_reducible refine Calls.mono (iop (v := .slice ar l.length cap) l 1 1 _ _ rfl e1 (by go_simp)) ?_); rintro e wk ⟨rfl, st⟩) | (go_at_call 73; (with_reducible refine Calls.mono (iop (v := .slice ar l.length cap) l 2 2 _ _ rfl e2 (by go_simp)) ?_); rintro e wk ⟨rfl, st⟩) | (go_at_call 74; (with_reducible refine Calls.mono (itwo ..) ?_); rintro e wk ⟨rfl, st⟩) | (go_at_call 76; (with_reducible refine Calls.mono (ione ..) ?_); rintro e wk ⟨rfl, st⟩) | (go_at_call 75; (with_reducible refine Calls.mono (ibin _ _ _ _ (by assumption)) ?_); rintro e wk ⟨rfl, st⟩) | (go_at_call 77; (with_reducible refine Calls.mono (iun _ _ _ (by assumption)) ?_); rintro e wk ⟨rfl, st⟩))
  go_ret2
  exact try_leaf hr.out rfl (known_nil _) mkStep
end Go.Proofs.YtoffaobiikdflaaGreatDoor
