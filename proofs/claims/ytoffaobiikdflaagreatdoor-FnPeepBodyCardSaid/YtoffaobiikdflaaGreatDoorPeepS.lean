/- Contracts: spec's shorter bodies. -/
import Derived.Test.YtoffaobiikdflaaGreatDoorWorkS
namespace Go.Proofs.YtoffaobiikdflaaGreatDoor
attribute [local go_sem ↓] Go.wp_at_zero Go.wp_at_succ
open Go.RowKit
open Rep (Is sz)

def atI (l : List InsD) (k : Nat) : InsD := l[k]?.getD ⟨-1, 0, 0⟩
theorem opAt_eq (l : List InsD) (k : Nat) : opAt l k = (atI l k).op := by unfold opAt atI; cases l[k]? <;> rfl
theorem argAt_eq (l : List InsD) (k : Nat) : argAt l k = (atI l k).a := by unfold argAt atI; cases l[k]? <;> rfl
theorem atI_in {l : List InsD} {k : Nat} (h : k < l.length) : atI l k = l[k] := by unfold atI; rw [List.getElem?_eq_getElem h]; rfl
theorem atI_out {l : List InsD} {k : Nat} (h : ¬ k < l.length) : atI l k = ⟨-1, 0, 0⟩ := by unfold atI; rw [List.getElem?_eq_none (by omega)]; rfl
theorem try_at (l : List InsD) (k : Nat) : tryP (l.drop k) = tryQ (atI l k).op (atI l (k + 1)).op (atI l (k + 2)).op (atI l k).a (atI l (k + 1)).a := by
  unfold tryP
  rw [opAt_drop, opAt_drop, opAt_drop, argAt_drop, argAt_drop, opAt_eq, opAt_eq, opAt_eq, argAt_eq, argAt_eq]
  rfl

theorem sis2 (op : Int) (w : World) : Calls Tryz.prog 83 #[.int .i64 op] w fun e w' => e = .returned (.bool (isTwo op)) ∧ Step w w' := by
  have hr := hid (show isTwo op = ((decide (70 ≤ op) && decide (op ≤ 79)) || (decide (106 ≤ op) && decide (op ≤ 120))) by unfold isTwo; rw [Bool.eq_iff_iff]; simp)
  go_enter Tryz.func83, Tryz.ntmps83
  go_wp2
  all_goals (go_ret; refine ⟨ret_bool ?_, mkStep⟩; rw [hr.out]; (first | (simp; done) | (simp; omega)))
theorem sis1 (op : Int) (w : World) : Calls Tryz.prog 85 #[.int .i64 op] w fun e w' => e = .returned (.bool (isOne op)) ∧ Step w w' := by
  have hr := hid (isOne_or op)
  go_enter Tryz.func85, Tryz.ntmps85
  go_wp2
  all_goals (go_ret; refine ⟨ret_bool ?_, mkStep⟩; rw [hr.out]; (first | (simp; done) | (simp; omega)))

theorem sat {F : List Nat} {v : Value} (l : List InsD) (k : Nat) (i : Int) (w : World) (hi : i = k) [h : Shows w F l [v]] : Calls Tryz.prog 82 #[v, .int .i64 i] w fun e w' => e = .returned (.agg #[.int .i64 (atI l k).op, .int .i64 (atI l k).a, .int .i64 (atI l k).b]) ∧ Step w w' := by
  subst hi
  obtain ⟨a, cap, cl, FF, hv, _, hvw, hr, hml⟩ := list_open h.is
  cases hv
  clear h
  unfold maxLen at hml
  by_cases hlt : k < l.length
  · have he := hid (atI_in hlt)
    obtain ⟨b, o, G, cs, rfl, hG, hI, hc, ho⟩ := hvw.row hr rfl (by decide) k hlt
    have hI0 := hI
    obtain ⟨rfl, rfl, i0, i1, i2⟩ := ins_open hI0
    have ke : Known w _ l[k] _ := ⟨hI⟩
    have c0 := (hc 0 _ rfl).1
    replace c0 : w.cell? ⟨b, o + k * 3, none⟩ = _ := c0
    have c1 := (hc 1 _ rfl).1
    replace c1 : w.cell? ⟨b, o + k * 3 + 1, none⟩ = _ := c1
    have c2 := (hc 2 _ rfl).1
    replace c2 : w.cell? ⟨b, o + k * 3 + 2, none⟩ = _ := c2
    clear hc
    go_enter Tryz.func82, Tryz.ntmps82
    go_wp2
    refine bodyPost_ret (v := .agg #[.int .i64 (atI l k).op, .int .i64 (atI l k).a, .int .i64 (atI l k).b]) (by rw [he.out]; simp [results, Tryz.results82, go_sem]) rfl ?_
    exact ⟨rfl, mkStep⟩
  · have he := hid (atI_out hlt)
    go_enter Tryz.func82, Tryz.ntmps82
    go_wp2
    refine bodyPost_ret (v := .agg #[.int .i64 (atI l k).op, .int .i64 (atI l k).a, .int .i64 (atI l k).b]) (by rw [he.out]; simp [results, Tryz.results82, go_sem]) rfl ?_
    exact ⟨rfl, mkStep⟩
/-! ### l15Try -/

theorem in64_32 {n : Int} (h : I32 n) : In64 n := by unfold I32 at h; unfold In64; omega
theorem known_nil (w : World) : Known w [] ([] : List InsD) [.slice none 0 0] :=
  ⟨by have h := inss_shut (w := w) (l := []) (a := none) (cap := 0) ⟨rfl, fun h => absurd h (by decide)⟩ ⟨by decide, by decide⟩ (by simp); simpa using h⟩
theorem in3_mk {o a b : Int} (h1 : In64 o) (h2 : In64 a) (h3 : In64 b) : In3 ⟨o, a, b⟩ := ⟨h1, h2, h3⟩
theorem known_one (w : World) (e : TypeId) (i : InsD) (h : In3 i) : Known (w.alloc (.cells #[.int .i64 i.op, .int .i64 i.a, .int .i64 i.b] e)) [w.heap.size] [i] [.slice (some ⟨w.heap.size, 0, none⟩) 1 1] :=
  ⟨by have h := inss_shut (w := w.alloc (.cells #[.int .i64 i.op, .int .i64 i.a, .int .i64 i.b] e)) (l := [i]) (a := some ⟨w.heap.size, 0, none⟩) (cap := 1) (view_lit' w _ _ 3 1 _ rfl rfl) ⟨Nat.le_refl 1, by decide⟩ (by simpa using h); simpa [blk] using h⟩
theorem known_oneAt {w : World} {g : Nat} {e : TypeId} {o a b : Int} (hg : g = w.heap.size) (h : In3 ⟨o, a, b⟩) : Known (w.alloc (.cells #[.int .i64 o, .int .i64 a, .int .i64 b] e)) [g] [(⟨o, a, b⟩ : InsD)] [.slice (some ⟨g, 0, none⟩) 1 1] := by subst hg; exact known_one w e ⟨o, a, b⟩ h
theorem one_lit (w : World) (x : Int) (e : TypeId) : View (w.alloc (.cells #[.int .i64 x] e)) (some ⟨w.heap.size, 0, none⟩) 1 1 [.int .i64 x] := view_lit' w _ _ 1 1 _ rfl rfl
theorem try_leaf {w w' : World} {t : List InsD × Nat} {x : List InsD} {n : Nat} {u : Value} {G : List Nat} {e : Ending} (ht : t = (x, n)) (he : e = .returned (.tuple #[u, .int .i64 n])) (hk : Known w' G x [u]) (st : Step w w') :
    ∃ u G, e = .returned (.tuple #[u, .int .i64 (t.2 : Nat)]) ∧ Known w' G t.1 [u] ∧ Step w w' := by subst ht; exact ⟨u, G, he, hk, st⟩
theorem tq_two {o2 a0 a1 : Int} (o1 : Int) (h1 : o1 = 65) (h : isTwo o2 = true) (hc : (bin32 o2 a0 a1).2 = 0) : tryQ 65 o1 o2 a0 a1 = ([⟨65, (bin32 o2 a0 a1).1, 0⟩], 3) := by unfold tryQ; rw [if_pos ⟨rfl, h1, h⟩, if_pos hc]
theorem tq_trap {o2 a0 a1 : Int} (o1 : Int) (h1 : o1 = 65) (h : isTwo o2 = true) (hc : ¬ (bin32 o2 a0 a1).2 = 0) : tryQ 65 o1 o2 a0 a1 = ([], 0) := by unfold tryQ; rw [if_pos ⟨rfl, h1, h⟩, if_neg hc]
theorem tq_65_65 {o2 a0 a1 : Int} (h : isTwo o2 = false) : tryQ 65 65 o2 a0 a1 = ([], 0) := by
  unfold tryQ
  rw [if_neg (by rw [h]; simp), if_neg (by simp [isOne]), if_neg (by decide), if_neg (by decide), if_neg (by simp), if_neg (by simp)]
theorem tq_one {o1 o2 a0 a1 : Int} (h1 : ¬ o1 = 65) (h : isOne o1 = true) : tryQ 65 o1 o2 a0 a1 = ([⟨65, un32 o1 a0, 0⟩], 2) := by unfold tryQ; rw [if_neg (fun hh => h1 hh.2.1), if_pos ⟨rfl, h⟩]
theorem tq_drop {o0 o1 o2 a0 a1 : Int} (h0 : o0 = 65 ∨ o0 = 32 ∨ o0 = 35) (h1 : o1 = 26) : tryQ o0 o1 o2 a0 a1 = ([], 2) := by
  unfold tryQ
  rw [if_neg (by omega), if_neg (by rw [h1]; simp [isOne]), if_pos ⟨h0, h1⟩]
theorem tq_65_no {o1 o2 a0 a1 : Int} (h1 : ¬ o1 = 65) (h : isOne o1 = false) (h2 : ¬ o1 = 26) : tryQ 65 o1 o2 a0 a1 = ([], 0) := by
  unfold tryQ
  rw [if_neg (by omega), if_neg (by rw [h]; simp), if_neg (by omega), if_neg (by omega), if_neg (by omega), if_neg (by omega)]
theorem tq_get_no {o0 o1 o2 a0 a1 : Int} (h0 : o0 = 32 ∨ o0 = 35) (h2 : ¬ o1 = 26) : tryQ o0 o1 o2 a0 a1 = ([], 0) := by
  unfold tryQ
  rw [if_neg (by omega), if_neg (by omega), if_neg (by omega), if_neg (by omega), if_neg (by omega), if_neg (by omega)]
theorem tq_nop {o1 o2 a0 a1 : Int} : tryQ 1 o1 o2 a0 a1 = ([], 1) := by
  unfold tryQ
  rw [if_neg (by omega), if_neg (by omega), if_neg (by omega), if_pos rfl]
theorem tq_tee {o2 a0 a1 : Int} (h : a0 = a1) : tryQ 33 32 o2 a0 a1 = ([⟨34, a0, 0⟩], 2) := by
  unfold tryQ
  rw [if_neg (by omega), if_neg (by omega), if_neg (by omega), if_neg (by omega), if_pos ⟨rfl, rfl, h⟩]
theorem tq_set_no {o1 o2 a0 a1 : Int} (h : ¬ (o1 = 32 ∧ a0 = a1)) : tryQ 33 o1 o2 a0 a1 = ([], 0) := by
  unfold tryQ
  rw [if_neg (by omega), if_neg (by omega), if_neg (by omega), if_neg (by omega), if_neg (fun hh => h hh.2), if_neg (by omega)]
theorem tq_eqz {a0 a1 : Int} : tryQ 69 69 69 a0 a1 = ([⟨69, 0, 0⟩], 3) := by
  unfold tryQ
  rw [if_neg (by omega), if_neg (by omega), if_neg (by omega), if_neg (by omega), if_neg (by omega), if_pos ⟨rfl, rfl, rfl⟩]
theorem tq_eqz_no {o1 o2 a0 a1 : Int} (h : ¬ (o1 = 69 ∧ o2 = 69)) : tryQ 69 o1 o2 a0 a1 = ([], 0) := by
  unfold tryQ
  rw [if_neg (by omega), if_neg (by omega), if_neg (by omega), if_neg (by omega), if_neg (by omega), if_neg (fun hh => h hh.2)]
theorem tq_no {o0 o1 o2 a0 a1 : Int} (h0 : ¬ o0 = 65) (h1 : ¬ o0 = 32) (h2 : ¬ o0 = 35) (h3 : ¬ o0 = 1) (h4 : ¬ o0 = 33) (h5 : ¬ o0 = 69) : tryQ o0 o1 o2 a0 a1 = ([], 0) := by
  unfold tryQ
  rw [if_neg (by omega), if_neg (by omega), if_neg (by omega), if_neg (by omega), if_neg (by omega), if_neg (by omega)]

set_option maxHeartbeats 4000000 in
theorem stry {F : List Nat} {v : Value} (l : List InsD) (k : Nat) (w : World) (hk : k < l.length) (ho : l.all insOk = true) (hl : l.length ≤ 1048576) [h : Shows w F l [v]] :
    Calls Tryz.prog 40 #[v, .int .i64 (k : Int)] w fun e w' => ∃ u G, e = .returned (.tuple #[u, .int .i64 ((tryP (l.drop k)).2 : Nat)]) ∧ Known w' G (tryP (l.drop k)).1 [u] ∧ Step w w' := by
  have kk := h.known
  have hI : In3 (atI l k) := by
    obtain ⟨_, _, _, _, _, _, h3⟩ := inss_open h.is
    rw [atI_in hk]
    exact h3 _ (List.getElem_mem hk)
  have hnum : (atI l k).op = 65 → wrap32 (atI l k).a = (atI l k).a := by
    intro hq
    rw [atI_in hk] at hq ⊢
    exact wrap32_id (ok_num (ok_at ho hk) hq)
  have hT := try_at l k
  have hia : In64 (atI l k).a := hI.2.1
  clear h ho hI
  go_enter Tryz.func40, Tryz.ntmps40
  go_wp2_with fail
  with_reducible refine Calls.mono (sat l k _ _ rfl) ?_
  rintro e w1 ⟨rfl, st1⟩
  go_wp2_with fail
  with_reducible refine Calls.mono (sat l (k + 1) _ _ (by omega)) ?_
  rintro e w2 ⟨rfl, st2⟩
  go_wp2_with fail
  with_reducible refine Calls.mono (sat l (k + 2) _ _ (by omega)) ?_
  rintro e w3 ⟨rfl, st3⟩
  generalize atI l k = q0 at *
  generalize atI l (k + 1) = q1 at *
  generalize atI l (k + 2) = q2 at *
  obtain ⟨o0, a0, b0⟩ := q0
  obtain ⟨o1, a1, b1⟩ := q1
  obtain ⟨o2, a2, b2⟩ := q2
  simp only at hnum hT hia
  replace hT := hid hT
  replace st2 : Step (w1.alloc (.cells #[.int .i64 o0, .int .i64 a0, .int .i64 b0] 39)) w2 := st2
  replace st3 : Step (w2.alloc (.cells #[.int .i64 o1, .int .i64 a1, .int .i64 b1] 39)) w3 := st3
  by_cases p0 : o0 = 65
  · subst p0
    have hw := hnum rfl
    clear hnum
    by_cases p1 : o1 = 65
    · subst p1
      clear hw
      cases p2 : isTwo o2
      · have p3 : isOne 65 = false := by decide
        have hr := hid (hT.out.trans (tq_65_65 p2))
        clear hT
        go_wp2_with (first | (go_at_call 83; (with_reducible refine Calls.mono (sis2 ..) ?_); rintro e wk ⟨rfl, st⟩) | (go_at_call 85; (with_reducible refine Calls.mono (sis1 ..) ?_); rintro e wk ⟨rfl, st⟩))
        go_ret2
        exact try_leaf hr.out rfl (known_nil _) mkStep
      · by_cases hc : (bin32 o2 a0 a1).2 = 0
        ·
          have hr := hid (hT.out.trans (tq_two _ rfl p2 hc))
          have h3 : In3 ⟨65, (bin32 o2 a0 a1).1, 0⟩ := in3_mk (by unfold In64; omega) (in64_32 (bin32_in _ _ _ hc)) (by unfold In64; omega)
          replace h3 := hid h3
          clear hT hia
          go_wp2_with (first | (go_at_call 83; (with_reducible refine Calls.mono (sis2 ..) ?_); rintro e wk ⟨rfl, st⟩) | (go_at_call 85; (with_reducible refine Calls.mono (sis1 ..) ?_); rintro e wk ⟨rfl, st⟩) | (go_at_call 84; (with_reducible refine Calls.mono (swork2 _ _ _ _ p2 (two_lit ..)) ?_); rintro e wk2 ⟨rfl, sx⟩))
          go_ret2
          exact try_leaf hr.out rfl (known_oneAt (by simp) h3.out) mkStep
        · have p3 : isOne 65 = false := by decide
          have hr := hid (hT.out.trans (tq_trap _ rfl p2 hc))
          clear hT
          go_wp2_with (first | (go_at_call 83; (with_reducible refine Calls.mono (sis2 ..) ?_); rintro e wk ⟨rfl, st⟩) | (go_at_call 85; (with_reducible refine Calls.mono (sis1 ..) ?_); rintro e wk ⟨rfl, st⟩) | (go_at_call 84; (with_reducible refine Calls.mono (swork2 _ _ _ _ p2 (two_lit ..)) ?_); rintro e wk2 ⟨rfl, sx⟩))
          go_ret2
          exact try_leaf hr.out rfl (known_nil _) mkStep
    · cases p2 : isOne o1
      · clear hw
        by_cases p3 : o1 = 26
        · subst p3
          have hr := hid (hT.out.trans (tq_drop (.inl rfl) rfl))
          clear hT
          go_wp2_with (first | (go_at_call 83; (with_reducible refine Calls.mono (sis2 ..) ?_); rintro e wk ⟨rfl, st⟩) | (go_at_call 85; (with_reducible refine Calls.mono (sis1 ..) ?_); rintro e wk ⟨rfl, st⟩))
          go_ret2
          exact try_leaf hr.out rfl (known_nil _) mkStep
        ·
          have hr := hid (hT.out.trans (tq_65_no p1 p2 p3))
          clear hT
          go_wp2_with (first | (go_at_call 83; (with_reducible refine Calls.mono (sis2 ..) ?_); rintro e wk ⟨rfl, st⟩) | (go_at_call 85; (with_reducible refine Calls.mono (sis1 ..) ?_); rintro e wk ⟨rfl, st⟩))
          go_ret2
          exact try_leaf hr.out rfl (known_nil _) mkStep
      ·
        have hr := hid (hT.out.trans (tq_one p1 p2))
        have h3 : In3 ⟨65, un32 o1 a0, 0⟩ := in3_mk (by unfold In64; omega) (in64_32 (un32_in _ _)) (by unfold In64; omega)
        replace h3 := hid h3
        clear hT hia
        go_wp2_with (first | (go_at_call 83; (with_reducible refine Calls.mono (sis2 ..) ?_); rintro e wk ⟨rfl, st⟩) | (go_at_call 85; (with_reducible refine Calls.mono (sis1 ..) ?_); rintro e wk ⟨rfl, st⟩) | (go_at_call 84; (with_reducible refine Calls.mono (swork1 _ _ _ p2 hw (one_lit ..)) ?_); rintro e wk2 ⟨rfl, sx⟩))
        go_ret2
        exact try_leaf hr.out rfl (known_oneAt (by simp) h3.out) mkStep
  clear hnum
  by_cases p6 : o0 = 32 ∨ o0 = 35
  · by_cases p3 : o1 = 26
    · subst p3
      rcases p6 with rfl | rfl
      ·
        have hr := hid (hT.out.trans (tq_drop (.inr (.inl rfl)) rfl))
        clear hT
        go_wp2_with (first | (go_at_call 83; (with_reducible refine Calls.mono (sis2 ..) ?_); rintro e wk ⟨rfl, st⟩) | (go_at_call 85; (with_reducible refine Calls.mono (sis1 ..) ?_); rintro e wk ⟨rfl, st⟩))
        go_ret2
        exact try_leaf hr.out rfl (known_nil _) mkStep
      ·
        have hr := hid (hT.out.trans (tq_drop (.inr (.inr rfl)) rfl))
        clear hT
        go_wp2_with (first | (go_at_call 83; (with_reducible refine Calls.mono (sis2 ..) ?_); rintro e wk ⟨rfl, st⟩) | (go_at_call 85; (with_reducible refine Calls.mono (sis1 ..) ?_); rintro e wk ⟨rfl, st⟩))
        go_ret2
        exact try_leaf hr.out rfl (known_nil _) mkStep
    · rcases p6 with rfl | rfl
      ·
        have hr := hid (hT.out.trans (tq_get_no (.inl rfl) p3))
        clear hT
        go_wp2_with (first | (go_at_call 83; (with_reducible refine Calls.mono (sis2 ..) ?_); rintro e wk ⟨rfl, st⟩) | (go_at_call 85; (with_reducible refine Calls.mono (sis1 ..) ?_); rintro e wk ⟨rfl, st⟩))
        go_ret2
        exact try_leaf hr.out rfl (known_nil _) mkStep
      ·
        have hr := hid (hT.out.trans (tq_get_no (.inr rfl) p3))
        clear hT
        go_wp2_with (first | (go_at_call 83; (with_reducible refine Calls.mono (sis2 ..) ?_); rintro e wk ⟨rfl, st⟩) | (go_at_call 85; (with_reducible refine Calls.mono (sis1 ..) ?_); rintro e wk ⟨rfl, st⟩))
        go_ret2
        exact try_leaf hr.out rfl (known_nil _) mkStep
  have p4 : ¬ o0 = 32 := fun h => p6 (.inl h)
  have p5 : ¬ o0 = 35 := fun h => p6 (.inr h)
  clear p6
  by_cases p7 : o0 = 1
  · subst p7
    have hr := hid (hT.out.trans (tq_nop))
    clear hT
    go_wp2_with (first | (go_at_call 83; (with_reducible refine Calls.mono (sis2 ..) ?_); rintro e wk ⟨rfl, st⟩) | (go_at_call 85; (with_reducible refine Calls.mono (sis1 ..) ?_); rintro e wk ⟨rfl, st⟩))
    go_ret2
    exact try_leaf hr.out rfl (known_nil _) mkStep
  by_cases p8 : o0 = 33
  · subst p8
    by_cases p9 : o1 = 32
    · subst p9
      by_cases p10 : a0 = a1
      · subst p10
        have hr := hid (hT.out.trans (tq_tee rfl))
        have h3 : In3 ⟨34, a0, 0⟩ := in3_mk (by unfold In64; omega) hia (by unfold In64; omega)
        replace h3 := hid h3
        clear hT hia
        go_wp2_with (first | (go_at_call 83; (with_reducible refine Calls.mono (sis2 ..) ?_); rintro e wk ⟨rfl, st⟩) | (go_at_call 85; (with_reducible refine Calls.mono (sis1 ..) ?_); rintro e wk ⟨rfl, st⟩))
        go_ret2
        exact try_leaf hr.out rfl (known_oneAt (by simp) h3.out) mkStep
      ·
        have hr := hid (hT.out.trans (tq_set_no (fun h => p10 h.2)))
        clear hT
        go_wp2_with (first | (go_at_call 83; (with_reducible refine Calls.mono (sis2 ..) ?_); rintro e wk ⟨rfl, st⟩) | (go_at_call 85; (with_reducible refine Calls.mono (sis1 ..) ?_); rintro e wk ⟨rfl, st⟩))
        go_ret2
        exact try_leaf hr.out rfl (known_nil _) mkStep
    ·
      have hr := hid (hT.out.trans (tq_set_no (fun h => p9 h.1)))
      clear hT
      go_wp2_with (first | (go_at_call 83; (with_reducible refine Calls.mono (sis2 ..) ?_); rintro e wk ⟨rfl, st⟩) | (go_at_call 85; (with_reducible refine Calls.mono (sis1 ..) ?_); rintro e wk ⟨rfl, st⟩))
      go_ret2
      exact try_leaf hr.out rfl (known_nil _) mkStep
  by_cases p9 : o0 = 69
  · subst p9
    by_cases p10 : o1 = 69
    · subst p10
      by_cases p11 : o2 = 69
      · subst p11
        have hr := hid (hT.out.trans (tq_eqz))
        have h3 : In3 ⟨69, 0, 0⟩ := in3_mk (by unfold In64; omega) (by unfold In64; omega) (by unfold In64; omega)
        replace h3 := hid h3
        clear hT hia
        go_wp2_with (first | (go_at_call 83; (with_reducible refine Calls.mono (sis2 ..) ?_); rintro e wk ⟨rfl, st⟩) | (go_at_call 85; (with_reducible refine Calls.mono (sis1 ..) ?_); rintro e wk ⟨rfl, st⟩))
        go_ret2
        exact try_leaf hr.out rfl (known_oneAt (by simp) h3.out) mkStep
      ·
        have hr := hid (hT.out.trans (tq_eqz_no (fun h => p11 h.2)))
        clear hT
        go_wp2_with (first | (go_at_call 83; (with_reducible refine Calls.mono (sis2 ..) ?_); rintro e wk ⟨rfl, st⟩) | (go_at_call 85; (with_reducible refine Calls.mono (sis1 ..) ?_); rintro e wk ⟨rfl, st⟩))
        go_ret2
        exact try_leaf hr.out rfl (known_nil _) mkStep
    ·
      have hr := hid (hT.out.trans (tq_eqz_no (fun h => p10 h.1)))
      clear hT
      go_wp2_with (first | (go_at_call 83; (with_reducible refine Calls.mono (sis2 ..) ?_); rintro e wk ⟨rfl, st⟩) | (go_at_call 85; (with_reducible refine Calls.mono (sis1 ..) ?_); rintro e wk ⟨rfl, st⟩))
      go_ret2
      exact try_leaf hr.out rfl (known_nil _) mkStep
  have hr := hid (hT.out.trans (tq_no p0 p4 p5 p7 p8 p9))
  clear hT
  go_wp2_with (first | (go_at_call 83; (with_reducible refine Calls.mono (sis2 ..) ?_); rintro e wk ⟨rfl, st⟩) | (go_at_call 85; (with_reducible refine Calls.mono (sis1 ..) ?_); rintro e wk ⟨rfl, st⟩))
  go_ret2
  exact try_leaf hr.out rfl (known_nil _) mkStep
end Go.Proofs.YtoffaobiikdflaaGreatDoor
