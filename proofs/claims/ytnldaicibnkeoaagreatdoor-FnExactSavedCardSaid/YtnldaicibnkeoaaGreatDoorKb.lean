/- Contracts: spec's shorter bodies. Contracts: spec's PeepOnce and PeepBody. Contracts: impl's shorter. -/
import Derived.Test.YtnldaicibnkeoaaGreatDoorKa
import Derived.Test.YtnldaicibnkeoaaGreatDoorCase
namespace Go.Proofs.YtnldaicibnkeoaaGreatDoor
attribute [local go_sem ↓] Go.wp_at_zero Go.wp_at_succ
open Go.RowKit
open Rep (Is sz)

def atI (l : List InsD) (k : Nat) : InsD := l[k]?.getD ⟨-1, 0, 0⟩
theorem opAt_eq (l : List InsD) (k : Nat) : opAt l k = (atI l k).op := by unfold opAt atI; cases l[k]? <;> rfl
theorem argAt_eq (l : List InsD) (k : Nat) : argAt l k = (atI l k).a := by unfold argAt atI; cases l[k]? <;> rfl
theorem atI_in {l : List InsD} {k : Nat} (h : k < l.length) : atI l k = l[k] := by unfold atI; rw [List.getElem?_eq_getElem h]; rfl
theorem atI_out {l : List InsD} {k : Nat} (h : ¬ k < l.length) : atI l k = ⟨-1, 0, 0⟩ := by unfold atI; rw [List.getElem?_eq_none (by omega)]; rfl
theorem try_at (l : List InsD) (k : Nat) : tryP (l.drop k) = tryQ (atI l k).op (atI l (k + 1)).op (atI l (k + 2)).op (atI l k).a (atI l (k + 1)).a := by
  unfold tryP
  rw [opAt_drop, opAt_drop, opAt_drop, argAt_drop, argAt_drop, opAt_eq, opAt_eq, opAt_eq, argAt_eq, argAt_eq]
  rfl

theorem sis2 (op : Int) (w : World) : Calls Tryz.prog 80 #[.int .i64 op] w fun e w' => e = .returned (.bool (isTwo op)) ∧ Step w w' := by
  have hr := hid (show isTwo op = ((decide (70 ≤ op) && decide (op ≤ 79)) || (decide (106 ≤ op) && decide (op ≤ 120))) by unfold isTwo; rw [Bool.eq_iff_iff]; simp)
  go_enter Tryz.func80, Tryz.ntmps80
  go_wp2
  all_goals (go_ret; refine ⟨ret_bool ?_, mkStep⟩; rw [hr.out]; (first | (simp; done) | (simp; omega)))
theorem sis1 (op : Int) (w : World) : Calls Tryz.prog 82 #[.int .i64 op] w fun e w' => e = .returned (.bool (isOne op)) ∧ Step w w' := by
  have hr := hid (isOne_or op)
  go_enter Tryz.func82, Tryz.ntmps82
  go_wp2
  all_goals (go_ret; refine ⟨ret_bool ?_, mkStep⟩; rw [hr.out]; (first | (simp; done) | (simp; omega)))

theorem sat {F : List Nat} {v : Value} (l : List InsD) (k : Nat) (i : Int) (w : World) (hi : i = k) [h : Shows w F l [v]] : Calls Tryz.prog 79 #[v, .int .i64 i] w fun e w' => e = .returned (.agg #[.int .i64 (atI l k).op, .int .i64 (atI l k).a, .int .i64 (atI l k).b]) ∧ Step w w' := by
  subst hi
  obtain ⟨a, cap, cl, FF, hv, _, hvw, hr, hml⟩ := list_open h.is
  cases hv
  clear h
  unfold maxLen at hml
  by_cases hlt : k < l.length
  · have he := hid (atI_in hlt)
    obtain ⟨b, o, G, cs, rfl, hG, hI, hc, ho⟩ := hvw.row hr rfl (by decide) k hlt
    have hI0 := hI
    obtain ⟨rfl, rfl, i0, i1, i2⟩ := ins_open hI0
    have ke : Known w _ l[k] _ := ⟨hI⟩
    have c0 := (hc 0 _ rfl).1
    replace c0 : w.cell? ⟨b, o + k * 3, none⟩ = _ := c0
    have c1 := (hc 1 _ rfl).1
    replace c1 : w.cell? ⟨b, o + k * 3 + 1, none⟩ = _ := c1
    have c2 := (hc 2 _ rfl).1
    replace c2 : w.cell? ⟨b, o + k * 3 + 2, none⟩ = _ := c2
    clear hc
    go_enter Tryz.func79, Tryz.ntmps79
    go_wp2
    refine bodyPost_ret (v := .agg #[.int .i64 (atI l k).op, .int .i64 (atI l k).a, .int .i64 (atI l k).b]) (by rw [he.out]; simp [results, Tryz.results79, go_sem]) rfl ?_
    exact ⟨rfl, mkStep⟩
  · have he := hid (atI_out hlt)
    go_enter Tryz.func79, Tryz.ntmps79
    go_wp2
    refine bodyPost_ret (v := .agg #[.int .i64 (atI l k).op, .int .i64 (atI l k).a, .int .i64 (atI l k).b]) (by rw [he.out]; simp [results, Tryz.results79, go_sem]) rfl ?_
    exact ⟨rfl, mkStep⟩
/-! ### l15Try -/

theorem in64_32 {n : Int} (h : I32 n) : In64 n := by unfold I32 at h; unfold In64; omega
theorem known_nil (w : World) : Known w [] ([] : List InsD) [.slice none 0 0] :=
  ⟨by have h := inss_shut (w := w) (l := []) (a := none) (cap := 0) ⟨rfl, fun h => absurd h (by decide)⟩ ⟨by decide, by decide⟩ (by simp); simpa using h⟩
theorem in3_mk {o a b : Int} (h1 : In64 o) (h2 : In64 a) (h3 : In64 b) : In3 ⟨o, a, b⟩ := ⟨h1, h2, h3⟩
theorem known_one (w : World) (e : TypeId) (i : InsD) (h : In3 i) : Known (w.alloc (.cells #[.int .i64 i.op, .int .i64 i.a, .int .i64 i.b] e)) [w.heap.size] [i] [.slice (some ⟨w.heap.size, 0, none⟩) 1 1] :=
  ⟨by have h := inss_shut (w := w.alloc (.cells #[.int .i64 i.op, .int .i64 i.a, .int .i64 i.b] e)) (l := [i]) (a := some ⟨w.heap.size, 0, none⟩) (cap := 1) (view_lit' w _ _ 3 1 _ rfl rfl) ⟨Nat.le_refl 1, by decide⟩ (by simpa using h); simpa [blk] using h⟩
theorem known_oneAt {w : World} {g : Nat} {e : TypeId} {o a b : Int} (hg : g = w.heap.size) (h : In3 ⟨o, a, b⟩) : Known (w.alloc (.cells #[.int .i64 o, .int .i64 a, .int .i64 b] e)) [g] [(⟨o, a, b⟩ : InsD)] [.slice (some ⟨g, 0, none⟩) 1 1] := by subst hg; exact known_one w e ⟨o, a, b⟩ h
theorem one_lit (w : World) (x : Int) (e : TypeId) : View (w.alloc (.cells #[.int .i64 x] e)) (some ⟨w.heap.size, 0, none⟩) 1 1 [.int .i64 x] := view_lit' w _ _ 1 1 _ rfl rfl
theorem try_leaf {w w' : World} {t : List InsD × Nat} {x : List InsD} {n : Nat} {u : Value} {G : List Nat} {e : Ending} (ht : t = (x, n)) (he : e = .returned (.tuple #[u, .int .i64 n])) (hk : Known w' G x [u]) (st : Step w w') :
    ∃ u G, e = .returned (.tuple #[u, .int .i64 (t.2 : Nat)]) ∧ Known w' G t.1 [u] ∧ Step w w' := by subst ht; exact ⟨u, G, he, hk, st⟩
theorem tq_two {o2 a0 a1 : Int} (o1 : Int) (h1 : o1 = 65) (h : isTwo o2 = true) (hc : (bin32 o2 a0 a1).2 = 0) : tryQ 65 o1 o2 a0 a1 = ([⟨65, (bin32 o2 a0 a1).1, 0⟩], 3) := by unfold tryQ; rw [if_pos ⟨rfl, h1, h⟩, if_pos hc]
theorem tq_trap {o2 a0 a1 : Int} (o1 : Int) (h1 : o1 = 65) (h : isTwo o2 = true) (hc : ¬ (bin32 o2 a0 a1).2 = 0) : tryQ 65 o1 o2 a0 a1 = ([], 0) := by unfold tryQ; rw [if_pos ⟨rfl, h1, h⟩, if_neg hc]
theorem tq_65_65 {o2 a0 a1 : Int} (h : isTwo o2 = false) : tryQ 65 65 o2 a0 a1 = ([], 0) := by
  unfold tryQ
  rw [if_neg (by rw [h]; simp), if_neg (by simp [isOne]), if_neg (by decide), if_neg (by decide), if_neg (by simp), if_neg (by simp)]
theorem tq_one {o1 o2 a0 a1 : Int} (h1 : ¬ o1 = 65) (h : isOne o1 = true) : tryQ 65 o1 o2 a0 a1 = ([⟨65, un32 o1 a0, 0⟩], 2) := by unfold tryQ; rw [if_neg (fun hh => h1 hh.2.1), if_pos ⟨rfl, h⟩]
theorem tq_drop {o0 o1 o2 a0 a1 : Int} (h0 : o0 = 65 ∨ o0 = 32 ∨ o0 = 35) (h1 : o1 = 26) : tryQ o0 o1 o2 a0 a1 = ([], 2) := by
  unfold tryQ
  rw [if_neg (by omega), if_neg (by rw [h1]; simp [isOne]), if_pos ⟨h0, h1⟩]
theorem tq_65_no {o1 o2 a0 a1 : Int} (h1 : ¬ o1 = 65) (h : isOne o1 = false) (h2 : ¬ o1 = 26) : tryQ 65 o1 o2 a0 a1 = ([], 0) := by
  unfold tryQ
  rw [if_neg (by omega), if_neg (by rw [h]; simp), if_neg (by omega), if_neg (by omega), if_neg (by omega), if_neg (by omega)]
theorem tq_get_no {o0 o1 o2 a0 a1 : Int} (h0 : o0 = 32 ∨ o0 = 35) (h2 : ¬ o1 = 26) : tryQ o0 o1 o2 a0 a1 = ([], 0) := by
  unfold tryQ
  rw [if_neg (by omega), if_neg (by omega), if_neg (by omega), if_neg (by omega), if_neg (by omega), if_neg (by omega)]
theorem tq_nop {o1 o2 a0 a1 : Int} : tryQ 1 o1 o2 a0 a1 = ([], 1) := by
  unfold tryQ
  rw [if_neg (by omega), if_neg (by omega), if_neg (by omega), if_pos rfl]
theorem tq_tee {o2 a0 a1 : Int} (h : a0 = a1) : tryQ 33 32 o2 a0 a1 = ([⟨34, a0, 0⟩], 2) := by
  unfold tryQ
  rw [if_neg (by omega), if_neg (by omega), if_neg (by omega), if_neg (by omega), if_pos ⟨rfl, rfl, h⟩]
theorem tq_set_no {o1 o2 a0 a1 : Int} (h : ¬ (o1 = 32 ∧ a0 = a1)) : tryQ 33 o1 o2 a0 a1 = ([], 0) := by
  unfold tryQ
  rw [if_neg (by omega), if_neg (by omega), if_neg (by omega), if_neg (by omega), if_neg (fun hh => h hh.2), if_neg (by omega)]
theorem tq_eqz {a0 a1 : Int} : tryQ 69 69 69 a0 a1 = ([⟨69, 0, 0⟩], 3) := by
  unfold tryQ
  rw [if_neg (by omega), if_neg (by omega), if_neg (by omega), if_neg (by omega), if_neg (by omega), if_pos ⟨rfl, rfl, rfl⟩]
theorem tq_eqz_no {o1 o2 a0 a1 : Int} (h : ¬ (o1 = 69 ∧ o2 = 69)) : tryQ 69 o1 o2 a0 a1 = ([], 0) := by
  unfold tryQ
  rw [if_neg (by omega), if_neg (by omega), if_neg (by omega), if_neg (by omega), if_neg (by omega), if_neg (fun hh => h hh.2)]
theorem tq_no {o0 o1 o2 a0 a1 : Int} (h0 : ¬ o0 = 65) (h1 : ¬ o0 = 32) (h2 : ¬ o0 = 35) (h3 : ¬ o0 = 1) (h4 : ¬ o0 = 33) (h5 : ¬ o0 = 69) : tryQ o0 o1 o2 a0 a1 = ([], 0) := by
  unfold tryQ
  rw [if_neg (by omega), if_neg (by omega), if_neg (by omega), if_neg (by omega), if_neg (by omega), if_neg (by omega)]

set_option maxHeartbeats 4000000 in
theorem stry {F : List Nat} {v : Value} (l : List InsD) (k : Nat) (w : World) (hk : k < l.length) (ho : l.all insOk = true) (hl : l.length ≤ 1048576) [h : Shows w F l [v]] :
    Calls Tryz.prog 63 #[v, .int .i64 (k : Int)] w fun e w' => ∃ u G, e = .returned (.tuple #[u, .int .i64 ((tryP (l.drop k)).2 : Nat)]) ∧ Known w' G (tryP (l.drop k)).1 [u] ∧ Step w w' := by
  have kk := h.known
  have hI : In3 (atI l k) := by
    obtain ⟨_, _, _, _, _, _, h3⟩ := inss_open h.is
    rw [atI_in hk]
    exact h3 _ (List.getElem_mem hk)
  have hnum : (atI l k).op = 65 → wrap32 (atI l k).a = (atI l k).a := by
    intro hq
    rw [atI_in hk] at hq ⊢
    exact wrap32_id (ok_num (ok_at ho hk) hq)
  have hT := try_at l k
  have hia : In64 (atI l k).a := hI.2.1
  clear h ho hI
  go_enter Tryz.func63, Tryz.ntmps63
  go_wp2_with fail
  with_reducible refine Calls.mono (sat l k _ _ rfl) ?_
  rintro e w1 ⟨rfl, st1⟩
  go_wp2_with fail
  with_reducible refine Calls.mono (sat l (k + 1) _ _ (by omega)) ?_
  rintro e w2 ⟨rfl, st2⟩
  go_wp2_with fail
  with_reducible refine Calls.mono (sat l (k + 2) _ _ (by omega)) ?_
  rintro e w3 ⟨rfl, st3⟩
  generalize atI l k = q0 at *
  generalize atI l (k + 1) = q1 at *
  generalize atI l (k + 2) = q2 at *
  obtain ⟨o0, a0, b0⟩ := q0
  obtain ⟨o1, a1, b1⟩ := q1
  obtain ⟨o2, a2, b2⟩ := q2
  simp only at hnum hT hia
  replace hT := hid hT
  replace st2 : Step (w1.alloc (.cells #[.int .i64 o0, .int .i64 a0, .int .i64 b0] 110)) w2 := st2
  replace st3 : Step (w2.alloc (.cells #[.int .i64 o1, .int .i64 a1, .int .i64 b1] 110)) w3 := st3
  by_cases p0 : o0 = 65
  · subst p0
    have hw := hnum rfl
    clear hnum
    by_cases p1 : o1 = 65
    · subst p1
      clear hw
      cases p2 : isTwo o2
      · have p3 : isOne 65 = false := by decide
        have hr := hid (hT.out.trans (tq_65_65 p2))
        clear hT
        go_wp2_with (first | (go_at_call 80; (with_reducible refine Calls.mono (sis2 ..) ?_); rintro e wk ⟨rfl, st⟩) | (go_at_call 82; (with_reducible refine Calls.mono (sis1 ..) ?_); rintro e wk ⟨rfl, st⟩))
        go_ret2
        exact try_leaf hr.out rfl (known_nil _) mkStep
      · by_cases hc : (bin32 o2 a0 a1).2 = 0
        ·
          have hr := hid (hT.out.trans (tq_two _ rfl p2 hc))
          have h3 : In3 ⟨65, (bin32 o2 a0 a1).1, 0⟩ := in3_mk (by unfold In64; omega) (in64_32 (bin32_in _ _ _ hc)) (by unfold In64; omega)
          replace h3 := hid h3
          clear hT hia
          go_wp2_with (first | (go_at_call 80; (with_reducible refine Calls.mono (sis2 ..) ?_); rintro e wk ⟨rfl, st⟩) | (go_at_call 82; (with_reducible refine Calls.mono (sis1 ..) ?_); rintro e wk ⟨rfl, st⟩) | (go_at_call 81; (with_reducible refine Calls.mono (swork2 _ _ _ _ p2 (two_lit ..)) ?_); rintro e wk2 ⟨rfl, sx⟩))
          go_ret2
          exact try_leaf hr.out rfl (known_oneAt (by simp) h3.out) mkStep
        · have p3 : isOne 65 = false := by decide
          have hr := hid (hT.out.trans (tq_trap _ rfl p2 hc))
          clear hT
          go_wp2_with (first | (go_at_call 80; (with_reducible refine Calls.mono (sis2 ..) ?_); rintro e wk ⟨rfl, st⟩) | (go_at_call 82; (with_reducible refine Calls.mono (sis1 ..) ?_); rintro e wk ⟨rfl, st⟩) | (go_at_call 81; (with_reducible refine Calls.mono (swork2 _ _ _ _ p2 (two_lit ..)) ?_); rintro e wk2 ⟨rfl, sx⟩))
          go_ret2
          exact try_leaf hr.out rfl (known_nil _) mkStep
    · cases p2 : isOne o1
      · clear hw
        by_cases p3 : o1 = 26
        · subst p3
          have hr := hid (hT.out.trans (tq_drop (.inl rfl) rfl))
          clear hT
          go_wp2_with (first | (go_at_call 80; (with_reducible refine Calls.mono (sis2 ..) ?_); rintro e wk ⟨rfl, st⟩) | (go_at_call 82; (with_reducible refine Calls.mono (sis1 ..) ?_); rintro e wk ⟨rfl, st⟩))
          go_ret2
          exact try_leaf hr.out rfl (known_nil _) mkStep
        ·
          have hr := hid (hT.out.trans (tq_65_no p1 p2 p3))
          clear hT
          go_wp2_with (first | (go_at_call 80; (with_reducible refine Calls.mono (sis2 ..) ?_); rintro e wk ⟨rfl, st⟩) | (go_at_call 82; (with_reducible refine Calls.mono (sis1 ..) ?_); rintro e wk ⟨rfl, st⟩))
          go_ret2
          exact try_leaf hr.out rfl (known_nil _) mkStep
      ·
        have hr := hid (hT.out.trans (tq_one p1 p2))
        have h3 : In3 ⟨65, un32 o1 a0, 0⟩ := in3_mk (by unfold In64; omega) (in64_32 (un32_in _ _)) (by unfold In64; omega)
        replace h3 := hid h3
        clear hT hia
        go_wp2_with (first | (go_at_call 80; (with_reducible refine Calls.mono (sis2 ..) ?_); rintro e wk ⟨rfl, st⟩) | (go_at_call 82; (with_reducible refine Calls.mono (sis1 ..) ?_); rintro e wk ⟨rfl, st⟩) | (go_at_call 81; (with_reducible refine Calls.mono (swork1 _ _ _ p2 hw (one_lit ..)) ?_); rintro e wk2 ⟨rfl, sx⟩))
        go_ret2
        exact try_leaf hr.out rfl (known_oneAt (by simp) h3.out) mkStep
  clear hnum
  by_cases p6 : o0 = 32 ∨ o0 = 35
  · by_cases p3 : o1 = 26
    · subst p3
      rcases p6 with rfl | rfl
      ·
        have hr := hid (hT.out.trans (tq_drop (.inr (.inl rfl)) rfl))
        clear hT
        go_wp2_with (first | (go_at_call 80; (with_reducible refine Calls.mono (sis2 ..) ?_); rintro e wk ⟨rfl, st⟩) | (go_at_call 82; (with_reducible refine Calls.mono (sis1 ..) ?_); rintro e wk ⟨rfl, st⟩))
        go_ret2
        exact try_leaf hr.out rfl (known_nil _) mkStep
      ·
        have hr := hid (hT.out.trans (tq_drop (.inr (.inr rfl)) rfl))
        clear hT
        go_wp2_with (first | (go_at_call 80; (with_reducible refine Calls.mono (sis2 ..) ?_); rintro e wk ⟨rfl, st⟩) | (go_at_call 82; (with_reducible refine Calls.mono (sis1 ..) ?_); rintro e wk ⟨rfl, st⟩))
        go_ret2
        exact try_leaf hr.out rfl (known_nil _) mkStep
    · rcases p6 with rfl | rfl
      ·
        have hr := hid (hT.out.trans (tq_get_no (.inl rfl) p3))
        clear hT
        go_wp2_with (first | (go_at_call 80; (with_reducible refine Calls.mono (sis2 ..) ?_); rintro e wk ⟨rfl, st⟩) | (go_at_call 82; (with_reducible refine Calls.mono (sis1 ..) ?_); rintro e wk ⟨rfl, st⟩))
        go_ret2
        exact try_leaf hr.out rfl (known_nil _) mkStep
      ·
        have hr := hid (hT.out.trans (tq_get_no (.inr rfl) p3))
        clear hT
        go_wp2_with (first | (go_at_call 80; (with_reducible refine Calls.mono (sis2 ..) ?_); rintro e wk ⟨rfl, st⟩) | (go_at_call 82; (with_reducible refine Calls.mono (sis1 ..) ?_); rintro e wk ⟨rfl, st⟩))
        go_ret2
        exact try_leaf hr.out rfl (known_nil _) mkStep
  have p4 : ¬ o0 = 32 := fun h => p6 (.inl h)
  have p5 : ¬ o0 = 35 := fun h => p6 (.inr h)
  clear p6
  by_cases p7 : o0 = 1
  · subst p7
    have hr := hid (hT.out.trans (tq_nop))
    clear hT
    go_wp2_with (first | (go_at_call 80; (with_reducible refine Calls.mono (sis2 ..) ?_); rintro e wk ⟨rfl, st⟩) | (go_at_call 82; (with_reducible refine Calls.mono (sis1 ..) ?_); rintro e wk ⟨rfl, st⟩))
    go_ret2
    exact try_leaf hr.out rfl (known_nil _) mkStep
  by_cases p8 : o0 = 33
  · subst p8
    by_cases p9 : o1 = 32
    · subst p9
      by_cases p10 : a0 = a1
      · subst p10
        have hr := hid (hT.out.trans (tq_tee rfl))
        have h3 : In3 ⟨34, a0, 0⟩ := in3_mk (by unfold In64; omega) hia (by unfold In64; omega)
        replace h3 := hid h3
        clear hT hia
        go_wp2_with (first | (go_at_call 80; (with_reducible refine Calls.mono (sis2 ..) ?_); rintro e wk ⟨rfl, st⟩) | (go_at_call 82; (with_reducible refine Calls.mono (sis1 ..) ?_); rintro e wk ⟨rfl, st⟩))
        go_ret2
        exact try_leaf hr.out rfl (known_oneAt (by simp) h3.out) mkStep
      ·
        have hr := hid (hT.out.trans (tq_set_no (fun h => p10 h.2)))
        clear hT
        go_wp2_with (first | (go_at_call 80; (with_reducible refine Calls.mono (sis2 ..) ?_); rintro e wk ⟨rfl, st⟩) | (go_at_call 82; (with_reducible refine Calls.mono (sis1 ..) ?_); rintro e wk ⟨rfl, st⟩))
        go_ret2
        exact try_leaf hr.out rfl (known_nil _) mkStep
    ·
      have hr := hid (hT.out.trans (tq_set_no (fun h => p9 h.1)))
      clear hT
      go_wp2_with (first | (go_at_call 80; (with_reducible refine Calls.mono (sis2 ..) ?_); rintro e wk ⟨rfl, st⟩) | (go_at_call 82; (with_reducible refine Calls.mono (sis1 ..) ?_); rintro e wk ⟨rfl, st⟩))
      go_ret2
      exact try_leaf hr.out rfl (known_nil _) mkStep
  by_cases p9 : o0 = 69
  · subst p9
    by_cases p10 : o1 = 69
    · subst p10
      by_cases p11 : o2 = 69
      · subst p11
        have hr := hid (hT.out.trans (tq_eqz))
        have h3 : In3 ⟨69, 0, 0⟩ := in3_mk (by unfold In64; omega) (by unfold In64; omega) (by unfold In64; omega)
        replace h3 := hid h3
        clear hT hia
        go_wp2_with (first | (go_at_call 80; (with_reducible refine Calls.mono (sis2 ..) ?_); rintro e wk ⟨rfl, st⟩) | (go_at_call 82; (with_reducible refine Calls.mono (sis1 ..) ?_); rintro e wk ⟨rfl, st⟩))
        go_ret2
        exact try_leaf hr.out rfl (known_oneAt (by simp) h3.out) mkStep
      ·
        have hr := hid (hT.out.trans (tq_eqz_no (fun h => p11 h.2)))
        clear hT
        go_wp2_with (first | (go_at_call 80; (with_reducible refine Calls.mono (sis2 ..) ?_); rintro e wk ⟨rfl, st⟩) | (go_at_call 82; (with_reducible refine Calls.mono (sis1 ..) ?_); rintro e wk ⟨rfl, st⟩))
        go_ret2
        exact try_leaf hr.out rfl (known_nil _) mkStep
    ·
      have hr := hid (hT.out.trans (tq_eqz_no (fun h => p10 h.1)))
      clear hT
      go_wp2_with (first | (go_at_call 80; (with_reducible refine Calls.mono (sis2 ..) ?_); rintro e wk ⟨rfl, st⟩) | (go_at_call 82; (with_reducible refine Calls.mono (sis1 ..) ?_); rintro e wk ⟨rfl, st⟩))
      go_ret2
      exact try_leaf hr.out rfl (known_nil _) mkStep
  have hr := hid (hT.out.trans (tq_no p0 p4 p5 p7 p8 p9))
  clear hT
  go_wp2_with (first | (go_at_call 80; (with_reducible refine Calls.mono (sis2 ..) ?_); rintro e wk ⟨rfl, st⟩) | (go_at_call 82; (with_reducible refine Calls.mono (sis1 ..) ?_); rintro e wk ⟨rfl, st⟩))
  go_ret2
  exact try_leaf hr.out rfl (known_nil _) mkStep
end Go.Proofs.YtnldaicibnkeoaaGreatDoor
namespace Go.Proofs.YtnldaicibnkeoaaGreatDoor
attribute [local go_sem ↓] Go.wp_at_zero Go.wp_at_succ
open Go.RowKit
open Rep (Is sz)

theorem ok_in3 {i : InsD} (h : insOk i = true) : In3 i := by
  have hk : knownB i.op = true := by
    cases q : knownB i.op
    · rw [insOk_no q] at h; cases h
    · rfl
  have h1 : In64 i.op := by
    unfold knownB at hk
    have hm := of_decide_eq_true hk
    rw [mem_codesL] at hm
    unfold In64
    rcases hm with hm | hm | hm
    · have : ∀ x ∈ codesA, 0 ≤ x ∧ x ≤ 1000 := by decide
      have := this _ hm
      omega
    · omega
    · omega
  rcases kind_cases i.op with ⟨k, _⟩ | ⟨k, _⟩ | ⟨k, _⟩ | ⟨k, _⟩ | ⟨k, _⟩
  · rw [insOk_1 hk k] at h
    have h2 := of_decide_eq_true h
    exact ⟨h1, by unfold In64; omega, by unfold In64; omega⟩
  · rw [insOk_2 hk k] at h
    have h2 := of_decide_eq_true h
    exact ⟨h1, by unfold In64; omega, by unfold In64; omega⟩
  · rw [insOk_3 hk k] at h
    have h2 := of_decide_eq_true h
    exact ⟨h1, by unfold In64; omega, by unfold In64; omega⟩
  · rw [insOk_4 hk k] at h
    have h2 := of_decide_eq_true h
    exact ⟨h1, by unfold In64; omega, by unfold In64; omega⟩
  · rw [insOk_0 hk k] at h
    have h2 := of_decide_eq_true h
    exact ⟨h1, by unfold In64; omega, by unfold In64; omega⟩
theorem ok_in3s {l : List InsD} (h : l.all insOk = true) : ∀ i ∈ l, In3 i := fun i hi => ok_in3 (List.all_eq_true.1 h i hi)

theorem sright {F : List Nat} {v : Value} (l : List InsD) (w : World) [h : Shows w F l [v]] : Calls Tryz.prog 38 #[v] w fun e w' => e = .returned (.bool (l.all insOk)) ∧ Step w w' := by
  have kk := h.known
  obtain ⟨a, cap, cl, FF, hv, _, hvw, hr, hml⟩ := list_open h.is
  cases hv
  clear h
  unfold maxLen at hml
  go_enter Tryz.func38, Tryz.ntmps38
  go_wp2
  go_loopw [7] (fun i wr => ∃ k : Nat, k ≤ l.length ∧ i = .int .i64 k ∧ Step w wr ∧ Hid (∀ j : Nat, j < k → ∀ x, l[j]? = some x → insOk x = true)) (fun i _ => l.length - (intOf i).toNat)
  case atStart => exact ⟨0, by omega, rfl, mkStep, fun j hj => by omega⟩
  case round =>
    obtain ⟨k, hk, rfl, st, heq⟩ := hrel
    by_cases hlt : k < l.length
    · clear hk
      obtain ⟨b, o, G, cs, rfl, hG, hI, hc, ho⟩ := hvw.row hr rfl (by decide) k hlt
      have hI0 := hI
      obtain ⟨rfl, rfl, i0, i1, i2⟩ := ins_open hI0
      have ke : Known w _ l[k] _ := ⟨hI⟩
      have c0 := (hc 0 _ rfl).1
      replace c0 : w.cell? ⟨b, o + k * 3, none⟩ = _ := c0
      have c1 := (hc 1 _ rfl).1
      replace c1 : w.cell? ⟨b, o + k * 3 + 1, none⟩ = _ := c1
      have c2 := (hc 2 _ rfl).1
      replace c2 : w.cell? ⟨b, o + k * 3 + 2, none⟩ = _ := c2
      clear hc
      cases hq : insOk l[k]
      · go_wp2_with (first | (go_at_call 62; (with_reducible refine Calls.mono (sinsok ..) ?_); rintro e wk ⟨rfl, st⟩))
        go_ret
        exact ⟨by rw [all_no hlt hq]; rfl, mkStep⟩
      · go_wp2_with (first | (go_at_call 62; (with_reducible refine Calls.mono (sinsok ..) ?_); rintro e wk ⟨rfl, st⟩))
        go_roundw
        case rel => exact ⟨k + 1, by omega, by go_num, mkStep, all_step hlt hq heq.out⟩
        case measure => simp [intOf]; omega
    · have hq := hid (all_yes (p := insOk) (by omega) heq.out)
      go_wp2_with (first | (go_at_call 62; (with_reducible refine Calls.mono (sinsok ..) ?_); rintro e wk ⟨rfl, st⟩))
      go_ret
      exact ⟨by rw [hq.out]; rfl, mkStep⟩

theorem flat_take (l : List InsD) (k : Nat) : (l.take k).flatMap insVs = (l.flatMap insVs).take (3 * k) := by
  induction l generalizing k with
  | nil => simp
  | cons i l ih =>
    cases k with
    | zero => simp
    | succ k =>
      rw [List.take_succ_cons, List.flatMap_cons, List.flatMap_cons, ih k, show 3 * (k + 1) = (insVs i).length + 3 * k by rw [insVs_len]; omega, List.take_length_add_append]
theorem flat_drop (l : List InsD) (k : Nat) : (l.drop k).flatMap insVs = (l.flatMap insVs).drop (3 * k) := by
  induction l generalizing k with
  | nil => simp
  | cons i l ih =>
    cases k with
    | zero => simp
    | succ k =>
      rw [List.drop_succ_cons, List.flatMap_cons, ih k, show 3 * (k + 1) = (insVs i).length + 3 * k by rw [insVs_len]; omega, List.drop_length_add_append]
/-- The first of a view's elements. -/
theorem View.pre {w : World} {a : Option Addr} {s n : Nat} {xs : List Value} (h : View w a s n xs) (k : Nat) (hk : k ≤ n) : View w a s k (xs.take (k * s)) := by
  refine ⟨by rw [List.length_take, h.len]; exact Nat.min_eq_left (Nat.mul_le_mul_right _ hk), fun h0 => ?_⟩
  obtain ⟨b, o, e, hc⟩ := h.cells (by omega)
  refine ⟨b, o, e, fun j u hj => hc j u ?_⟩
  rw [List.getElem?_take] at hj
  split at hj
  · exact hj
  · cases hj
/-- Those behind. -/
theorem View.suf {w : World} {b o s n : Nat} {xs : List Value} (h : View w (some ⟨b, o, none⟩) s n xs) (k : Nat) (hk : k ≤ n) : View w (some ⟨b, o + k * s, none⟩) s (n - k) (xs.drop (k * s)) := by
  refine ⟨by rw [List.length_drop, h.len, Nat.sub_mul], fun h0 => ⟨b, o + k * s, rfl, fun j u hj => ?_⟩⟩
  obtain ⟨b', o', e, hc⟩ := h.cells (by omega)
  cases e
  rw [List.getElem?_drop] at hj
  have := hc _ u hj
  rwa [← Nat.add_assoc] at this

theorem known_own {w : World} {B n cap : Nat} {e : TypeId} {ao : Option Addr} {xs : List Value} {r : List InsD} (h : w.ownsRow B e 3 (.slice ao n cap) n xs) (hx : xs = r.flatMap insVs) (hn : n = r.length) (h3 : ∀ i ∈ r, In3 i) : Known w (if r = [] then [] else blk ao) r [.slice ao n cap] := by
  subst hx hn
  exact ⟨inss_shut (ownsRow_view h) (ownsRow_cap h) h3⟩
theorem insVs_all (l : List InsD) : ∀ u ∈ l.flatMap insVs, u.oneCell' = true := by
  intro u hu
  obtain ⟨i, _, h⟩ := List.mem_flatMap.1 hu
  exact insVs_one i u h

theorem once_leaf {w w' : World} {l r : List InsD} {o : Option (List InsD)} {b : Bool} {u : Value} {G : List Nat} {e : Ending} (ho : o.isSome = b) (hr : o.getD l = r) (he : e = .returned (.tuple #[u, .bool b])) (hk : Known w' G r [u]) (hn : NewF w G) (st : Step w w') :
    ∃ u G, e = .returned (.tuple #[u, .bool o.isSome]) ∧ Known w' G (o.getD l) [u] ∧ NewF w G ∧ Step w w' := by subst ho hr; exact ⟨u, G, he, hk, hn, st⟩
theorem own_newf {W w : World} {B s n cap : Nat} {e : TypeId} {ao : Option Addr} {xs : List Value} (h : w.ownsRow B e s (.slice ao n cap) n xs) (hB : W.heap.size ≤ B) {r : List InsD} : NewF W (if r = [] then [] else blk ao) := ⟨by
  split
  · exact New.nil _
  · refine ⟨?_, fun b hb => Nat.le_trans hB (ownsRow_blk h b hb).1⟩
    cases ao <;> simp [blk]⟩
theorem once_flat (l x : List InsD) (k n : Nat) : (l.flatMap insVs).take (k * 3) ++ x.flatMap insVs ++ (l.flatMap insVs).drop ((k + n) * 3) = (l.take k ++ x ++ l.drop (k + n)).flatMap insVs := by
  rw [List.flatMap_append, List.flatMap_append, flat_take, flat_drop, Nat.mul_comm 3, Nat.mul_comm 3]

set_option maxHeartbeats 4000000 in
theorem sonce {F : List Nat} {v : Value} (l : List InsD) (w : World) (ho : l.all insOk = true) (hl : l.length ≤ 1048576) [h : Shows w F l [v]] :
    Calls Tryz.prog 39 #[v] w fun e w' => ∃ u G, e = .returned (.tuple #[u, .bool (onceP l).isSome]) ∧ Known w' G ((onceP l).getD l) [u] ∧ NewF w G ∧ Step w w' := by
  have kk := h.known
  obtain ⟨a, cap, hv, _, hvl, hml, h3⟩ := inss_open h.is
  cases hv
  obtain ⟨_, _, cl, FF, hv, _, hvw, hr, _⟩ := list_open h.is
  cases hv
  clear h
  unfold maxLen at hml
  go_enter Tryz.func39, Tryz.ntmps39
  go_wp2
  go_loopw [10] (fun i wr => ∃ k : Nat, k ≤ l.length ∧ i = .int .i64 k ∧ Step w wr ∧ Hid (∀ j : Nat, j < k → (tryP (l.drop j)).2 = 0)) (fun i _ => l.length - (intOf i).toNat)
  case atStart => exact ⟨0, by omega, rfl, mkStep, fun j hj => by omega⟩
  case round =>
    obtain ⟨k, hk, rfl, st, heq⟩ := hrel
    by_cases hlt : k < l.length
    · clear hk
      by_cases hn : (tryP (l.drop k)).2 = 0
      · have hnx : Hid (∀ j : Nat, j < k + 1 → (tryP (l.drop j)).2 = 0) := hid (fun j hj => by
          rcases Nat.lt_or_ge j k with h1 | h1
          · exact heq.out j h1
          · obtain rfl : j = k := by omega
            exact hn)
        go_wp2_with (first | (go_at_call 63; (with_reducible refine Calls.mono (stry _ _ _ (by assumption) (by assumption) (by assumption)) ?_); rintro e wk ⟨u, G, rfl, kt, st⟩))
        go_roundw
        case rel => exact ⟨k + 1, by omega, by go_num, mkStep, hnx⟩
        case measure => simp [intOf]; omega
      · have hr1 := hid (onceP_at hlt heq.out hn)
        have hfit := try_fits (l.drop k)
        obtain ⟨n, hnq⟩ : ∃ n, (tryP (l.drop k)).2 = n := ⟨_, rfl⟩
        have hln : k + n ≤ l.length := by have := hfit.1; rw [List.length_drop] at this; omega
        have hp : 0 < n := by omega
        have hx1 : (tryP (l.drop k)).1.length ≤ 1 := hfit.2.1
        rw [hnq] at hr1
        clear hfit hn
        obtain ⟨be, oe, rfl, _⟩ := hvl.cells (by omega)
        go_wp2_with fail
        with_reducible refine Calls.mono (stry l k _ hlt ho hl) ?_
        rintro e w2 ⟨u, G, rfl, kt, st2⟩
        generalize hxq : (tryP (l.drop k)).1 = x at *
        obtain ⟨ax, cx, hu, _, hvx, _, _⟩ := inss_open kt.is
        cases hu
        clear hxq kt
        by_cases hc1 : k + n = cap
        · subst hc1
          have hc2 : l.length = k + n := by omega
          go_wp2_with (first | (at_builtin; refine at_app (.tmp 21) (.tmp 24) rfl ?_; go_must (refine app_own _ rfl _ _ 50 rfl 110 (.agg #[.int .i64 0, .int .i64 0, .int .i64 0]) 3 24 Tryz.inss_tab w2.heap.size _ 0 0 [] rfl (own_litAt rfl rfl (Nat.le_refl _) (by unfold maxLen; omega) rfl) (some ⟨be, oe, none⟩) k _ ((l.flatMap insVs).take (k * 3)) rfl ((hvl.pre k (by omega)).fr0 mkFr) (fun u hu => insVs_all l u (List.mem_of_mem_take hu)) (by omega) (by simp) ?_); intro ao1 cap1 w3 hown1 f1; have s3 : Step w2 w3 := ⟨((Fr.refl [] w2).alloc _).trans f1 (fun x hx => .inr (by simp only [blk, List.mem_singleton] at hx; omega))⟩; have own1 : w3.ownsRow w2.heap.size 110 3 (.slice ao1 k cap1) k ((l.flatMap insVs).take (k * 3)) := (by simpa using hown1); clear hown1 f1) | (at_builtin; refine at_app (.tmp 25) (.tmp 26) rfl ?_; go_must (refine app_own _ rfl _ _ 50 rfl 110 (.agg #[.int .i64 0, .int .i64 0, .int .i64 0]) 3 24 Tryz.inss_tab w2.heap.size ao1 k cap1 ((l.flatMap insVs).take (k * 3)) rfl own1 ax x.length cx (x.flatMap insVs) rfl (hvx.fr0 mkFr) (insVs_all x) (by omega) s3.fr.size ?_); intro ao2 cap2 w4 hown2 f2; have s4 : Step w2 w4 := ⟨s3.fr.trans f2 (fun b hb => .inr (ownsRow_blk own1 b hb).1)⟩; clear f2) | (at_builtin; refine at_app (.tmp 28) (.tmp 33) rfl ?_; go_must (refine app_own _ rfl _ _ 50 rfl 110 (.agg #[.int .i64 0, .int .i64 0, .int .i64 0]) 3 24 Tryz.inss_tab w2.heap.size ao2 (k + x.length) cap2 _ rfl hown2 _ (k + n - (k + n)) _ [] rfl (by rw [Nat.sub_self]; exact View.nil ..) (by simp) (by omega) s4.fr.size ?_); intro ao3 cap3 w5 hown3 f3; have s5 : Step w2 w5 := ⟨s4.fr.trans f3 (fun b hb => .inr (ownsRow_blk hown2 b hb).1)⟩; clear f3))
          go_wp2
          go_ret2
          rw [Nat.sub_self, Nat.add_zero] at hown3
          have hlen : k + x.length = (l.take k ++ x ++ l.drop (k + n)).length := by simp only [List.length_append, List.length_take, List.length_drop]; omega
          have hfl := once_flat l x k n
          rw [show (k + n) * 3 = (l.flatMap insVs).length by rw [flat_length]; omega, List.drop_length] at hfl
          exact once_leaf (by rw [hr1.out]; rfl) (by rw [hr1.out]; rfl) rfl (known_own hown3 hfl hlen (ok_in3s (onceP_ok l ho hr1.out))) (own_newf hown3 (Nat.le_trans st.fr.size st2.fr.size)) mkStep
        · go_wp2_with (first | (at_builtin; refine at_app (.tmp 21) (.tmp 24) rfl ?_; go_must (refine app_own _ rfl _ _ 50 rfl 110 (.agg #[.int .i64 0, .int .i64 0, .int .i64 0]) 3 24 Tryz.inss_tab w2.heap.size _ 0 0 [] rfl (own_litAt rfl rfl (Nat.le_refl _) (by unfold maxLen; omega) rfl) (some ⟨be, oe, none⟩) k _ ((l.flatMap insVs).take (k * 3)) rfl ((hvl.pre k (by omega)).fr0 mkFr) (fun u hu => insVs_all l u (List.mem_of_mem_take hu)) (by omega) (by simp) ?_); intro ao1 cap1 w3 hown1 f1; have s3 : Step w2 w3 := ⟨((Fr.refl [] w2).alloc _).trans f1 (fun x hx => .inr (by simp only [blk, List.mem_singleton] at hx; omega))⟩; have own1 : w3.ownsRow w2.heap.size 110 3 (.slice ao1 k cap1) k ((l.flatMap insVs).take (k * 3)) := (by simpa using hown1); clear hown1 f1) | (at_builtin; refine at_app (.tmp 25) (.tmp 26) rfl ?_; go_must (refine app_own _ rfl _ _ 50 rfl 110 (.agg #[.int .i64 0, .int .i64 0, .int .i64 0]) 3 24 Tryz.inss_tab w2.heap.size ao1 k cap1 ((l.flatMap insVs).take (k * 3)) rfl own1 ax x.length cx (x.flatMap insVs) rfl (hvx.fr0 mkFr) (insVs_all x) (by omega) s3.fr.size ?_); intro ao2 cap2 w4 hown2 f2; have s4 : Step w2 w4 := ⟨s3.fr.trans f2 (fun b hb => .inr (ownsRow_blk own1 b hb).1)⟩; clear f2) | (at_builtin; refine at_app (.tmp 28) (.tmp 33) rfl ?_; go_must (refine app_own _ rfl _ _ 50 rfl 110 (.agg #[.int .i64 0, .int .i64 0, .int .i64 0]) 3 24 Tryz.inss_tab w2.heap.size ao2 (k + x.length) cap2 _ rfl hown2 (some ⟨be, oe + (k + n) * 3, none⟩) (l.length - (k + n)) _ ((l.flatMap insVs).drop ((k + n) * 3)) rfl ((hvl.suf (k + n) hln).fr0 mkFr) (fun u hu => insVs_all l u (List.mem_of_mem_drop hu)) (by omega) s4.fr.size ?_); intro ao3 cap3 w5 hown3 f3; have s5 : Step w2 w5 := ⟨s4.fr.trans f3 (fun b hb => .inr (ownsRow_blk hown2 b hb).1)⟩; clear f3))
          go_wp2
          go_ret2
          have hlen : k + x.length + (l.length - (k + n)) = (l.take k ++ x ++ l.drop (k + n)).length := by simp; omega
          exact once_leaf (by rw [hr1.out]; rfl) (by rw [hr1.out]; rfl) rfl (known_own hown3 (once_flat l x k n) hlen (ok_in3s (onceP_ok l ho hr1.out))) (own_newf hown3 (Nat.le_trans st.fr.size st2.fr.size)) mkStep
    · have hno := hid (onceP_no (fun j hj => heq.out j (by omega)))
      go_wp2_with (at_builtin; go_must (refine app_own _ rfl (.tmp 36) (.tmp 37) 50 rfl 110 (.agg #[.int .i64 0, .int .i64 0, .int .i64 0]) 3 24 Tryz.inss_tab wr.heap.size _ 0 0 [] rfl (own_litAt rfl rfl (Nat.le_refl _) (by unfold maxLen; omega) rfl) a l.length cap (l.flatMap insVs) rfl (hvl.fr0 mkFr) (insVs_all l) (by omega) (by simp) ?_); intro ao1 cap1 w3 hown1 f1; have s3 : Step wr w3 := ⟨((Fr.refl [] wr).alloc _).trans f1 (fun x hx => .inr (by simp only [blk, List.mem_singleton] at hx; omega))⟩; clear f1)
      go_ret2
      exact once_leaf (by rw [hno.out]; rfl) (by rw [hno.out]; rfl) rfl (known_own (n := l.length) (xs := l.flatMap insVs) (by simpa using hown1) rfl rfl h3) (own_newf hown1 st.fr.size) mkStep

def vlen : Value → Nat
  | .slice _ n _ => n
  | _ => 0
def vbit : Value → Nat
  | .bool true => 1
  | _ => 0
theorem peep_leaf {w w' : World} {r t : List InsD} {G : List Nat} {a : Option Addr} {cap : Nat} {e : Ending} (ht : t = r) (he : e = .returned (.slice a r.length cap)) (hk : Known w' G r [.slice a r.length cap]) (hn : NewF w G) (st : Step w w') :
    ∃ a cap G, e = .returned (.slice a t.length cap) ∧ Known w' G t [.slice a t.length cap] ∧ NewF w G ∧ Step w w' := by subst ht; exact ⟨a, cap, G, he, hk, hn, st⟩

/-- How far a body is: the rest goes on, if anything goes. -/
def BodyAt (l r : List InsD) (b : Bool) : Prop := (b = true → r.all insOk = true) ∧ peepBody l = (if b = true then bodyP r.length r else r)
theorem BodyAt.ok {l r : List InsD} (h : BodyAt l r true) : r.all insOk = true := h.1 rfl
theorem BodyAt.fin {l r : List InsD} (h : BodyAt l r false) : peepBody l = r := h.2
theorem bodyAt_start (l : List InsD) : BodyAt l l (l.all insOk) := ⟨fun h => h, rfl⟩
theorem bodyAt_step {l r : List InsD} (h : BodyAt l r true) : BodyAt l ((onceP r).getD r) (onceP r).isSome := by
  have ho := h.1 rfl
  have h2 := h.2
  rw [if_pos rfl] at h2
  unfold BodyAt
  cases e : onceP r with
  | none => rw [body_none e] at h2; exact ⟨nofun, h2⟩
  | some x => rw [body_some e] at h2; exact ⟨fun _ => onceP_ok r ho e, h2⟩
theorem once_less (r : List InsD) : ((onceP r).getD r).length + vbit (.bool (onceP r).isSome) < r.length + 1 := by
  cases e : onceP r with
  | none => simp [vbit]
  | some x => have := onceP_lt r e; simp [vbit]; omega
theorem spbody {F : List Nat} {v : Value} (l : List InsD) (w : World) (hl : l.length ≤ 1048576) [h : Shows w F l [v]] :
    Calls Tryz.prog 16 #[v] w fun e w' => ∃ a cap G, e = .returned (.slice a (peepBody l).length cap) ∧ Known w' G (peepBody l) [.slice a (peepBody l).length cap] ∧ NewF w G ∧ Step w w' := by
  have kk := h.known
  obtain ⟨a, cap, hv, _, hvl, hml, h3⟩ := inss_open h.is
  cases hv
  clear h
  unfold maxLen at hml
  go_enter Tryz.func16, Tryz.ntmps16
  go_wp2_with (at_builtin; go_must (refine app_own _ rfl (.tmp 5) (.tmp 6) 50 rfl 110 (.agg #[.int .i64 0, .int .i64 0, .int .i64 0]) 3 24 Tryz.inss_tab w.heap.size _ 0 0 [] rfl (own_litAt rfl rfl (Nat.le_refl _) (by unfold maxLen; omega) rfl) a l.length cap (l.flatMap insVs) rfl (hvl.fr0 mkFr) (insVs_all l) (by omega) (by simp) ?_); intro ao1 cap1 w3 hown1 f1; have s3 : Step w w3 := ⟨((Fr.refl [] w).alloc _).trans f1 (fun x hx => .inr (by simp only [blk, List.mem_singleton] at hx; omega))⟩; clear f1; have own1 : w3.ownsRow w.heap.size 110 3 (.slice ao1 l.length cap1) l.length (l.flatMap insVs) := (by simpa using hown1); clear hown1)
  with_reducible refine Calls.mono (sright l _) ?_
  rintro e w4 ⟨rfl, st4⟩
  have k3 := known_own own1 rfl rfl h3
  have n3 := own_newf (W := w) (r := l) own1 (Nat.le_refl _)
  go_wp2
  go_loopw [3, 4] (fun o g wr => ∃ (r : List InsD) (ar : Option Addr) (cr : Nat) (G : List Nat) (b : Bool), o = .slice ar r.length cr ∧ g = .bool b ∧ Known wr G r [.slice ar r.length cr] ∧ NewF w G ∧ r.length ≤ l.length ∧ Step w wr ∧ Hid (BodyAt l r b)) (fun o g _ => vlen o + vbit g)
  case atStart => exact ⟨l, ao1, cap1, _, l.all insOk, rfl, rfl, ⟨Rep.fr0 k3.is st4.fr⟩, n3, Nat.le_refl _, mkStep, hid (bodyAt_start l)⟩
  case round =>
    obtain ⟨r, ar, cr, G, b, rfl, rfl, kr, nr, hlr, st, hb⟩ := hrel
    cases b
    · have hq := hid (show peepBody l = r from hb.out.fin)
      go_wp2
      go_ret
      exact peep_leaf hq.out rfl kr nr mkStep
    · have hq := hid (bodyAt_step hb.out)
      have hms := once_less r
      have hln := onceP_len r
      go_wp2_with fail
      with_reducible refine Calls.mono (sonce r _ hb.out.ok (by omega)) ?_
      rintro e w5 ⟨u, G5, rfl, k5, n5, st5⟩
      obtain ⟨au, cu, hu, _, _, _, _⟩ := inss_open k5.is
      cases hu
      go_wp2_with fail
      go_roundw
      case rel => exact ⟨_, au, cu, G5, _, rfl, rfl, k5, ⟨n5.is.mono st.fr.size⟩, by omega, mkStep, hq⟩
      case measure => simpa [vlen, vbit] using hms
end Go.Proofs.YtnldaicibnkeoaaGreatDoor
namespace Go.Proofs.YtnldaicibnkeoaaGreatDoor
attribute [local go_sem ↓] Go.wp_at_zero Go.wp_at_succ
open Go.RowKit
open Rep (Is sz)

theorem iop {F : List Nat} {v : Value} {p : Nat} (l : List InsD) (k : Nat) (i o : Int) (w : World) (hi : i = k) (ho : opAt l k = o) (hp : w.cell? ⟨p, 0, none⟩ = some v) [h : Shows w F l [v]] :
    Calls Tryz.prog 90 #[.int .i64 i, .pointer (some ⟨p, 0, none⟩)] w fun e w' => e = .returned (.int .i64 o) ∧ Step w w' := by
  subst hi
  obtain ⟨a, cap, cl, FF, hv, _, hvw, hr, hml⟩ := list_open h.is
  cases hv
  clear h
  unfold maxLen at hml
  by_cases hlt : k < l.length
  · have he := hid ((opAt_in hlt).symm.trans ho)
    obtain ⟨b, o, G, cs, rfl, hG, hI, hc, ho⟩ := hvw.row hr rfl (by decide) k hlt
    have hI0 := hI
    obtain ⟨rfl, rfl, i0, i1, i2⟩ := ins_open hI0
    have ke : Known w _ l[k] _ := ⟨hI⟩
    have c0 := (hc 0 _ rfl).1
    replace c0 : w.cell? ⟨b, o + k * 3, none⟩ = _ := c0
    have c1 := (hc 1 _ rfl).1
    replace c1 : w.cell? ⟨b, o + k * 3 + 1, none⟩ = _ := c1
    have c2 := (hc 2 _ rfl).1
    replace c2 : w.cell? ⟨b, o + k * 3 + 2, none⟩ = _ := c2
    clear hc
    go_enter Tryz.func90, Tryz.ntmps90
    go_wp2
    go_ret
    exact ⟨by rw [← he.out]; rfl, mkStep⟩
  · have he := hid ((opAt_out (by omega)).symm.trans ho)
    go_enter Tryz.func90, Tryz.ntmps90
    go_wp2
    go_ret
    exact ⟨by rw [← he.out]; rfl, mkStep⟩

theorem argAt_cell {w : World} {b o n : Nat} {l : List InsD} (h : View w (some ⟨b, o, none⟩) 3 n (l.flatMap insVs)) (hn : 0 < n) (k : Nat) (hk : k < l.length) : w.cell? ⟨b, o + (3 * k + 1), none⟩ = some (.int .i64 (argAt l k)) := by
  obtain ⟨b', o', e, hc⟩ := h.cells hn
  cases e
  refine (hc (3 * k + 1) _ ?_).1
  have h1 : l.flatMap insVs = (l.take k).flatMap insVs ++ (insVs l[k] ++ (l.drop (k + 1)).flatMap insVs) := by
    have h2 : l = l.take k ++ (l[k] :: l.drop (k + 1)) := by rw [← List.drop_eq_getElem_cons hk, List.take_append_drop]
    rw [← List.flatMap_cons, ← List.flatMap_append, ← h2]
  have h3 : ((l.take k).flatMap insVs).length = 3 * k := by rw [flat_length, List.length_take, Nat.min_eq_left (by omega)]
  rw [h1, List.getElem?_append_right (by omega), h3, argAt_in hk]
  have h4 : 3 * k + 1 - 3 * k = 1 := by omega
  rw [h4]
  rfl
end Go.Proofs.YtnldaicibnkeoaaGreatDoor
