/- Contracts: Prefix, Same, Agree, both sides. -/
import Derived.Test.YtmepniddkajckaaRes
namespace Go.Proofs.Ytmepniddkajckaa
attribute [local go_sem ↓] Go.wp_at_zero Go.wp_at_succ
open Go.RowKit
open Rep (Is sz)

/-- The first n numbers are the other's. -/
theorem take_all {α : Type} [DecidableEq α] {l m : List α} {k : Nat} (hl : l.length ≤ m.length) (hk : l.length ≤ k) (h : ∀ j : Nat, j < k → l[j]? = m[j]?) : decide (l = m.take l.length) = true :=
  upto_all (k := l.length) (by rw [List.length_take]; omega) (Nat.le_refl _) (fun j hj => by rw [h j (by omega), List.getElem?_take_of_lt hj])

theorem take_ne {α : Type} [DecidableEq α] {l m : List α} {k : Nat} (hl : k < l.length) (hm : k < m.length) (he : l[k] ≠ m[k]) : decide (l = m.take l.length) = false := by
  rw [decide_eq_false_iff_not]
  intro e
  have h1 := congrArg (fun x : List α => x[k]?) e
  simp only [List.getElem?_take_of_lt hl, List.getElem?_eq_getElem hl, List.getElem?_eq_getElem hm, Option.some.injEq] at h1
  exact he h1

theorem sprefix_any {F G : List Nat} (r q : Res) (cs ds : List Value) (w : World) (h : Is w F r cs) (h' : Is w G q ds) :
    Calls Try.prog 13 #[.agg cs.toArray, .agg ds.toArray] w fun e w' => e = .returned (.bool (decide (r.out = q.out.take r.out.length))) ∧ Fr [] w w' := by
  obtain ⟨a1, k1, a2, k2, F1, F2, rfl, rfl, g1, g2, i1, i2, i3, i4⟩ := res_open h
  obtain ⟨b1, m1, b2, m2, G1, G2, rfl, rfl, p1, p2, j1, j2, j3, j4⟩ := res_open h'
  obtain ⟨c1, k3, e1, _, hv1, hin1, hm1⟩ := ints_open g1
  obtain ⟨c2, k4, e2, _, hv2, hin2, hm2⟩ := ints_open p1
  simp only [List.cons.injEq, Value.slice.injEq, and_true, true_and] at e1 e2
  obtain ⟨rfl, rfl⟩ := e1
  obtain ⟨rfl, rfl⟩ := e2
  unfold maxLen at hm1 hm2
  go_enter Try.func13, Try.ntmps13
  by_cases hl : r.out.length ≤ q.out.length
  · have hl' : ¬ q.out.length < r.out.length := by omega
    go_wp2
    go_loopw [16] (fun i wr => ∃ k : Nat, k ≤ r.out.length ∧ i = .int .i64 k ∧ Fr [] w wr ∧ Box wr w.heap.size #[.int .i64 r.fin, .int .i64 r.why, .int .i64 r.n, .slice a1 r.out.length k1, .int .i64 r.steps, .slice a2 r.globals.length k2] ∧ Box wr (w.heap.size + 1) #[.int .i64 q.fin, .int .i64 q.why, .int .i64 q.n, .slice b1 q.out.length m1, .int .i64 q.steps, .slice b2 q.globals.length m2] ∧ Hid (∀ j : Nat, j < k → r.out[j]? = q.out[j]?)) (fun i _ => r.out.length - (intOf i).toNat)
    case atStart => exact ⟨0, by omega, rfl, by with_reducible repeat (first | exact Fr.refl _ _ | assumption | refine Fr.alloc ?_ _ | refine Fr.drew ?_ | (refine Fr.setCell ?_ (.inr ?_) _; rotate_left; focus (first | (simp; done) | (simp; omega))) | (refine Fr.setCell ?_ (.inl ?_) _; rotate_left; focus (simp; done))), by with_reducible repeat (first | assumption | (apply Box.newAt; simp; done) | apply Box.alloc | apply Box.drew | apply Box.set | (apply Box.other; focus omega)), by with_reducible repeat (first | assumption | (apply Box.newAt; simp; done) | apply Box.alloc | apply Box.drew | apply Box.set | (apply Box.other; focus omega)), fun j hj => by omega⟩
    case round =>
      obtain ⟨k, hk, rfl, hf, BA, BB, heq⟩ := hrel
      by_cases hlt : k < r.out.length
      · obtain ⟨b, o, rfl, hc⟩ := (hv1.fr0 hf).at (by omega)
        obtain ⟨b', o', rfl, hc'⟩ := (hv2.fr0 hf).at (by omega)
        have hc := hc k (by rw [intVs_length]; exact hlt)
        have hc' := hc' k (by rw [intVs_length]; omega)
        simp only [intVs, List.getElem_map] at hc hc'
        have b1 : (0 : Int) ≤ (k : Int) := by omega
        have b2 : (k : Int) < (r.out.length : Int) := by omega
        have b3 : (k : Int) < (q.out.length : Int) := by omega
        go_wp2_with fail
        refine rg_begin (n := 11) (Fr [] wr) (by kernel_rfl) rfl ?_
        have rg0 := (show (Fr [] wr) (World.drew _) from (Fr.refl [] wr).drew)
        refine rg_read (i := 0) (a1 := _) rfl (by kernel_rfl) rfl (by simp) (by intro wq hwq; go_wp2; exact ⟨rfl, rfl⟩) rg0 ?_
        refine rg_read (i := 1) (a1 := _) rfl (by kernel_rfl) rfl (by simp) (by intro wq hwq; have q1 := hwq.cell_some hc (by simp); have q2 := hwq.cell_some hc' (by simp); have q3 := (BA.fr0 hwq).cell_eq; have q4 := (BB.fr0 hwq).cell_eq; go_wp2; exact ⟨rfl, rfl⟩) rg0 ?_
        refine rg_read (i := 2) (a1 := _) rfl (by kernel_rfl) rfl (by simp) (by intro wq hwq; go_wp2; exact ⟨rfl, rfl⟩) rg0 ?_
        refine rg_read (i := 3) (a1 := _) rfl (by kernel_rfl) rfl (by simp) (by intro wq hwq; go_wp2; exact ⟨rfl, rfl⟩) rg0 ?_
        refine rg_read (i := 4) (a1 := _) rfl (by kernel_rfl) rfl (by simp) (by intro wq hwq; have q1 := hwq.cell_some hc (by simp); have q2 := hwq.cell_some hc' (by simp); have q3 := (BA.fr0 hwq).cell_eq; have q4 := (BB.fr0 hwq).cell_eq; go_wp2; exact ⟨rfl, rfl⟩) rg0 ?_
        refine rg_read (i := 5) (a1 := _) rfl (by kernel_rfl) rfl (by simp) (by intro wq hwq; go_wp2; exact ⟨rfl, rfl⟩) rg0 ?_
        refine rg_read (i := 6) (a1 := _) rfl (by kernel_rfl) rfl (by simp) (by intro wq hwq; have q1 := hwq.cell_some hc (by simp); have q2 := hwq.cell_some hc' (by simp); have q3 := (BA.fr0 hwq).cell_eq; have q4 := (BB.fr0 hwq).cell_eq; go_wp2; exact ⟨rfl, rfl⟩) rg0 ?_
        refine rg_read (i := 7) (a1 := _) rfl (by kernel_rfl) rfl (by simp) (by intro wq hwq; go_wp2; exact ⟨rfl, rfl⟩) rg0 ?_
        refine rg_read (i := 8) (a1 := _) rfl (by kernel_rfl) rfl (by simp) (by intro wq hwq; go_wp2; exact ⟨rfl, rfl⟩) rg0 ?_
        refine rg_read (i := 9) (a1 := _) rfl (by kernel_rfl) rfl (by simp) (by intro wq hwq; have q1 := hwq.cell_some hc (by simp); have q2 := hwq.cell_some hc' (by simp); have q3 := (BA.fr0 hwq).cell_eq; have q4 := (BB.fr0 hwq).cell_eq; go_wp2; exact ⟨rfl, rfl⟩) rg0 ?_
        refine rg_read (i := 10) (a1 := _) rfl (by kernel_rfl) rfl (by simp) (by intro wq hwq; go_wp2; exact ⟨rfl, rfl⟩) rg0 ?_
        refine rg_done (by kernel_rfl) ?_
        by_cases he : r.out[k] = q.out[k]
        · go_wp2
          go_roundw
          case rel => exact ⟨k + 1, by omega, by go_num, hf.drew, BA.drew, BB.drew, upto_step heq.out hlt (by omega) he⟩
          case measure => simp [intOf]; omega
        · go_wp2
          go_ret
          exact ⟨by rw [take_ne hlt (by omega) he]; rfl, hf.drew⟩
      · go_wp2
        go_ret
        exact ⟨by rw [take_all hl (by omega) heq.out]; rfl, hf⟩
  · have e : decide (r.out = q.out.take r.out.length) = false := by
      rw [decide_eq_false_iff_not]
      intro e
      have := congrArg List.length e
      rw [List.length_take] at this
      omega
    go_wp2
    go_ret
    exact ⟨by rw [e]; rfl, by with_reducible repeat (first | exact Fr.refl _ _ | assumption | refine Fr.alloc ?_ _ | refine Fr.drew ?_ | (refine Fr.setCell ?_ (.inr ?_) _; rotate_left; focus (first | (simp; done) | (simp; omega))) | (refine Fr.setCell ?_ (.inl ?_) _; rotate_left; focus (simp; done)))⟩

theorem equalInts_any (l m : List Int) (a a' : Option Addr) (cap cap' : Nat) (w : World) (hv : View w a 1 l.length (intVs l)) (hv' : View w a' 1 m.length (intVs m)) (hml : l.length ≤ maxLen) :
    Calls Try.prog 36 #[.slice a l.length cap, .slice a' m.length cap'] w fun e w' => e = .returned (.bool (decide (l = m))) ∧ Fr [] w w' := by
  unfold maxLen at hml
  go_enter Try.func36, Try.ntmps36
  by_cases hl : l.length = m.length
  · go_wp2
    replace hl := hid hl
    go_loopw [13] (fun i wr => ∃ k : Nat, k ≤ l.length ∧ i = .int .i64 k ∧ Fr [] w wr ∧ Hid (∀ j : Nat, j < k → l[j]? = m[j]?)) (fun i _ => l.length - (intOf i).toNat)
    case atStart => exact ⟨0, by omega, rfl, Fr.refl _ _, fun j hj => by omega⟩
    case round =>
      obtain ⟨k, hk, rfl, hf, heq⟩ := hrel
      by_cases hlt : k < l.length
      · obtain ⟨b, o, rfl, hc⟩ := (hv.fr0 hf).at (by omega)
        obtain ⟨b', o', rfl, hc'⟩ := (hv'.fr0 hf).at (by rw [← hl.out]; omega)
        have hc := hc k (by rw [intVs_length]; exact hlt)
        have hc' := hc' k (by rw [intVs_length, ← hl.out]; exact hlt)
        simp only [intVs, List.getElem_map] at hc hc'
        have b1 : (0 : Int) ≤ (k : Int) := by omega
        have b2 : (k : Int) < (l.length : Int) := by omega
        have b3 : (k : Int) < (m.length : Int) := by rw [← hl.out]; omega
        go_wp2_with fail
        refine rg_begin (n := 9) (Fr [] wr) (by kernel_rfl) rfl ?_
        have rg0 := (show (Fr [] wr) (World.drew _) from (Fr.refl [] wr).drew)
        refine rg_read (i := 0) (a1 := _) rfl (by kernel_rfl) rfl (by simp) (by intro wq hwq; go_wp2; exact ⟨rfl, rfl⟩) rg0 ?_
        refine rg_read (i := 1) (a1 := _) rfl (by kernel_rfl) rfl (by simp) (by intro wq hwq; go_wp2; exact ⟨rfl, rfl⟩) rg0 ?_
        refine rg_read (i := 2) (a1 := _) rfl (by kernel_rfl) rfl (by simp) (by intro wq hwq; go_wp2; exact ⟨rfl, rfl⟩) rg0 ?_
        refine rg_read (i := 3) (a1 := _) rfl (by kernel_rfl) rfl (by simp) (by intro wq hwq; have q1 := hwq.cell_some hc (by simp); have q2 := hwq.cell_some hc' (by simp); go_wp2; exact ⟨rfl, rfl⟩) rg0 ?_
        refine rg_read (i := 4) (a1 := _) rfl (by kernel_rfl) rfl (by simp) (by intro wq hwq; go_wp2; exact ⟨rfl, rfl⟩) rg0 ?_
        refine rg_read (i := 5) (a1 := _) rfl (by kernel_rfl) rfl (by simp) (by intro wq hwq; go_wp2; exact ⟨rfl, rfl⟩) rg0 ?_
        refine rg_read (i := 6) (a1 := _) rfl (by kernel_rfl) rfl (by simp) (by intro wq hwq; go_wp2; exact ⟨rfl, rfl⟩) rg0 ?_
        refine rg_read (i := 7) (a1 := _) rfl (by kernel_rfl) rfl (by simp) (by intro wq hwq; have q1 := hwq.cell_some hc (by simp); have q2 := hwq.cell_some hc' (by simp); go_wp2; exact ⟨rfl, rfl⟩) rg0 ?_
        refine rg_read (i := 8) (a1 := _) rfl (by kernel_rfl) rfl (by simp) (by intro wq hwq; go_wp2; exact ⟨rfl, rfl⟩) rg0 ?_
        refine rg_done (by kernel_rfl) ?_
        by_cases he : l[k] = m[k]
        · go_wp2
          go_roundw
          case rel => exact ⟨k + 1, by omega, by go_num, hf.drew, upto_step heq.out hlt (by rw [← hl.out]; exact hlt) he⟩
          case measure => simp [intOf]; omega
        · go_wp2
          go_ret
          exact ⟨by rw [upto_ne hlt (by rw [← hl.out]; exact hlt) he]; rfl, hf.drew⟩
      · have hlt' : ¬ k < m.length := by rw [← hl.out]; exact hlt
        go_wp2
        go_ret
        exact ⟨by rw [upto_all hl.out (by omega) heq.out]; rfl, hf⟩
  · go_wp2
    go_ret
    exact ⟨by simp; intro e; exact hl (by rw [e]), Fr.refl _ _⟩

theorem begin_any {F G : List Nat} (l m : List Int) (a a' : Option Addr) (cap cap' : Nat) (w : World) (h : Is w F l [.slice a l.length cap]) (h' : Is w G m [.slice a' m.length cap']) :
    Calls Try.prog 29 #[.slice a l.length cap, .slice a' m.length cap'] w fun e w' => e = .returned (.bool (decide (l = m.take l.length))) ∧ Fr [] w w' := by
  obtain ⟨c1, k3, e1, _, hv1, hin1, hm1⟩ := ints_open h
  obtain ⟨c2, k4, e2, _, hv2, hin2, hm2⟩ := ints_open h'
  simp only [List.cons.injEq, Value.slice.injEq, and_true, true_and] at e1 e2
  obtain ⟨rfl, rfl⟩ := e1
  obtain ⟨rfl, rfl⟩ := e2
  unfold maxLen at hm1 hm2
  go_enter Try.func29, Try.ntmps29
  by_cases hl : l.length ≤ m.length
  · have hl' : ¬ m.length < l.length := by omega
    have hlc : l.length ≤ cap' := by omega
    have hlt : (m.take l.length).length = l.length := by rw [List.length_take]; omega
    have hvt : View w a' 1 l.length (intVs (m.take l.length)) := by
      refine ⟨by rw [intVs_length, hlt]; omega, fun hn => ?_⟩
      obtain ⟨b, o, ha, hc⟩ := hv2.cells (by omega)
      refine ⟨b, o, ha, fun j u hj => hc j u ?_⟩
      unfold intVs at hj ⊢
      rw [List.map_take] at hj
      have hjl := (List.getElem?_eq_some_iff.1 hj).1
      rw [List.length_take] at hjl
      rwa [List.getElem?_take_of_lt (by omega)] at hj
    go_wp2_with fail
    have hq := equalInts_any l (m.take l.length) a a' cap cap' w hv1 (by rw [hlt]; exact hvt) (by unfold maxLen; omega)
    rw [hlt] at hq
    with_reducible refine hq.mono ?_
    rintro e w2 ⟨rfl, hf2⟩
    go_wp2
    go_ret
    exact ⟨rfl, hf2⟩
  · have e : decide (l = m.take l.length) = false := by
      rw [decide_eq_false_iff_not]
      intro e
      have := congrArg List.length e
      rw [List.length_take] at this
      omega
    go_wp2
    go_ret
    exact ⟨by rw [e]; rfl, by with_reducible repeat (first | exact Fr.refl _ _ | assumption | refine Fr.alloc ?_ _ | refine Fr.drew ?_ | (refine Fr.setCell ?_ (.inr ?_) _; rotate_left; focus (first | (simp; done) | (simp; omega))) | (refine Fr.setCell ?_ (.inl ?_) _; rotate_left; focus (simp; done)))⟩

theorem iprefix_any {F G : List Nat} (r q : Res) (cs ds : List Value) (w : World) (h : Is w F r cs) (h' : Is w G q ds) :
    Calls Try.prog 15 #[.agg cs.toArray, .agg ds.toArray] w fun e w' => e = .returned (.bool (decide (r.out = q.out.take r.out.length))) ∧ Fr [] w w' := by
  obtain ⟨a1, k1, a2, k2, F1, F2, rfl, rfl, g1, g2, i1, i2, i3, i4⟩ := res_open h
  obtain ⟨b1, m1, b2, m2, G1, G2, rfl, rfl, p1, p2, j1, j2, j3, j4⟩ := res_open h'
  go_enter Try.func15, Try.ntmps15
  go_wp2_with fail
  with_reducible refine (begin_any r.out q.out _ _ _ _ _ (g1.fr0 (by with_reducible repeat (first | exact Fr.refl _ _ | assumption | refine Fr.alloc ?_ _ | refine Fr.drew ?_ | (refine Fr.setCell ?_ (.inr ?_) _; rotate_left; focus (first | (simp; done) | (simp; omega))) | (refine Fr.setCell ?_ (.inl ?_) _; rotate_left; focus (simp; done))))) (p1.fr0 (by with_reducible repeat (first | exact Fr.refl _ _ | assumption | refine Fr.alloc ?_ _ | refine Fr.drew ?_ | (refine Fr.setCell ?_ (.inr ?_) _; rotate_left; focus (first | (simp; done) | (simp; omega))) | (refine Fr.setCell ?_ (.inl ?_) _; rotate_left; focus (simp; done)))))).mono ?_
  rintro e w2 ⟨rfl, hf2⟩
  go_wp2
  go_ret
  exact ⟨rfl, hf2.un.un⟩
end Go.Proofs.Ytmepniddkajckaa
