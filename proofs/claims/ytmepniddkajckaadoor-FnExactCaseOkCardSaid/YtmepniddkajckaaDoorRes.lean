/- Contracts: the laws' own helpers for Result. -/
import Derived.Test.YtmepniddkajckaaDoorInts
namespace Go.Proofs.YtmepniddkajckaaDoor
attribute [local go_sem ↓] Go.wp_at_zero Go.wp_at_succ
open Go.RowKit
open Rep (Is sz)

@[ext] structure Res where
  fin : Int
  why : Int
  n : Int
  out : List Int
  steps : Int
  globals : List Int
  deriving DecidableEq

instance : Rep Res := Rep.via fun r => (r.fin, r.why, r.n, r.out, r.steps, r.globals)

theorem res_open {w : World} {F : List Nat} {r : Res} {cs : List Value} (h : Is w F r cs) :
    ∃ a1 k1 a2 k2 F1 F2, cs = [.int .i64 r.fin, .int .i64 r.why, .int .i64 r.n, .slice a1 r.out.length k1, .int .i64 r.steps, .slice a2 r.globals.length k2] ∧ F = F1 ++ F2 ∧ Is w F1 r.out [.slice a1 r.out.length k1] ∧ Is w F2 r.globals [.slice a2 r.globals.length k2] ∧
      In64 r.fin ∧ In64 r.why ∧ In64 r.n ∧ In64 r.steps := by
  obtain ⟨_, _, _, _, rfl, rfl, ⟨rfl, rfl, i1⟩, _, _, _, _, rfl, rfl, ⟨rfl, rfl, i2⟩, _, _, _, _, rfl, rfl, ⟨rfl, rfl, i3⟩, F1, _, c1, _, rfl, rfl, h1, _, F2, _, c2, rfl, rfl, ⟨rfl, rfl, i4⟩, h2⟩ := h
  obtain ⟨a1, k1, rfl⟩ := slice_form h1
  obtain ⟨a2, k2, rfl⟩ := slice_form h2
  exact ⟨a1, k1, a2, k2, F1, F2, rfl, rfl, h1, h2, i1, i2, i3, i4⟩

theorem res_shut {w : World} {F1 F2 : List Nat} {r : Res} {s1 s2 : Value} (h1 : Is w F1 r.out [s1]) (h2 : Is w F2 r.globals [s2]) (i1 : In64 r.fin) (i2 : In64 r.why) (i3 : In64 r.n) (i4 : In64 r.steps) :
    Is w (F1 ++ F2) r [.int .i64 r.fin, .int .i64 r.why, .int .i64 r.n, s1, .int .i64 r.steps, s2] :=
  ⟨[], F1 ++ F2, [_], _, rfl, rfl, ⟨rfl, rfl, i1⟩, [], F1 ++ F2, [_], _, rfl, rfl, ⟨rfl, rfl, i2⟩, [], F1 ++ F2, [_], _, rfl, rfl, ⟨rfl, rfl, i3⟩, F1, F2, [s1], _, rfl, rfl, h1, [], F2, [_], [s2], rfl, rfl, ⟨rfl, rfl, i4⟩, h2⟩

theorem szRes_any {F : List Nat} (r : Res) (cs : List Value) (left : Int) (w : World) (h : Is w F r cs) (h0 : 0 ≤ left) (h1 : left ≤ 1048576) :
    Calls Tryd.prog 17 #[.agg cs.toArray, .int .i64 left] w fun e w' =>
      e = .returned (.int .i64 (if left - r.out.length - r.globals.length < 0 then -1 else left - r.out.length - r.globals.length)) ∧ Fr [] w w' := by
  obtain ⟨a1, k1, a2, k2, F1, F2, rfl, rfl, g1, g2, i1, i2, i3, i4⟩ := res_open h
  go_enter Tryd.func17, Tryd.ntmps17
  go_wp2_with fail
  with_reducible refine (szInts_any r.out _ left _ (g1.fr0 ((Fr.refl [] w).alloc _)) h0 h1).mono ?_
  rintro e w2 ⟨rfl, hf2⟩
  have hb := box_cell hf2 (by simp) 5 _ rfl
  have hf3 := ((Fr.refl [] w).alloc _).trans0 hf2
  by_cases c1 : left - r.out.length < 0
  · have c2 : left - r.out.length - r.globals.length < 0 := by omega
    go_wp2
    go_ret
    exact ⟨rfl, hf3⟩
  · rw [if_neg c1]
    go_wp2_with fail
    with_reducible refine (szInts_any r.globals _ _ _ (g2.fr0 hf3) (by omega) (by omega)).mono ?_
    rintro e w4 ⟨rfl, hf4⟩
    by_cases c2 : left - r.out.length - r.globals.length < 0
    · go_wp2
      go_ret
      exact ⟨rfl, hf3.trans0 hf4⟩
    · go_wp2
      go_ret
      exact ⟨rfl, hf3.trans0 hf4⟩

theorem eqRes_any {F G : List Nat} (r q : Res) (cs ds : List Value) (w : World) (h : Is w F r cs) (h' : Is w G q ds) :
    Calls Tryd.prog 21 #[.agg cs.toArray, .agg ds.toArray] w fun e w' => e = .returned (.bool (decide (r = q))) ∧ Fr [] w w' := by
  obtain ⟨a1, k1, a2, k2, F1, F2, rfl, rfl, g1, g2, i1, i2, i3, i4⟩ := res_open h
  obtain ⟨b1, m1, b2, m2, G1, G2, rfl, rfl, p1, p2, j1, j2, j3, j4⟩ := res_open h'
  have no : ∀ {p : Prop}, (r = q → p) → ¬ p → decide (r = q) = false := fun h1 h2 => decide_eq_false_iff_not.2 (fun e => h2 (h1 e))
  go_enter Tryd.func21, Tryd.ntmps21
  by_cases c1 : r.fin = q.fin
  · by_cases c2 : r.why = q.why
    · by_cases c3 : r.n = q.n
      · go_wp2_with fail
        with_reducible refine (eqInts_any r.out q.out _ _ _ (g1.fr0 (((Fr.refl [] w).alloc _).alloc _)) (p1.fr0 (((Fr.refl [] w).alloc _).alloc _))).mono ?_
        rintro e w2 ⟨rfl, hf2⟩
        have ca := ((Box.new _ _ _).fr0 hf2.un).cell_eq
        have cb := (((Box.new _ _ _).fr0 hf2).at (w.heap.size + 1) (by simp)).cell_eq
        have hf3 := hf2.un.un
        by_cases c4 : r.out = q.out
        · by_cases c5 : r.steps = q.steps
          · go_wp2_with fail
            with_reducible refine (eqInts_any r.globals q.globals _ _ _ (g2.fr0 hf3) (p2.fr0 hf3)).mono ?_
            rintro e w4 ⟨rfl, hf4⟩
            by_cases c6 : r.globals = q.globals
            · have yes : decide (r = q) = true := decide_eq_true_iff.2 (Res.ext c1 c2 c3 c4 c5 c6)
              go_wp2
              go_ret
              exact ⟨by rw [yes]; rfl, hf3.trans0 hf4⟩
            · have := no (congrArg Res.globals) c6
              go_wp2
              go_ret
              exact ⟨by rw [this]; rfl, hf3.trans0 hf4⟩
          · have := no (congrArg Res.steps) c5
            go_wp2
            go_ret
            exact ⟨by rw [this]; rfl, hf3⟩
        · have := no (congrArg Res.out) c4
          go_wp2
          go_ret
          exact ⟨by rw [this]; rfl, hf3⟩
      · have := no (congrArg Res.n) c3
        go_wp2
        go_ret
        exact ⟨by rw [this]; rfl, ((Fr.refl [] w).alloc _).alloc _⟩
    · have := no (congrArg Res.why) c2
      go_wp2
      go_ret
      exact ⟨by rw [this]; rfl, ((Fr.refl [] w).alloc _).alloc _⟩
  · have := no (congrArg Res.fin) c1
    go_wp2
    go_ret
    exact ⟨by rw [this]; rfl, ((Fr.refl [] w).alloc _).alloc _⟩

theorem toRes_any {F : List Nat} (r : Res) (cs : List Value) (w : World) (h : Is w F r cs) (hs1 : r.out.length ≤ 1048576) (hs2 : r.globals.length ≤ 1048576) :
    Calls Tryd.prog 19 #[.agg cs.toArray] w fun e w' => ∃ ds G, e = .returned (.agg ds.toArray) ∧ Is w' G r ds ∧ New w.heap.size G ∧ Fr [] w w' := by
  obtain ⟨a1, k1, a2, k2, F1, F2, rfl, rfl, g1, g2, i1, i2, i3, i4⟩ := res_open h
  go_enter Tryd.func19, Tryd.ntmps19
  go_wp2_with fail
  with_reducible refine (toInts_any r.out _ _ (g1.fr0 (by with_reducible repeat (first | exact Fr.refl _ _ | assumption | refine Fr.alloc ?_ _ | refine Fr.drew ?_ | (refine Fr.setCell ?_ (.inr ?_) _; rotate_left; focus (first | (simp; done) | (simp; omega))) | (refine Fr.setCell ?_ (.inl ?_) _; rotate_left; focus (simp; done))))) hs1).mono ?_
  rintro e w2 ⟨b1, m1, H1, rfl, y1, n1, hf2⟩
  have ba := Box.fr0 (B := w.heap.size) (by with_reducible repeat (first | assumption | (apply Box.newAt; simp; done) | apply Box.alloc | apply Box.drew | apply Box.set | (apply Box.other; focus omega))) hf2; (try simp only [List.setIfInBounds_toArray, List.set_cons_succ, List.set_cons_zero] at ba); have ba_c := ba.cell_eq; have ba_l := ba.live; have ba_t := ba.lt
  have bb := Box.fr0 (B := w.heap.size + 1) (by with_reducible repeat (first | assumption | (apply Box.newAt; simp; done) | apply Box.alloc | apply Box.drew | apply Box.set | (apply Box.other; focus omega))) hf2; (try simp only [List.setIfInBounds_toArray, List.set_cons_succ, List.set_cons_zero] at bb); have bb_c := bb.cell_eq; have bb_l := bb.live; have bb_t := bb.lt
  have bc := Box.fr0 (B := w.heap.size + 1 + 1) (by with_reducible repeat (first | assumption | (apply Box.newAt; simp; done) | apply Box.alloc | apply Box.drew | apply Box.set | (apply Box.other; focus omega))) hf2; (try simp only [List.setIfInBounds_toArray, List.set_cons_succ, List.set_cons_zero] at bc); have bc_c := bc.cell_eq; have bc_l := bc.live; have bc_t := bc.lt
  have hf3 := hf2.un.un.un
  go_wp2_with fail
  with_reducible refine (toInts_any r.globals _ _ (g2.fr0 (by with_reducible repeat (first | exact Fr.refl _ _ | assumption | refine Fr.alloc ?_ _ | refine Fr.drew ?_ | (refine Fr.setCell ?_ (.inr ?_) _; rotate_left; focus (first | (simp; done) | (simp; omega))) | (refine Fr.setCell ?_ (.inl ?_) _; rotate_left; focus (simp; done))))) hs2).mono ?_
  rintro e w4 ⟨b2, m2, H2, rfl, y2, n2, hf4⟩
  have hf5 : Fr [w.heap.size + 1, w.heap.size + 1 + 1] w2 w4 := Fr.trans0 (by with_reducible repeat (first | exact Fr.refl _ _ | assumption | refine Fr.alloc ?_ _ | refine Fr.drew ?_ | (refine Fr.setCell ?_ (.inr ?_) _; rotate_left; focus (first | (simp; done) | (simp; omega))) | (refine Fr.setCell ?_ (.inl ?_) _; rotate_left; focus (simp; done)))) hf4
  have hf6 : Fr [] w w4 := Fr.trans0 (by with_reducible repeat (first | exact Fr.refl _ _ | assumption | refine Fr.alloc ?_ _ | refine Fr.drew ?_ | (refine Fr.setCell ?_ (.inr ?_) _; rotate_left; focus (first | (simp; done) | (simp; omega))) | (refine Fr.setCell ?_ (.inl ?_) _; rotate_left; focus (simp; done)))) hf4
  have bb2 := Box.fr0 (B := w.heap.size + 1) (by with_reducible repeat (first | assumption | (apply Box.newAt; simp; done) | apply Box.alloc | apply Box.drew | apply Box.set | (apply Box.other; focus omega))) hf4; (try simp only [List.setIfInBounds_toArray, List.set_cons_succ, List.set_cons_zero] at bb2); have bb2_c := bb2.cell_eq; have bb2_l := bb2.live; have bb2_t := bb2.lt
  have bc2 := Box.fr0 (B := w.heap.size + 1 + 1) (by with_reducible repeat (first | assumption | (apply Box.newAt; simp; done) | apply Box.alloc | apply Box.drew | apply Box.set | (apply Box.other; focus omega))) hf4; (try simp only [List.setIfInBounds_toArray, List.set_cons_succ, List.set_cons_zero] at bc2); have bc2_c := bc2.cell_eq; have bc2_l := bc2.live; have bc2_t := bc2.lt
  go_wp2
  refine ret_box (w.heap.size + 1) 6 #[.int .i64 r.fin, .int .i64 r.why, .int .i64 r.n, .slice b1 r.out.length m1, .int .i64 r.steps, .slice b2 r.globals.length m2] _ (by with_reducible repeat (first | assumption | (apply Box.newAt; simp; done) | apply Box.alloc | apply Box.drew | apply Box.set | (apply Box.other; focus omega))) (by rfl) rfl rfl Tryd.underlying39 rfl (by kernel_rfl) rfl rfl ?_
  have sz2 := hf2.size
  have sz4 := hf5.size
  have n1' : New (w.heap.size + 1 + 1 + 1) H1 := by simpa using n1
  have n2' : New w2.heap.size H2 := by simpa using n2
  simp at sz2
  refine ⟨_, _, rfl, res_shut (Rep.fr y1 (S := [w.heap.size + 1, w.heap.size + 1 + 1]) (by with_reducible repeat (first | exact Fr.refl _ _ | assumption | refine Fr.alloc ?_ _ | refine Fr.drew ?_ | (refine Fr.setCell ?_ (.inr ?_) _; rotate_left; focus (first | (simp; done) | (simp; omega))) | (refine Fr.setCell ?_ (.inl ?_) _; rotate_left; focus (simp; done)))) ?_) (Rep.fr y2 (S := [w.heap.size + 1, w.heap.size + 1 + 1]) (by with_reducible repeat (first | exact Fr.refl _ _ | assumption | refine Fr.alloc ?_ _ | refine Fr.drew ?_ | (refine Fr.setCell ?_ (.inr ?_) _; rotate_left; focus (first | (simp; done) | (simp; omega))) | (refine Fr.setCell ?_ (.inl ?_) _; rotate_left; focus (simp; done)))) ?_) i1 i2 i3 i4, (n1'.mono (by omega)).append n2' (Rep.lt y1) (by omega), by with_reducible repeat (first | exact Fr.refl _ _ | assumption | refine Fr.alloc ?_ _ | refine Fr.drew ?_ | (refine Fr.setCell ?_ (.inr ?_) _; rotate_left; focus (first | (simp; done) | (simp; omega))) | (refine Fr.setCell ?_ (.inl ?_) _; rotate_left; focus (simp; done)))⟩
  · intro b hb
    have := n1'.2 b hb
    simp; omega
  · intro b hb
    have := n2'.2 b hb
    simp; omega

end Go.Proofs.YtmepniddkajckaaDoor
