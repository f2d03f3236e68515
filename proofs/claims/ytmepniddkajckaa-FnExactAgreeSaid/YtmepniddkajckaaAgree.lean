/- Contracts: Same, Agree, both sides. -/
import Derived.Test.YtmepniddkajckaaPrefix
namespace Go.Proofs.Ytmepniddkajckaa
attribute [local go_sem ↓] Go.wp_at_zero Go.wp_at_succ
open Go.RowKit
open Rep (Is sz)

def pre (r q : Res) : Bool := decide (r.out = q.out.take r.out.length)
def same (r q : Res) : Bool := decide (r.fin = q.fin) && (decide (r.why = q.why) && (decide (r.n = q.n) && decide (r.out = q.out)))
def agree (r q : Res) : Bool :=
  if r.fin = 4 then false else if q.fin = 4 then false else if r.fin = 3 then (if q.fin = 3 then pre r q || pre q r else pre r q) else if q.fin = 3 then pre q r else same r q

theorem pre_same {r q : Res} (h : r.out.length = q.out.length) : pre r q = decide (r.out = q.out) := by
  unfold pre
  rw [h, List.take_length]

theorem ssame_any {F G : List Nat} (r q : Res) (cs ds : List Value) (w : World) (h : Is w F r cs) (h' : Is w G q ds) :
    Calls Try.prog 33 #[.agg cs.toArray, .agg ds.toArray] w fun e w' => e = .returned (.bool (same r q)) ∧ Fr [] w w' := by
  have hr := h
  have hq := h'
  obtain ⟨a1, k1, a2, k2, F1, F2, rfl, rfl, g1, g2, i1, i2, i3, i4⟩ := res_open h
  obtain ⟨b1, m1, b2, m2, G1, G2, rfl, rfl, p1, p2, j1, j2, j3, j4⟩ := res_open h'
  go_enter Try.func33, Try.ntmps33
  by_cases c1 : r.fin = q.fin
  · by_cases c2 : r.why = q.why
    · by_cases c3 : r.n = q.n
      · by_cases c4 : r.out.length = q.out.length
        · have e : same r q = pre r q := by rw [pre_same c4]; simp [same, c1, c2, c3]
          have e := hid e
          have t1 : (r.fin == q.fin) = true := by simp [c1]
          have t2 : (r.why == q.why) = true := by simp [c2]
          have t3 : (r.n == q.n) = true := by simp [c3]
          have t4 : (r.out.length == q.out.length) = true := by simp [c4]
          have t5 : ((r.out.length : Int) == (q.out.length : Int)) = true := by simp [c4]
          clear c1 c2 c3 c4
          go_wp2_with (go_at_call 13; with_reducible refine (sprefix_any r q _ _ _ (hr.fr0 (by with_reducible repeat (first | exact Fr.refl _ _ | assumption | refine Fr.alloc ?_ _ | refine Fr.drew ?_ | (refine Fr.setCell ?_ (.inr ?_) _; rotate_left; focus (first | (simp; done) | (simp; omega))) | (refine Fr.setCell ?_ (.inl ?_) _; rotate_left; focus (simp; done))))) (hq.fr0 (by with_reducible repeat (first | exact Fr.refl _ _ | assumption | refine Fr.alloc ?_ _ | refine Fr.drew ?_ | (refine Fr.setCell ?_ (.inr ?_) _; rotate_left; focus (first | (simp; done) | (simp; omega))) | (refine Fr.setCell ?_ (.inl ?_) _; rotate_left; focus (simp; done)))))).mono ?_; rintro e w2 ⟨rfl, hf2⟩)
          go_ret
          exact ⟨by rw [e.out]; rfl, hf2.un.un⟩
        · have e : same r q = false := by
            have : r.out ≠ q.out := fun e => c4 (by rw [e])
            simp [same, this]
          have e := hid e
          go_wp2
          go_ret
          exact ⟨by rw [e.out]; rfl, by with_reducible repeat (first | exact Fr.refl _ _ | assumption | refine Fr.alloc ?_ _ | refine Fr.drew ?_ | (refine Fr.setCell ?_ (.inr ?_) _; rotate_left; focus (first | (simp; done) | (simp; omega))) | (refine Fr.setCell ?_ (.inl ?_) _; rotate_left; focus (simp; done)))⟩
      · have e := hid (show same r q = false by simp [same, c3])
        go_wp2
        go_ret
        exact ⟨by rw [e.out]; rfl, by with_reducible repeat (first | exact Fr.refl _ _ | assumption | refine Fr.alloc ?_ _ | refine Fr.drew ?_ | (refine Fr.setCell ?_ (.inr ?_) _; rotate_left; focus (first | (simp; done) | (simp; omega))) | (refine Fr.setCell ?_ (.inl ?_) _; rotate_left; focus (simp; done)))⟩
    · have e := hid (show same r q = false by simp [same, c2])
      go_wp2
      go_ret
      exact ⟨by rw [e.out]; rfl, by with_reducible repeat (first | exact Fr.refl _ _ | assumption | refine Fr.alloc ?_ _ | refine Fr.drew ?_ | (refine Fr.setCell ?_ (.inr ?_) _; rotate_left; focus (first | (simp; done) | (simp; omega))) | (refine Fr.setCell ?_ (.inl ?_) _; rotate_left; focus (simp; done)))⟩
  · have e := hid (show same r q = false by simp [same, c1])
    go_wp2
    go_ret
    exact ⟨by rw [e.out]; rfl, by with_reducible repeat (first | exact Fr.refl _ _ | assumption | refine Fr.alloc ?_ _ | refine Fr.drew ?_ | (refine Fr.setCell ?_ (.inr ?_) _; rotate_left; focus (first | (simp; done) | (simp; omega))) | (refine Fr.setCell ?_ (.inl ?_) _; rotate_left; focus (simp; done)))⟩

theorem isame_any {F G : List Nat} (r q : Res) (cs ds : List Value) (w : World) (h : Is w F r cs) (h' : Is w G q ds) :
    Calls Try.prog 34 #[.agg cs.toArray, .agg ds.toArray] w fun e w' => e = .returned (.bool (same r q)) ∧ Fr [] w w' := by
  have hr := h
  have hq := h'
  obtain ⟨a1, k1, a2, k2, F1, F2, rfl, rfl, g1, g2, i1, i2, i3, i4⟩ := res_open h
  obtain ⟨b1, m1, b2, m2, G1, G2, rfl, rfl, p1, p2, j1, j2, j3, j4⟩ := res_open h'
  obtain ⟨c1, k3, e1, _, hv1, hin1, hm1⟩ := ints_open g1
  obtain ⟨c2, k4, e2, _, hv2, hin2, hm2⟩ := ints_open p1
  simp only [List.cons.injEq, Value.slice.injEq, and_true, true_and] at e1 e2
  obtain ⟨rfl, rfl⟩ := e1
  obtain ⟨rfl, rfl⟩ := e2
  unfold maxLen at hm1 hm2
  go_enter Try.func34, Try.ntmps34
  by_cases c1 : r.fin = q.fin
  · by_cases c2 : r.why = q.why
    · by_cases c3 : r.n = q.n
      · have e := hid (show same r q = decide (r.out = q.out) by simp [same, c1, c2, c3])
        go_wp2_with (go_at_call 36; with_reducible refine (equalInts_any r.out q.out _ _ _ _ _ (hv1.fr0 (by with_reducible repeat (first | exact Fr.refl _ _ | assumption | refine Fr.alloc ?_ _ | refine Fr.drew ?_ | (refine Fr.setCell ?_ (.inr ?_) _; rotate_left; focus (first | (simp; done) | (simp; omega))) | (refine Fr.setCell ?_ (.inl ?_) _; rotate_left; focus (simp; done))))) (hv2.fr0 (by with_reducible repeat (first | exact Fr.refl _ _ | assumption | refine Fr.alloc ?_ _ | refine Fr.drew ?_ | (refine Fr.setCell ?_ (.inr ?_) _; rotate_left; focus (first | (simp; done) | (simp; omega))) | (refine Fr.setCell ?_ (.inl ?_) _; rotate_left; focus (simp; done))))) (by unfold maxLen; omega)).mono ?_; rintro e w2 ⟨rfl, hf2⟩)
        go_ret
        exact ⟨by rw [e.out]; rfl, hf2.un.un⟩
      · have e := hid (show same r q = false by simp [same, c3])
        go_wp2
        go_ret
        exact ⟨by rw [e.out]; rfl, by with_reducible repeat (first | exact Fr.refl _ _ | assumption | refine Fr.alloc ?_ _ | refine Fr.drew ?_ | (refine Fr.setCell ?_ (.inr ?_) _; rotate_left; focus (first | (simp; done) | (simp; omega))) | (refine Fr.setCell ?_ (.inl ?_) _; rotate_left; focus (simp; done)))⟩
    · have e := hid (show same r q = false by simp [same, c2])
      go_wp2
      go_ret
      exact ⟨by rw [e.out]; rfl, by with_reducible repeat (first | exact Fr.refl _ _ | assumption | refine Fr.alloc ?_ _ | refine Fr.drew ?_ | (refine Fr.setCell ?_ (.inr ?_) _; rotate_left; focus (first | (simp; done) | (simp; omega))) | (refine Fr.setCell ?_ (.inl ?_) _; rotate_left; focus (simp; done)))⟩
  · have e := hid (show same r q = false by simp [same, c1])
    go_wp2
    go_ret
    exact ⟨by rw [e.out]; rfl, by with_reducible repeat (first | exact Fr.refl _ _ | assumption | refine Fr.alloc ?_ _ | refine Fr.drew ?_ | (refine Fr.setCell ?_ (.inr ?_) _; rotate_left; focus (first | (simp; done) | (simp; omega))) | (refine Fr.setCell ?_ (.inl ?_) _; rotate_left; focus (simp; done)))⟩

theorem sagree_any {F G : List Nat} (r q : Res) (cs ds : List Value) (w : World) (h : Is w F r cs) (h' : Is w G q ds) :
    Calls Try.prog 21 #[.agg cs.toArray, .agg ds.toArray] w fun e w' => e = .returned (.bool (agree r q)) ∧ Fr [] w w' := by
  have hr := h
  have hq := h'
  obtain ⟨a1, k1, a2, k2, F1, F2, rfl, rfl, g1, g2, i1, i2, i3, i4⟩ := res_open h
  obtain ⟨b1, m1, b2, m2, G1, G2, rfl, rfl, p1, p2, j1, j2, j3, j4⟩ := res_open h'
  go_enter Try.func21, Try.ntmps21
  by_cases c1 : r.fin = 4
  · have e := hid (show agree r q = false by simp [agree, c1])
    go_wp2
    go_ret
    exact ⟨by rw [e.out]; rfl, by with_reducible repeat (first | exact Fr.refl _ _ | assumption | refine Fr.alloc ?_ _ | refine Fr.drew ?_ | (refine Fr.setCell ?_ (.inr ?_) _; rotate_left; focus (first | (simp; done) | (simp; omega))) | (refine Fr.setCell ?_ (.inl ?_) _; rotate_left; focus (simp; done)))⟩
  by_cases c2 : q.fin = 4
  · have e := hid (show agree r q = false by simp [agree, c2])
    go_wp2
    go_ret
    exact ⟨by rw [e.out]; rfl, by with_reducible repeat (first | exact Fr.refl _ _ | assumption | refine Fr.alloc ?_ _ | refine Fr.drew ?_ | (refine Fr.setCell ?_ (.inr ?_) _; rotate_left; focus (first | (simp; done) | (simp; omega))) | (refine Fr.setCell ?_ (.inl ?_) _; rotate_left; focus (simp; done)))⟩
  by_cases c3 : r.fin = 3
  · have t1 : (r.fin == 4) = false := by simp [c1]
    have t2 : (q.fin == 4) = false := by simp [c2]
    have t3 : (r.fin == 3) = true := by simp [c3]
    by_cases c4 : q.fin = 3
    · have e := hid (show agree r q = (pre r q || pre q r) by simp [agree, c3, c4])
      have t4 : (q.fin == 3) = true := by simp [c4]
      clear c1 c2 c3 c4
      go_wp2_with fail
      with_reducible refine (sprefix_any r q _ _ _ (hr.fr0 (by with_reducible repeat (first | exact Fr.refl _ _ | assumption | refine Fr.alloc ?_ _ | refine Fr.drew ?_ | (refine Fr.setCell ?_ (.inr ?_) _; rotate_left; focus (first | (simp; done) | (simp; omega))) | (refine Fr.setCell ?_ (.inl ?_) _; rotate_left; focus (simp; done))))) (hq.fr0 (by with_reducible repeat (first | exact Fr.refl _ _ | assumption | refine Fr.alloc ?_ _ | refine Fr.drew ?_ | (refine Fr.setCell ?_ (.inr ?_) _; rotate_left; focus (first | (simp; done) | (simp; omega))) | (refine Fr.setCell ?_ (.inl ?_) _; rotate_left; focus (simp; done)))))).mono ?_
      rintro e1 w2 ⟨rfl, hf2⟩
      have ba := Box.fr0 (B := w.heap.size) (by with_reducible repeat (first | assumption | (apply Box.newAt; simp; done) | apply Box.alloc | apply Box.drew | apply Box.set | (apply Box.other; focus omega))) hf2; (try simp only [List.setIfInBounds_toArray, List.set_cons_succ, List.set_cons_zero] at ba); have ba_c := ba.cell_eq; have ba_l := ba.live; have ba_t := ba.lt
      have bb := Box.fr0 (B := w.heap.size + 1) (by with_reducible repeat (first | assumption | (apply Box.newAt; simp; done) | apply Box.alloc | apply Box.drew | apply Box.set | (apply Box.other; focus omega))) hf2; (try simp only [List.setIfInBounds_toArray, List.set_cons_succ, List.set_cons_zero] at bb); have bb_c := bb.cell_eq; have bb_l := bb.live; have bb_t := bb.lt
      by_cases c5 : r.out = q.out.take r.out.length
      · have e := hid (show agree r q = true by rw [e.out]; simp [pre, ← c5])
        rw [decide_eq_true c5]
        clear c5
        go_wp2
        go_ret
        exact ⟨by rw [e.out]; rfl, hf2.un.un⟩
      · have e := hid (show agree r q = pre q r by rw [e.out]; simp [pre, c5])
        go_wp2_with fail
        with_reducible refine (sprefix_any q r _ _ _ (hq.fr0 hf2.un.un) (hr.fr0 hf2.un.un)).mono ?_
        rintro e1 w3 ⟨rfl, hf3⟩
        go_wp2
        go_ret
        exact ⟨by rw [e.out]; rfl, hf2.un.un.trans0 hf3⟩
    · have e := hid (show agree r q = pre r q by simp [agree, c3, c4, c2])
      have t4 : (q.fin == 3) = false := by simp [c4]
      clear c1 c2 c3 c4
      go_wp2_with fail
      with_reducible refine (sprefix_any r q _ _ _ (hr.fr0 (by with_reducible repeat (first | exact Fr.refl _ _ | assumption | refine Fr.alloc ?_ _ | refine Fr.drew ?_ | (refine Fr.setCell ?_ (.inr ?_) _; rotate_left; focus (first | (simp; done) | (simp; omega))) | (refine Fr.setCell ?_ (.inl ?_) _; rotate_left; focus (simp; done))))) (hq.fr0 (by with_reducible repeat (first | exact Fr.refl _ _ | assumption | refine Fr.alloc ?_ _ | refine Fr.drew ?_ | (refine Fr.setCell ?_ (.inr ?_) _; rotate_left; focus (first | (simp; done) | (simp; omega))) | (refine Fr.setCell ?_ (.inl ?_) _; rotate_left; focus (simp; done)))))).mono ?_
      rintro e1 w2 ⟨rfl, hf2⟩
      go_wp2
      go_ret
      exact ⟨by rw [e.out]; rfl, hf2.un.un⟩
  · have t1 : (r.fin == 4) = false := by simp [c1]
    have t2 : (q.fin == 4) = false := by simp [c2]
    have t3 : (r.fin == 3) = false := by simp [c3]
    by_cases c4 : q.fin = 3
    · have e := hid (show agree r q = pre q r by simp [agree, c1, c3, c4])
      have t4 : (q.fin == 3) = true := by simp [c4]
      clear c1 c2 c3 c4
      go_wp2_with fail
      with_reducible refine (sprefix_any q r _ _ _ (hq.fr0 (by with_reducible repeat (first | exact Fr.refl _ _ | assumption | refine Fr.alloc ?_ _ | refine Fr.drew ?_ | (refine Fr.setCell ?_ (.inr ?_) _; rotate_left; focus (first | (simp; done) | (simp; omega))) | (refine Fr.setCell ?_ (.inl ?_) _; rotate_left; focus (simp; done))))) (hr.fr0 (by with_reducible repeat (first | exact Fr.refl _ _ | assumption | refine Fr.alloc ?_ _ | refine Fr.drew ?_ | (refine Fr.setCell ?_ (.inr ?_) _; rotate_left; focus (first | (simp; done) | (simp; omega))) | (refine Fr.setCell ?_ (.inl ?_) _; rotate_left; focus (simp; done)))))).mono ?_
      rintro e1 w2 ⟨rfl, hf2⟩
      go_wp2
      go_ret
      exact ⟨by rw [e.out]; rfl, hf2.un.un⟩
    · have e := hid (show agree r q = same r q by simp [agree, c3, c4, c2, c1])
      have t4 : (q.fin == 3) = false := by simp [c4]
      clear c1 c2 c3 c4
      go_wp2_with fail
      with_reducible refine (ssame_any r q _ _ _ (hr.fr0 (by with_reducible repeat (first | exact Fr.refl _ _ | assumption | refine Fr.alloc ?_ _ | refine Fr.drew ?_ | (refine Fr.setCell ?_ (.inr ?_) _; rotate_left; focus (first | (simp; done) | (simp; omega))) | (refine Fr.setCell ?_ (.inl ?_) _; rotate_left; focus (simp; done))))) (hq.fr0 (by with_reducible repeat (first | exact Fr.refl _ _ | assumption | refine Fr.alloc ?_ _ | refine Fr.drew ?_ | (refine Fr.setCell ?_ (.inr ?_) _; rotate_left; focus (first | (simp; done) | (simp; omega))) | (refine Fr.setCell ?_ (.inl ?_) _; rotate_left; focus (simp; done)))))).mono ?_
      rintro e1 w2 ⟨rfl, hf2⟩
      go_wp2
      go_ret
      exact ⟨by rw [e.out]; rfl, hf2.un.un⟩

theorem iagree_any {F G : List Nat} (r q : Res) (cs ds : List Value) (w : World) (h : Is w F r cs) (h' : Is w G q ds) :
    Calls Try.prog 22 #[.agg cs.toArray, .agg ds.toArray] w fun e w' => e = .returned (.bool (agree r q)) ∧ Fr [] w w' := by
  have hr := h
  have hq := h'
  obtain ⟨a1, k1, a2, k2, F1, F2, rfl, rfl, g1, g2, i1, i2, i3, i4⟩ := res_open h
  obtain ⟨b1, m1, b2, m2, G1, G2, rfl, rfl, p1, p2, j1, j2, j3, j4⟩ := res_open h'
  go_enter Try.func22, Try.ntmps22
  by_cases c1 : r.fin = 4
  · have e := hid (show agree r q = false by simp [agree, c1])
    go_wp2
    go_ret
    exact ⟨by rw [e.out]; rfl, by with_reducible repeat (first | exact Fr.refl _ _ | assumption | refine Fr.alloc ?_ _ | refine Fr.drew ?_ | (refine Fr.setCell ?_ (.inr ?_) _; rotate_left; focus (first | (simp; done) | (simp; omega))) | (refine Fr.setCell ?_ (.inl ?_) _; rotate_left; focus (simp; done)))⟩
  by_cases c2 : q.fin = 4
  · have e := hid (show agree r q = false by simp [agree, c2])
    go_wp2
    go_ret
    exact ⟨by rw [e.out]; rfl, by with_reducible repeat (first | exact Fr.refl _ _ | assumption | refine Fr.alloc ?_ _ | refine Fr.drew ?_ | (refine Fr.setCell ?_ (.inr ?_) _; rotate_left; focus (first | (simp; done) | (simp; omega))) | (refine Fr.setCell ?_ (.inl ?_) _; rotate_left; focus (simp; done)))⟩
  by_cases c3 : r.fin = 3
  · have t1 : (r.fin == 4) = false := by simp [c1]
    have t2 : (q.fin == 4) = false := by simp [c2]
    have t3 : (r.fin == 3) = true := by simp [c3]
    by_cases c4 : q.fin = 3
    · have e := hid (show agree r q = (pre r q || pre q r) by simp [agree, c3, c4])
      have t4 : (q.fin == 3) = true := by simp [c4]
      clear c1 c2 c3 c4
      go_wp2_with fail
      with_reducible refine (iprefix_any r q _ _ _ (hr.fr0 (by with_reducible repeat (first | exact Fr.refl _ _ | assumption | refine Fr.alloc ?_ _ | refine Fr.drew ?_ | (refine Fr.setCell ?_ (.inr ?_) _; rotate_left; focus (first | (simp; done) | (simp; omega))) | (refine Fr.setCell ?_ (.inl ?_) _; rotate_left; focus (simp; done))))) (hq.fr0 (by with_reducible repeat (first | exact Fr.refl _ _ | assumption | refine Fr.alloc ?_ _ | refine Fr.drew ?_ | (refine Fr.setCell ?_ (.inr ?_) _; rotate_left; focus (first | (simp; done) | (simp; omega))) | (refine Fr.setCell ?_ (.inl ?_) _; rotate_left; focus (simp; done)))))).mono ?_
      rintro e1 w2 ⟨rfl, hf2⟩
      have ba := Box.fr0 (B := w.heap.size) (by with_reducible repeat (first | assumption | (apply Box.newAt; simp; done) | apply Box.alloc | apply Box.drew | apply Box.set | (apply Box.other; focus omega))) hf2; (try simp only [List.setIfInBounds_toArray, List.set_cons_succ, List.set_cons_zero] at ba); have ba_c := ba.cell_eq; have ba_l := ba.live; have ba_t := ba.lt
      have bb := Box.fr0 (B := w.heap.size + 1) (by with_reducible repeat (first | assumption | (apply Box.newAt; simp; done) | apply Box.alloc | apply Box.drew | apply Box.set | (apply Box.other; focus omega))) hf2; (try simp only [List.setIfInBounds_toArray, List.set_cons_succ, List.set_cons_zero] at bb); have bb_c := bb.cell_eq; have bb_l := bb.live; have bb_t := bb.lt
      by_cases c5 : r.out = q.out.take r.out.length
      · have e := hid (show agree r q = true by rw [e.out]; simp [pre, ← c5])
        rw [decide_eq_true c5]
        clear c5
        go_wp2
        go_ret
        exact ⟨by rw [e.out]; rfl, hf2.un.un⟩
      · have e := hid (show agree r q = pre q r by rw [e.out]; simp [pre, c5])
        go_wp2_with fail
        with_reducible refine (iprefix_any q r _ _ _ (hq.fr0 hf2.un.un) (hr.fr0 hf2.un.un)).mono ?_
        rintro e1 w3 ⟨rfl, hf3⟩
        go_wp2
        go_ret
        exact ⟨by rw [e.out]; rfl, hf2.un.un.trans0 hf3⟩
    · have e := hid (show agree r q = pre r q by simp [agree, c3, c4, c2])
      have t4 : (q.fin == 3) = false := by simp [c4]
      clear c1 c2 c3 c4
      go_wp2_with fail
      with_reducible refine (iprefix_any r q _ _ _ (hr.fr0 (by with_reducible repeat (first | exact Fr.refl _ _ | assumption | refine Fr.alloc ?_ _ | refine Fr.drew ?_ | (refine Fr.setCell ?_ (.inr ?_) _; rotate_left; focus (first | (simp; done) | (simp; omega))) | (refine Fr.setCell ?_ (.inl ?_) _; rotate_left; focus (simp; done))))) (hq.fr0 (by with_reducible repeat (first | exact Fr.refl _ _ | assumption | refine Fr.alloc ?_ _ | refine Fr.drew ?_ | (refine Fr.setCell ?_ (.inr ?_) _; rotate_left; focus (first | (simp; done) | (simp; omega))) | (refine Fr.setCell ?_ (.inl ?_) _; rotate_left; focus (simp; done)))))).mono ?_
      rintro e1 w2 ⟨rfl, hf2⟩
      go_wp2
      go_ret
      exact ⟨by rw [e.out]; rfl, hf2.un.un⟩
  · have t1 : (r.fin == 4) = false := by simp [c1]
    have t2 : (q.fin == 4) = false := by simp [c2]
    have t3 : (r.fin == 3) = false := by simp [c3]
    by_cases c4 : q.fin = 3
    · have e := hid (show agree r q = pre q r by simp [agree, c1, c3, c4])
      have t4 : (q.fin == 3) = true := by simp [c4]
      clear c1 c2 c3 c4
      go_wp2_with fail
      with_reducible refine (iprefix_any q r _ _ _ (hq.fr0 (by with_reducible repeat (first | exact Fr.refl _ _ | assumption | refine Fr.alloc ?_ _ | refine Fr.drew ?_ | (refine Fr.setCell ?_ (.inr ?_) _; rotate_left; focus (first | (simp; done) | (simp; omega))) | (refine Fr.setCell ?_ (.inl ?_) _; rotate_left; focus (simp; done))))) (hr.fr0 (by with_reducible repeat (first | exact Fr.refl _ _ | assumption | refine Fr.alloc ?_ _ | refine Fr.drew ?_ | (refine Fr.setCell ?_ (.inr ?_) _; rotate_left; focus (first | (simp; done) | (simp; omega))) | (refine Fr.setCell ?_ (.inl ?_) _; rotate_left; focus (simp; done)))))).mono ?_
      rintro e1 w2 ⟨rfl, hf2⟩
      go_wp2
      go_ret
      exact ⟨by rw [e.out]; rfl, hf2.un.un⟩
    · have e := hid (show agree r q = same r q by simp [agree, c3, c4, c2, c1])
      have t4 : (q.fin == 3) = false := by simp [c4]
      clear c1 c2 c3 c4
      go_wp2_with fail
      with_reducible refine (isame_any r q _ _ _ (hr.fr0 (by with_reducible repeat (first | exact Fr.refl _ _ | assumption | refine Fr.alloc ?_ _ | refine Fr.drew ?_ | (refine Fr.setCell ?_ (.inr ?_) _; rotate_left; focus (first | (simp; done) | (simp; omega))) | (refine Fr.setCell ?_ (.inl ?_) _; rotate_left; focus (simp; done))))) (hq.fr0 (by with_reducible repeat (first | exact Fr.refl _ _ | assumption | refine Fr.alloc ?_ _ | refine Fr.drew ?_ | (refine Fr.setCell ?_ (.inr ?_) _; rotate_left; focus (first | (simp; done) | (simp; omega))) | (refine Fr.setCell ?_ (.inl ?_) _; rotate_left; focus (simp; done)))))).mono ?_
      rintro e1 w2 ⟨rfl, hf2⟩
      go_wp2
      go_ret
      exact ⟨by rw [e.out]; rfl, hf2.un.un⟩

end Go.Proofs.Ytmepniddkajckaa
