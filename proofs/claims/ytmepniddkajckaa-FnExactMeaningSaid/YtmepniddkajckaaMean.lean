/- Contracts: Meaning, both sides. -/
import Derived.Test.YtmepniddkajckaaRes
namespace Go.Proofs.Ytmepniddkajckaa
attribute [local go_sem ↓] Go.wp_at_zero Go.wp_at_succ
open Go.RowKit
open Rep (Is sz)

def meanWhy (r : Res) : Int := if r.fin = 2 ∧ r.why = 1 ∧ r.globals.headD 0 ≠ 0 then r.globals.headD 0 else r.why
def meaning (r : Res) : Res := { r with why := meanWhy r, globals := r.globals.tail }

theorem tail_is {w : World} {B g2 o2 cap2 : Nat} {e : TypeId} {l gs : List Int} {g : Int} (hown : w.ownsRow B e 1 (.slice (some ⟨g2, o2, none⟩) l.length cap2) l.length (intVs l)) (hl : l = g :: gs) (hin : ∀ n ∈ gs, In64 n) :
    Is w (if gs = [] then [] else [g2]) gs [.slice (some ⟨g2, o2 + 1, none⟩) (l.length - 1) (cap2 - 1)] ∧ (cap2 = 1 → Is w (if gs = [] then [] else [g2]) gs [.slice (some ⟨g2, o2, none⟩) (l.length - 1) 0]) := by
  have hcp := ownsRow_cap hown
  obtain ⟨b, o, e1, hc⟩ := (ownsRow_view hown).cells (by rw [hl]; simp)
  simp only [Option.some.injEq, Addr.mk.injEq, and_true] at e1
  obtain ⟨rfl, rfl⟩ := e1
  have hgl : l.length - 1 = gs.length := by rw [hl]; rfl
  rw [hgl]
  refine ⟨ints_shut (a := some ⟨g2, o2 + 1, none⟩) ⟨by simp [intVs], fun _ => ⟨g2, o2 + 1, rfl, fun j u hj => ?_⟩⟩ hin ⟨by omega, by omega⟩, fun h1 => ?_⟩
  · have := hc (j + 1) u (by simpa [intVs, hl] using hj)
    rwa [show o2 + (j + 1) = o2 + 1 + j by omega] at this
  · have h0 : gs = [] := List.eq_nil_of_length_eq_zero (by omega)
    subst h0
    exact ints_shut (a := some ⟨g2, o2, none⟩) (View.nil _ _ _) (by simp) (by simp)

set_option maxHeartbeats 1000000 in
theorem smean_any {F : List Nat} (r : Res) (cs : List Value) (w : World) (h : Is w F r cs) (hs1 : r.out.length ≤ 1048576) (hs2 : r.globals.length ≤ 1048576) :
    Calls Try.prog 17 #[.agg cs.toArray] w fun e w' => ∃ ds, e = .returned (.agg ds.toArray) ∧ ∃ G, Is w' G (meaning r) ds ∧ New w.heap.size G ∧ Fr [] w w' := by
  obtain ⟨a1, k1, a2, k2, F1, F2, rfl, rfl, g1, g2, i1, i2, i3, i4⟩ := res_open h
  obtain ⟨c1, k3, e1, _, hv1, hin1, hm1⟩ := ints_open g1
  obtain ⟨c2, k4, e2, _, hv2, hin2, hm2⟩ := ints_open g2
  simp only [List.cons.injEq, Value.slice.injEq, and_true, true_and] at e1 e2
  obtain ⟨rfl, rfl⟩ := e1
  obtain ⟨rfl, rfl⟩ := e2
  go_enter Try.func17, Try.ntmps17
  by_cases hg : r.globals = []
  · have hz : ¬ 0 < r.globals.length := by simp [hg]
    have hm : meaning r = ⟨r.fin, r.why, r.n, r.out, r.steps, []⟩ := by simp [meaning, meanWhy, hg]
    replace hm := hid hm
    clear hg
    go_wp2_with (at_builtin; refine at_app (.tmp 5) (.tmp 7) rfl ?_; go_must (refine app_own _ rfl _ _ 26 rfl 3 (.int .i64 0) 1 8 Try.ints_tab (w.heap.size + 3) _ 0 0 [] rfl (own_litAt (by simp) rfl (by simp) (by unfold maxLen; omega) rfl) _ r.out.length _ (intVs r.out) rfl (hv1.fr0 (by with_reducible repeat (first | exact Fr.refl _ _ | assumption | refine Fr.alloc ?_ _ | refine Fr.drew ?_ | (refine Fr.setCell ?_ (.inr ?_) _; rotate_left; focus (first | (simp; done) | (simp; omega))) | (refine Fr.setCell ?_ (.inl ?_) _; rotate_left; focus (simp; done))))) (by simp [intVs]) (by omega) (by simp <;> omega) ?_); intro ao1 cap1 w1 hown1 hfr1; have ba := Box.fr (B := w.heap.size) (by with_reducible repeat (first | assumption | (apply Box.newAt; simp; done) | apply Box.alloc | apply Box.drew | apply Box.set | (apply Box.other; focus omega))) hfr1 (by simp [blk] <;> omega); (try simp only [List.setIfInBounds_toArray, List.set_cons_succ, List.set_cons_zero] at ba); have ba_c := ba.cell_eq; have ba_l := ba.live; have ba_t := ba.lt; have bb := Box.fr (B := w.heap.size + 1) (by with_reducible repeat (first | assumption | (apply Box.newAt; simp; done) | apply Box.alloc | apply Box.drew | apply Box.set | (apply Box.other; focus omega))) hfr1 (by simp [blk] <;> omega); (try simp only [List.setIfInBounds_toArray, List.set_cons_succ, List.set_cons_zero] at bb); have bb_c := bb.cell_eq; have bb_l := bb.live; have bb_t := bb.lt; have bc := Box.fr (B := w.heap.size + 1 + 1) (by with_reducible repeat (first | assumption | (apply Box.newAt; simp; done) | apply Box.alloc | apply Box.drew | apply Box.set | (apply Box.other; focus omega))) hfr1 (by simp [blk] <;> omega); (try simp only [List.setIfInBounds_toArray, List.set_cons_succ, List.set_cons_zero] at bc); have bc_c := bc.cell_eq; have bc_l := bc.live; have bc_t := bc.lt)
    simp only [Nat.zero_add, List.nil_append] at hown1
    have hbk := ownsRow_blk hown1
    refine ret_box (w.heap.size + 1) 6 #[.int .i64 r.fin, .int .i64 r.why, .int .i64 r.n, .slice ao1 r.out.length cap1, .int .i64 r.steps, .slice none 0 0] _ (by with_reducible repeat (first | assumption | (apply Box.newAt; simp; done) | apply Box.alloc | apply Box.drew | apply Box.set | (apply Box.other; focus omega))) (by rfl) rfl rfl Try.underlying31 rfl (by kernel_rfl) rfl rfl ?_
    rw [hm.out]
    have f1 : Fr [] w w1 := Fr.trans (by with_reducible repeat (first | exact Fr.refl _ _ | assumption | refine Fr.alloc ?_ _ | refine Fr.drew ?_ | (refine Fr.setCell ?_ (.inr ?_) _; rotate_left; focus (first | (simp; done) | (simp; omega))) | (refine Fr.setCell ?_ (.inl ?_) _; rotate_left; focus (simp; done)))) hfr1 (fun x hx => .inr (by simp [blk] at hx; omega))
    refine ⟨_, rfl, _, res_shut (r := ⟨r.fin, r.why, r.n, r.out, r.steps, []⟩) (ints_shut ((ownsRow_view hown1).fr (S := [w.heap.size + 1, w.heap.size + 1 + 1]) (by with_reducible repeat (first | exact Fr.refl _ _ | assumption | refine Fr.alloc ?_ _ | refine Fr.drew ?_ | (refine Fr.setCell ?_ (.inr ?_) _; rotate_left; focus (first | (simp; done) | (simp; omega))) | (refine Fr.setCell ?_ (.inl ?_) _; rotate_left; focus (simp; done)))) ?_) hin1 (ownsRow_cap hown1)) (ints_shut (a := none) (cap := 0) (View.nil _ _ _) (by simp) (by simp)) i1 i2 i3 i4, ?_, by with_reducible repeat (first | exact Fr.refl _ _ | assumption | refine Fr.alloc ?_ _ | refine Fr.drew ?_ | (refine Fr.setCell ?_ (.inr ?_) _; rotate_left; focus (first | (simp; done) | (simp; omega))) | (refine Fr.setCell ?_ (.inl ?_) _; rotate_left; focus (simp; done)))⟩
    · intro x hx
      have := hbk x hx
      simp; omega
    · simp only [if_true, List.append_nil]
      split
      · exact New.nil _
      · exact ⟨by cases ao1 <;> simp [blk], fun x hx => by have := hbk x hx; omega⟩
  · obtain ⟨g, gs, hgs⟩ := List.exists_cons_of_ne_nil hg
    have hpos : 0 < r.globals.length := List.length_pos_iff.2 hg
    have hlt := View.block_lt hv2 hpos Nat.one_pos
    obtain ⟨b, o, rfl, hc⟩ := hv2.cells hpos
    have hb : b < w.heap.size := hlt b (by simp [blk])
    have hc0 : w.cell? ⟨b, o, none⟩ = some (.int .i64 g) := (hc 0 (.int .i64 g) (by simp [intVs, hgs])).1
    have hvt : View w (some ⟨b, o + 1, none⟩) 1 (r.globals.length - 1) (intVs gs) := by
      refine ⟨by simp [intVs, hgs], fun _ => ⟨b, o + 1, rfl, fun j u hj => ?_⟩⟩
      have := hc (j + 1) u (by simpa [intVs, hgs] using hj)
      rwa [show o + (j + 1) = o + 1 + j by omega] at this
    have hvt' : View w (if k2 = 1 then some ⟨b, o, none⟩ else some ⟨b, o + 1, none⟩) 1 (r.globals.length - 1) (intVs gs) := by
      split
      · refine ⟨hvt.len, fun hn => ?_⟩
        omega
      · exact hvt
    have hin3 : ∀ n ∈ gs, In64 n := fun n hn => hin2 n (by rw [hgs]; exact List.mem_cons_of_mem _ hn)
    have hgi : In64 g := hin2 g (by rw [hgs]; exact List.mem_cons_self)
    have hgl : gs.length = r.globals.length - 1 := by rw [hgs]; rfl
    have hq : ((r.fin == 2) = true ∧ (r.why == 1) = true ∧ (g != 0) = true ∧ meaning r = ⟨r.fin, g, r.n, r.out, r.steps, gs⟩) ∨ ((r.fin == 2) = false ∧ meaning r = ⟨r.fin, r.why, r.n, r.out, r.steps, gs⟩) ∨
        ((r.fin == 2) = true ∧ (r.why == 1) = false ∧ meaning r = ⟨r.fin, r.why, r.n, r.out, r.steps, gs⟩) ∨ ((r.fin == 2) = true ∧ (r.why == 1) = true ∧ (g != 0) = false ∧ meaning r = ⟨r.fin, r.why, r.n, r.out, r.steps, gs⟩) := by
      by_cases x1 : r.fin = 2 <;> by_cases x2 : r.why = 1 <;> by_cases x3 : g = 0 <;> simp [x1, x2, x3, meaning, meanWhy, hgs]
    replace hgs := hid hgs
    replace hgl := hid hgl
    clear hg
    rcases hq with ⟨q1, q2, q3, hm⟩ | ⟨q1, hm⟩ | ⟨q1, q2, hm⟩ | ⟨q1, q2, q3, hm⟩
    all_goals
      replace hm := hid hm
      go_wp2_with (first
        | (at_builtin; refine at_app (.tmp 5) (.tmp 7) rfl ?_; go_must (refine app_own _ rfl _ _ 26 rfl 3 (.int .i64 0) 1 8 Try.ints_tab (w.heap.size + 3) _ 0 0 [] rfl (own_litAt (by simp) rfl (by simp) (by unfold maxLen; omega) rfl) _ r.out.length _ (intVs r.out) rfl (hv1.fr0 (by with_reducible repeat (first | exact Fr.refl _ _ | assumption | refine Fr.alloc ?_ _ | refine Fr.drew ?_ | (refine Fr.setCell ?_ (.inr ?_) _; rotate_left; focus (first | (simp; done) | (simp; omega))) | (refine Fr.setCell ?_ (.inl ?_) _; rotate_left; focus (simp; done))))) (by simp [intVs]) (by omega) (by simp <;> omega) ?_); intro ao1 cap1 w1 hown1 hfr1; have ba := Box.fr (B := w.heap.size) (by with_reducible repeat (first | assumption | (apply Box.newAt; simp; done) | apply Box.alloc | apply Box.drew | apply Box.set | (apply Box.other; focus omega))) hfr1 (by simp [blk] <;> omega); (try simp only [List.setIfInBounds_toArray, List.set_cons_succ, List.set_cons_zero] at ba); have ba_c := ba.cell_eq; have ba_l := ba.live; have ba_t := ba.lt; have bb := Box.fr (B := w.heap.size + 1) (by with_reducible repeat (first | assumption | (apply Box.newAt; simp; done) | apply Box.alloc | apply Box.drew | apply Box.set | (apply Box.other; focus omega))) hfr1 (by simp [blk] <;> omega); (try simp only [List.setIfInBounds_toArray, List.set_cons_succ, List.set_cons_zero] at bb); have bb_c := bb.cell_eq; have bb_l := bb.live; have bb_t := bb.lt; have bc := Box.fr (B := w.heap.size + 1 + 1) (by with_reducible repeat (first | assumption | (apply Box.newAt; simp; done) | apply Box.alloc | apply Box.drew | apply Box.set | (apply Box.other; focus omega))) hfr1 (by simp [blk] <;> omega); (try simp only [List.setIfInBounds_toArray, List.set_cons_succ, List.set_cons_zero] at bc); have bc_c := bc.cell_eq; have bc_l := bc.live; have bc_t := bc.lt; have f1 : Fr [] w w1 := Fr.trans (by with_reducible repeat (first | exact Fr.refl _ _ | assumption | refine Fr.alloc ?_ _ | refine Fr.drew ?_ | (refine Fr.setCell ?_ (.inr ?_) _; rotate_left; focus (first | (simp; done) | (simp; omega))) | (refine Fr.setCell ?_ (.inl ?_) _; rotate_left; focus (simp; done)))) hfr1 (fun x hx => .inr (by simp [blk] at hx; omega)); have hc1 := f1.cell_some hc0 (by simp))
        | (at_builtin; refine at_app (.tmp 35) (.tmp 38) rfl ?_; go_must (refine app_own _ rfl _ _ 26 rfl 3 (.int .i64 0) 1 8 Try.ints_tab w1.heap.size _ 0 0 [] rfl (own_litAt (by simp) rfl (by simp) (by unfold maxLen; omega) rfl) _ (r.globals.length - 1) _ (intVs gs) rfl (hvt'.fr0 (by with_reducible repeat (first | exact Fr.refl _ _ | assumption | refine Fr.alloc ?_ _ | refine Fr.drew ?_ | (refine Fr.setCell ?_ (.inr ?_) _; rotate_left; focus (first | (simp; done) | (simp; omega))) | (refine Fr.setCell ?_ (.inl ?_) _; rotate_left; focus (simp; done))))) (by simp [intVs]) (by omega) (by simp) ?_); intro ao2 cap2 w2 hown2 hfr2; have bb2 := Box.fr (B := w.heap.size + 1) (by with_reducible repeat (first | assumption | (apply Box.newAt; simp; done) | apply Box.alloc | apply Box.drew | apply Box.set | (apply Box.other; focus omega))) hfr2 (by simp [blk] <;> omega); (try simp only [List.setIfInBounds_toArray, List.set_cons_succ, List.set_cons_zero] at bb2); have bb2_c := bb2.cell_eq; have bb2_l := bb2.live; have bb2_t := bb2.lt; have bc2 := Box.fr (B := w.heap.size + 1 + 1) (by with_reducible repeat (first | assumption | (apply Box.newAt; simp; done) | apply Box.alloc | apply Box.drew | apply Box.set | (apply Box.other; focus omega))) hfr2 (by simp [blk] <;> omega); (try simp only [List.setIfInBounds_toArray, List.set_cons_succ, List.set_cons_zero] at bc2); have bc2_c := bc2.cell_eq; have bc2_l := bc2.live; have bc2_t := bc2.lt; have f12 : Fr [w.heap.size + 1, w.heap.size + 1 + 1] w1 w2 := Fr.trans (by with_reducible repeat (first | exact Fr.refl _ _ | assumption | refine Fr.alloc ?_ _ | refine Fr.drew ?_ | (refine Fr.setCell ?_ (.inr ?_) _; rotate_left; focus (first | (simp; done) | (simp; omega))) | (refine Fr.setCell ?_ (.inl ?_) _; rotate_left; focus (simp; done)))) hfr2 (fun x hx => .inr (by simp [blk] at hx; omega)); have f2 : Fr [] w w2 := f1.trans f12 (fun x hx => .inr (by simp at hx; omega))))
      all_goals
        simp only [Nat.zero_add, List.nil_append] at hown1 hown2
        have hbk1 := ownsRow_blk hown1
        have hbk2 := ownsRow_blk hown2
        first
          | refine ret_box (w.heap.size + 1) 6 #[.int .i64 r.fin, .int .i64 g, .int .i64 r.n, .slice ao1 r.out.length cap1, .int .i64 r.steps, .slice ao2 (r.globals.length - 1) cap2] _ (by with_reducible repeat (first | assumption | (apply Box.newAt; simp; done) | apply Box.alloc | apply Box.drew | apply Box.set | (apply Box.other; focus omega))) (by rfl) rfl rfl Try.underlying31 rfl (by kernel_rfl) rfl rfl ?_
          | refine ret_box (w.heap.size + 1) 6 #[.int .i64 r.fin, .int .i64 r.why, .int .i64 r.n, .slice ao1 r.out.length cap1, .int .i64 r.steps, .slice ao2 (r.globals.length - 1) cap2] _ (by with_reducible repeat (first | assumption | (apply Box.newAt; simp; done) | apply Box.alloc | apply Box.drew | apply Box.set | (apply Box.other; focus omega))) (by rfl) rfl rfl Try.underlying31 rfl (by kernel_rfl) rfl rfl ?_
        rw [hm.out]
        rw [← hgl.out] at hown2 ⊢
        have s1 : ∀ x ∈ blk ao1, x ∉ [w.heap.size + 1, w.heap.size + 1 + 1] := fun x hx => by have := hbk1 x hx; simp; omega
        have s2 : ∀ x ∈ blk ao2, x ∉ [w.heap.size + 1, w.heap.size + 1 + 1] := fun x hx => by have := hbk2 x hx; simp; omega
        refine ⟨_, rfl, _, res_shut (r := ⟨r.fin, _, r.n, r.out, r.steps, gs⟩) (ints_shut ((ownsRow_view hown1).fr (S := [w.heap.size + 1, w.heap.size + 1 + 1]) (by with_reducible repeat (first | exact Fr.refl _ _ | assumption | refine Fr.alloc ?_ _ | refine Fr.drew ?_ | (refine Fr.setCell ?_ (.inr ?_) _; rotate_left; focus (first | (simp; done) | (simp; omega))) | (refine Fr.setCell ?_ (.inl ?_) _; rotate_left; focus (simp; done)))) s1) hin1 (ownsRow_cap hown1)) (ints_shut ((ownsRow_view hown2).fr (S := [w.heap.size + 1, w.heap.size + 1 + 1]) (by with_reducible repeat (first | exact Fr.refl _ _ | assumption | refine Fr.alloc ?_ _ | refine Fr.drew ?_ | (refine Fr.setCell ?_ (.inr ?_) _; rotate_left; focus (first | (simp; done) | (simp; omega))) | (refine Fr.setCell ?_ (.inl ?_) _; rotate_left; focus (simp; done)))) s2) hin3 (ownsRow_cap hown2)) i1 (by assumption) i3 i4, ?_, by with_reducible repeat (first | exact Fr.refl _ _ | assumption | refine Fr.alloc ?_ _ | refine Fr.drew ?_ | (refine Fr.setCell ?_ (.inr ?_) _; rotate_left; focus (first | (simp; done) | (simp; omega))) | (refine Fr.setCell ?_ (.inl ?_) _; rotate_left; focus (simp; done)))⟩
        refine New.append (B' := w1.heap.size) ?_ ?_ ?_ (by omega)
        · split
          · exact New.nil _
          · exact ⟨by cases ao1 <;> simp [blk], fun x hx => by have := hbk1 x hx; omega⟩
        · split
          · exact New.nil _
          · exact ⟨by cases ao2 <;> simp [blk], fun x hx => (hbk2 x hx).1⟩
        · split
          · simp
          · exact fun x hx => (hbk1 x hx).2

set_option maxHeartbeats 2000000 in
theorem imean_any {F : List Nat} (r : Res) (cs : List Value) (w : World) (h : Is w F r cs) (hs1 : r.out.length ≤ 1048576) (hs2 : r.globals.length ≤ 1048576) :
    Calls Try.prog 18 #[.agg cs.toArray] w fun e w' => ∃ ds, e = .returned (.agg ds.toArray) ∧ ∃ G, Is w' G (meaning r) ds ∧ New w.heap.size G ∧ Fr [] w w' := by
  obtain ⟨a1, k1, a2, k2, F1, F2, rfl, rfl, g1, g2, i1, i2, i3, i4⟩ := res_open h
  obtain ⟨c1, k3, e1, _, hv1, hin1, hm1⟩ := ints_open g1
  obtain ⟨c2, k4, e2, _, hv2, hin2, hm2⟩ := ints_open g2
  simp only [List.cons.injEq, Value.slice.injEq, and_true, true_and] at e1 e2
  obtain ⟨rfl, rfl⟩ := e1
  obtain ⟨rfl, rfl⟩ := e2
  go_enter Try.func18, Try.ntmps18
  by_cases hg : r.globals = []
  · have hz : ((r.globals.length : Int) == 0) = true := by simp [hg]
    have hm : meaning r = ⟨r.fin, r.why, r.n, r.out, r.steps, r.globals⟩ := by simp [meaning, meanWhy, hg]
    replace hm := hid hm
    clear hg
    go_wp2_with (first
      | (at_builtin; refine at_app (.const (.slice none 0 0)) (.tmp 6) rfl ?_; go_must (refine app_own _ rfl _ _ 26 rfl 3 (.int .i64 0) 1 8 Try.ints_tab (w.heap.size + 3) none 0 0 [] rfl (World.ownsRow_nil _ _ _ _) _ r.out.length _ (intVs r.out) rfl (hv1.fr0 (by with_reducible repeat (first | exact Fr.refl _ _ | assumption | refine Fr.alloc ?_ _ | refine Fr.drew ?_ | (refine Fr.setCell ?_ (.inr ?_) _; rotate_left; focus (first | (simp; done) | (simp; omega))) | (refine Fr.setCell ?_ (.inl ?_) _; rotate_left; focus (simp; done))))) (by simp [intVs]) (by omega) (by simp <;> omega) ?_); intro ao1 cap1 w1 hown1 hfr1; have ba := Box.fr (B := w.heap.size) (by with_reducible repeat (first | assumption | (apply Box.newAt; simp; done) | apply Box.alloc | apply Box.drew | apply Box.set | (apply Box.other; focus omega))) hfr1 (by simp [blk] <;> omega); (try simp only [List.setIfInBounds_toArray, List.set_cons_succ, List.set_cons_zero] at ba); have ba_c := ba.cell_eq; have ba_l := ba.live; have ba_t := ba.lt; have bb := Box.fr (B := w.heap.size + 1) (by with_reducible repeat (first | assumption | (apply Box.newAt; simp; done) | apply Box.alloc | apply Box.drew | apply Box.set | (apply Box.other; focus omega))) hfr1 (by simp [blk] <;> omega); (try simp only [List.setIfInBounds_toArray, List.set_cons_succ, List.set_cons_zero] at bb); have bb_c := bb.cell_eq; have bb_l := bb.live; have bb_t := bb.lt; have bc := Box.fr (B := w.heap.size + 1 + 1) (by with_reducible repeat (first | assumption | (apply Box.newAt; simp; done) | apply Box.alloc | apply Box.drew | apply Box.set | (apply Box.other; focus omega))) hfr1 (by simp [blk] <;> omega); (try simp only [List.setIfInBounds_toArray, List.set_cons_succ, List.set_cons_zero] at bc); have bc_c := bc.cell_eq; have bc_l := bc.live; have bc_t := bc.lt; have f1 : Fr [] w w1 := Fr.trans (by with_reducible repeat (first | exact Fr.refl _ _ | assumption | refine Fr.alloc ?_ _ | refine Fr.drew ?_ | (refine Fr.setCell ?_ (.inr ?_) _; rotate_left; focus (first | (simp; done) | (simp; omega))) | (refine Fr.setCell ?_ (.inl ?_) _; rotate_left; focus (simp; done)))) hfr1 (fun x hx => .inr (by simp [blk] at hx)))
      | (at_builtin; refine at_app (.const (.slice none 0 0)) (.tmp 10) rfl ?_; go_must (refine app_own _ rfl _ _ 26 rfl 3 (.int .i64 0) 1 8 Try.ints_tab w1.heap.size none 0 0 [] rfl (World.ownsRow_nil _ _ _ _) _ r.globals.length _ (intVs r.globals) rfl (hv2.fr0 (by with_reducible repeat (first | exact Fr.refl _ _ | assumption | refine Fr.alloc ?_ _ | refine Fr.drew ?_ | (refine Fr.setCell ?_ (.inr ?_) _; rotate_left; focus (first | (simp; done) | (simp; omega))) | (refine Fr.setCell ?_ (.inl ?_) _; rotate_left; focus (simp; done))))) (by simp [intVs]) (by omega) (by simp) ?_); intro ao2 cap2 w2 hown2 hfr2; have ba2 := Box.fr (B := w.heap.size) (by with_reducible repeat (first | assumption | (apply Box.newAt; simp; done) | apply Box.alloc | apply Box.drew | apply Box.set | (apply Box.other; focus omega))) hfr2 (by simp [blk] <;> omega); (try simp only [List.setIfInBounds_toArray, List.set_cons_succ, List.set_cons_zero] at ba2); have ba2_c := ba2.cell_eq; have ba2_l := ba2.live; have ba2_t := ba2.lt; have bb2 := Box.fr (B := w.heap.size + 1) (by with_reducible repeat (first | assumption | (apply Box.newAt; simp; done) | apply Box.alloc | apply Box.drew | apply Box.set | (apply Box.other; focus omega))) hfr2 (by simp [blk] <;> omega); (try simp only [List.setIfInBounds_toArray, List.set_cons_succ, List.set_cons_zero] at bb2); have bb2_c := bb2.cell_eq; have bb2_l := bb2.live; have bb2_t := bb2.lt; have bc2 := Box.fr (B := w.heap.size + 1 + 1) (by with_reducible repeat (first | assumption | (apply Box.newAt; simp; done) | apply Box.alloc | apply Box.drew | apply Box.set | (apply Box.other; focus omega))) hfr2 (by simp [blk] <;> omega); (try simp only [List.setIfInBounds_toArray, List.set_cons_succ, List.set_cons_zero] at bc2); have bc2_c := bc2.cell_eq; have bc2_l := bc2.live; have bc2_t := bc2.lt; have f12 : Fr [w.heap.size + 1, w.heap.size + 1 + 1] w1 w2 := Fr.trans (by with_reducible repeat (first | exact Fr.refl _ _ | assumption | refine Fr.alloc ?_ _ | refine Fr.drew ?_ | (refine Fr.setCell ?_ (.inr ?_) _; rotate_left; focus (first | (simp; done) | (simp; omega))) | (refine Fr.setCell ?_ (.inl ?_) _; rotate_left; focus (simp; done)))) hfr2 (fun x hx => .inr (by simp [blk] at hx)); have f2 : Fr [] w w2 := f1.trans f12 (fun x hx => .inr (by simp at hx; omega)); simp only [Nat.zero_add, List.nil_append] at hown2))
    simp only [Nat.zero_add, List.nil_append] at hown1
    have hbk1 := ownsRow_blk hown1
    have hbk2 := ownsRow_blk hown2
    refine ret_box (w.heap.size + 1) 6 #[.int .i64 r.fin, .int .i64 r.why, .int .i64 r.n, .slice ao1 r.out.length cap1, .int .i64 r.steps, .slice ao2 r.globals.length cap2] _ (by with_reducible repeat (first | assumption | (apply Box.newAt; simp; done) | apply Box.alloc | apply Box.drew | apply Box.set | (apply Box.other; focus omega))) (by rfl) rfl rfl Try.underlying31 rfl (by kernel_rfl) rfl rfl ?_
    rw [hm.out]
    have s1 : ∀ x ∈ blk ao1, x ∉ [w.heap.size + 1, w.heap.size + 1 + 1] := fun x hx => by have := hbk1 x hx; simp; omega
    have s2 : ∀ x ∈ blk ao2, x ∉ [w.heap.size + 1, w.heap.size + 1 + 1] := fun x hx => by have := hbk2 x hx; simp; omega
    refine ⟨_, rfl, _, res_shut (r := ⟨r.fin, r.why, r.n, r.out, r.steps, r.globals⟩) (ints_shut ((ownsRow_view hown1).fr (S := [w.heap.size + 1, w.heap.size + 1 + 1]) (by with_reducible repeat (first | exact Fr.refl _ _ | assumption | refine Fr.alloc ?_ _ | refine Fr.drew ?_ | (refine Fr.setCell ?_ (.inr ?_) _; rotate_left; focus (first | (simp; done) | (simp; omega))) | (refine Fr.setCell ?_ (.inl ?_) _; rotate_left; focus (simp; done)))) s1) hin1 (ownsRow_cap hown1)) (ints_shut ((ownsRow_view hown2).fr (S := [w.heap.size + 1, w.heap.size + 1 + 1]) (by with_reducible repeat (first | exact Fr.refl _ _ | assumption | refine Fr.alloc ?_ _ | refine Fr.drew ?_ | (refine Fr.setCell ?_ (.inr ?_) _; rotate_left; focus (first | (simp; done) | (simp; omega))) | (refine Fr.setCell ?_ (.inl ?_) _; rotate_left; focus (simp; done)))) s2) hin2 (ownsRow_cap hown2)) i1 i2 i3 i4, ?_, by with_reducible repeat (first | exact Fr.refl _ _ | assumption | refine Fr.alloc ?_ _ | refine Fr.drew ?_ | (refine Fr.setCell ?_ (.inr ?_) _; rotate_left; focus (first | (simp; done) | (simp; omega))) | (refine Fr.setCell ?_ (.inl ?_) _; rotate_left; focus (simp; done)))⟩
    refine New.append (B' := w1.heap.size) ?_ ?_ ?_ (by omega)
    · split
      · exact New.nil _
      · exact ⟨by cases ao1 <;> simp [blk], fun x hx => by have := hbk1 x hx; omega⟩
    · split
      · exact New.nil _
      · exact ⟨by cases ao2 <;> simp [blk], fun x hx => (hbk2 x hx).1⟩
    · split
      · simp
      · exact fun x hx => (hbk1 x hx).2
  · have hz : ((r.globals.length : Int) == 0) = false := by simp [hg]
    obtain ⟨g, gs, hgs⟩ := List.exists_cons_of_ne_nil hg
    have hpos : 0 < r.globals.length := List.length_pos_iff.2 hg
    have hlt := View.block_lt hv2 hpos Nat.one_pos
    obtain ⟨b, o, rfl, hc⟩ := hv2.cells hpos
    have hb : b < w.heap.size := hlt b (by simp [blk])
    have hc0 : w.cell? ⟨b, o, none⟩ = some (.int .i64 g) := (hc 0 (.int .i64 g) (by simp [intVs, hgs])).1
    have hin3 : ∀ n ∈ gs, In64 n := fun n hn => hin2 n (by rw [hgs]; exact List.mem_cons_of_mem _ hn)
    have hgi : In64 g := hin2 g (by rw [hgs]; exact List.mem_cons_self)
    have hgl : gs.length = r.globals.length - 1 := by rw [hgs]; rfl
    have hq : ((r.fin == 2) = true ∧ (r.why == 1) = true ∧ (g != 0) = true ∧ meaning r = ⟨r.fin, g, r.n, r.out, r.steps, gs⟩) ∨ ((r.fin == 2) = false ∧ meaning r = ⟨r.fin, r.why, r.n, r.out, r.steps, gs⟩) ∨
        ((r.fin == 2) = true ∧ (r.why == 1) = false ∧ meaning r = ⟨r.fin, r.why, r.n, r.out, r.steps, gs⟩) ∨ ((r.fin == 2) = true ∧ (r.why == 1) = true ∧ (g != 0) = false ∧ meaning r = ⟨r.fin, r.why, r.n, r.out, r.steps, gs⟩) := by
      by_cases x1 : r.fin = 2 <;> by_cases x2 : r.why = 1 <;> by_cases x3 : g = 0 <;> simp [x1, x2, x3, meaning, meanWhy, hgs]
    replace hgs := hid hgs
    replace hgl := hid hgl
    clear hg
    rcases hq with ⟨q1, q2, q3, hm⟩ | hq
    · replace hm := hid hm
      go_wp2_with (first
        | (at_builtin; refine at_app (.const (.slice none 0 0)) (.tmp 6) rfl ?_; go_must (refine app_own _ rfl _ _ 26 rfl 3 (.int .i64 0) 1 8 Try.ints_tab (w.heap.size + 3) none 0 0 [] rfl (World.ownsRow_nil _ _ _ _) _ r.out.length _ (intVs r.out) rfl (hv1.fr0 (by with_reducible repeat (first | exact Fr.refl _ _ | assumption | refine Fr.alloc ?_ _ | refine Fr.drew ?_ | (refine Fr.setCell ?_ (.inr ?_) _; rotate_left; focus (first | (simp; done) | (simp; omega))) | (refine Fr.setCell ?_ (.inl ?_) _; rotate_left; focus (simp; done))))) (by simp [intVs]) (by omega) (by simp <;> omega) ?_); intro ao1 cap1 w1 hown1 hfr1; have ba := Box.fr (B := w.heap.size) (by with_reducible repeat (first | assumption | (apply Box.newAt; simp; done) | apply Box.alloc | apply Box.drew | apply Box.set | (apply Box.other; focus omega))) hfr1 (by simp [blk] <;> omega); (try simp only [List.setIfInBounds_toArray, List.set_cons_succ, List.set_cons_zero] at ba); have ba_c := ba.cell_eq; have ba_l := ba.live; have ba_t := ba.lt; have bb := Box.fr (B := w.heap.size + 1) (by with_reducible repeat (first | assumption | (apply Box.newAt; simp; done) | apply Box.alloc | apply Box.drew | apply Box.set | (apply Box.other; focus omega))) hfr1 (by simp [blk] <;> omega); (try simp only [List.setIfInBounds_toArray, List.set_cons_succ, List.set_cons_zero] at bb); have bb_c := bb.cell_eq; have bb_l := bb.live; have bb_t := bb.lt; have bc := Box.fr (B := w.heap.size + 1 + 1) (by with_reducible repeat (first | assumption | (apply Box.newAt; simp; done) | apply Box.alloc | apply Box.drew | apply Box.set | (apply Box.other; focus omega))) hfr1 (by simp [blk] <;> omega); (try simp only [List.setIfInBounds_toArray, List.set_cons_succ, List.set_cons_zero] at bc); have bc_c := bc.cell_eq; have bc_l := bc.live; have bc_t := bc.lt; have f1 : Fr [] w w1 := Fr.trans (by with_reducible repeat (first | exact Fr.refl _ _ | assumption | refine Fr.alloc ?_ _ | refine Fr.drew ?_ | (refine Fr.setCell ?_ (.inr ?_) _; rotate_left; focus (first | (simp; done) | (simp; omega))) | (refine Fr.setCell ?_ (.inl ?_) _; rotate_left; focus (simp; done)))) hfr1 (fun x hx => .inr (by simp [blk] at hx)))
        | (at_builtin; refine at_app (.const (.slice none 0 0)) (.tmp 10) rfl ?_; go_must (refine app_own _ rfl _ _ 26 rfl 3 (.int .i64 0) 1 8 Try.ints_tab w1.heap.size none 0 0 [] rfl (World.ownsRow_nil _ _ _ _) _ r.globals.length _ (intVs r.globals) rfl (hv2.fr0 (by with_reducible repeat (first | exact Fr.refl _ _ | assumption | refine Fr.alloc ?_ _ | refine Fr.drew ?_ | (refine Fr.setCell ?_ (.inr ?_) _; rotate_left; focus (first | (simp; done) | (simp; omega))) | (refine Fr.setCell ?_ (.inl ?_) _; rotate_left; focus (simp; done))))) (by simp [intVs]) (by omega) (by simp) ?_); intro ao2 cap2 w2 hown2 hfr2; have ba2 := Box.fr (B := w.heap.size) (by with_reducible repeat (first | assumption | (apply Box.newAt; simp; done) | apply Box.alloc | apply Box.drew | apply Box.set | (apply Box.other; focus omega))) hfr2 (by simp [blk] <;> omega); (try simp only [List.setIfInBounds_toArray, List.set_cons_succ, List.set_cons_zero] at ba2); have ba2_c := ba2.cell_eq; have ba2_l := ba2.live; have ba2_t := ba2.lt; have bb2 := Box.fr (B := w.heap.size + 1) (by with_reducible repeat (first | assumption | (apply Box.newAt; simp; done) | apply Box.alloc | apply Box.drew | apply Box.set | (apply Box.other; focus omega))) hfr2 (by simp [blk] <;> omega); (try simp only [List.setIfInBounds_toArray, List.set_cons_succ, List.set_cons_zero] at bb2); have bb2_c := bb2.cell_eq; have bb2_l := bb2.live; have bb2_t := bb2.lt; have bc2 := Box.fr (B := w.heap.size + 1 + 1) (by with_reducible repeat (first | assumption | (apply Box.newAt; simp; done) | apply Box.alloc | apply Box.drew | apply Box.set | (apply Box.other; focus omega))) hfr2 (by simp [blk] <;> omega); (try simp only [List.setIfInBounds_toArray, List.set_cons_succ, List.set_cons_zero] at bc2); have bc2_c := bc2.cell_eq; have bc2_l := bc2.live; have bc2_t := bc2.lt; have f12 : Fr [w.heap.size + 1, w.heap.size + 1 + 1] w1 w2 := Fr.trans (by with_reducible repeat (first | exact Fr.refl _ _ | assumption | refine Fr.alloc ?_ _ | refine Fr.drew ?_ | (refine Fr.setCell ?_ (.inr ?_) _; rotate_left; focus (first | (simp; done) | (simp; omega))) | (refine Fr.setCell ?_ (.inl ?_) _; rotate_left; focus (simp; done)))) hfr2 (fun x hx => .inr (by simp [blk] at hx)); have f2 : Fr [] w w2 := f1.trans f12 (fun x hx => .inr (by simp at hx; omega)); simp only [Nat.zero_add, List.nil_append] at hown2; have hbk2 := ownsRow_blk hown2; have hcp := ownsRow_cap hown2; obtain ⟨g2, o2, rfl, hc2⟩ := (ownsRow_view hown2).cells hpos; have hc1 := f2.cell_some hc0 (by simp); have ht2 := hid (tail_is hown2 hgs.out hin3)))
      · simp only [Nat.zero_add, List.nil_append] at hown1
        have hbk1 := ownsRow_blk hown1
        have hg2 := hbk2 g2 (by simp [blk])
        have s1 : ∀ x ∈ blk ao1, x ∉ [w.heap.size + 1, w.heap.size + 1 + 1] := fun x hx => by have := hbk1 x hx; simp; omega
        have s2 : ∀ x ∈ (if gs = [] then [] else [g2]), x ∉ [w.heap.size + 1, w.heap.size + 1 + 1] := by
          intro x hx
          split at hx
          · simp at hx
          · simp at hx ⊢; omega
        have nw : New w.heap.size ((if r.out = [] then [] else blk ao1) ++ (if gs = [] then [] else [g2])) := by
          refine New.append (B' := w1.heap.size) ?_ ?_ ?_ (by omega)
          · split
            · exact New.nil _
            · exact ⟨by cases ao1 <;> simp [blk], fun x hx => by have := hbk1 x hx; omega⟩
          · split
            · exact New.nil _
            · exact ⟨by simp, fun x hx => by simp at hx; omega⟩
          · split
            · simp
            · exact fun x hx => (hbk1 x hx).2
        refine ret_box (w.heap.size + 1) 6 #[.int .i64 r.fin, .int .i64 g, .int .i64 r.n, .slice ao1 r.out.length cap1, .int .i64 r.steps, .slice (some ⟨g2, o2, none⟩) (r.globals.length - 1) 0] _ (by with_reducible repeat (first | assumption | (apply Box.newAt; simp; done) | apply Box.alloc | apply Box.drew | apply Box.set | (apply Box.other; focus omega))) (by rfl) rfl rfl Try.underlying31 rfl (by kernel_rfl) rfl rfl ?_
        rw [hm.out]
        refine ⟨_, rfl, _, res_shut (r := ⟨r.fin, g, r.n, r.out, r.steps, gs⟩) (F1 := if r.out = [] then [] else blk ao1) (F2 := if gs = [] then [] else [g2]) ?_ ?_ i1 (by assumption) i3 i4, nw, ?_⟩
        · exact ints_shut ((ownsRow_view hown1).fr (S := [w.heap.size + 1, w.heap.size + 1 + 1]) (by with_reducible repeat (first | exact Fr.refl _ _ | assumption | refine Fr.alloc ?_ _ | refine Fr.drew ?_ | (refine Fr.setCell ?_ (.inr ?_) _; rotate_left; focus (first | (simp; done) | (simp; omega))) | (refine Fr.setCell ?_ (.inl ?_) _; rotate_left; focus (simp; done)))) s1) hin1 (ownsRow_cap hown1)
        · exact Rep.fr (ht2.out.2 (by assumption)) (S := [w.heap.size + 1, w.heap.size + 1 + 1]) (by with_reducible repeat (first | exact Fr.refl _ _ | assumption | refine Fr.alloc ?_ _ | refine Fr.drew ?_ | (refine Fr.setCell ?_ (.inr ?_) _; rotate_left; focus (first | (simp; done) | (simp; omega))) | (refine Fr.setCell ?_ (.inl ?_) _; rotate_left; focus (simp; done)))) s2
        · with_reducible repeat (first | exact Fr.refl _ _ | assumption | refine Fr.alloc ?_ _ | refine Fr.drew ?_ | (refine Fr.setCell ?_ (.inr ?_) _; rotate_left; focus (first | (simp; done) | (simp; omega))) | (refine Fr.setCell ?_ (.inl ?_) _; rotate_left; focus (simp; done)))
      · simp only [Nat.zero_add, List.nil_append] at hown1
        have hbk1 := ownsRow_blk hown1
        have hg2 := hbk2 g2 (by simp [blk])
        have s1 : ∀ x ∈ blk ao1, x ∉ [w.heap.size + 1, w.heap.size + 1 + 1] := fun x hx => by have := hbk1 x hx; simp; omega
        have s2 : ∀ x ∈ (if gs = [] then [] else [g2]), x ∉ [w.heap.size + 1, w.heap.size + 1 + 1] := by
          intro x hx
          split at hx
          · simp at hx
          · simp at hx ⊢; omega
        have nw : New w.heap.size ((if r.out = [] then [] else blk ao1) ++ (if gs = [] then [] else [g2])) := by
          refine New.append (B' := w1.heap.size) ?_ ?_ ?_ (by omega)
          · split
            · exact New.nil _
            · exact ⟨by cases ao1 <;> simp [blk], fun x hx => by have := hbk1 x hx; omega⟩
          · split
            · exact New.nil _
            · exact ⟨by simp, fun x hx => by simp at hx; omega⟩
          · split
            · simp
            · exact fun x hx => (hbk1 x hx).2
        refine ret_box (w.heap.size + 1) 6 #[.int .i64 r.fin, .int .i64 g, .int .i64 r.n, .slice ao1 r.out.length cap1, .int .i64 r.steps, .slice (some ⟨g2, o2 + 1, none⟩) (r.globals.length - 1) (cap2 - 1)] _ (by with_reducible repeat (first | assumption | (apply Box.newAt; simp; done) | apply Box.alloc | apply Box.drew | apply Box.set | (apply Box.other; focus omega))) (by rfl) rfl rfl Try.underlying31 rfl (by kernel_rfl) rfl rfl ?_
        rw [hm.out]
        refine ⟨_, rfl, _, res_shut (r := ⟨r.fin, g, r.n, r.out, r.steps, gs⟩) (F1 := if r.out = [] then [] else blk ao1) (F2 := if gs = [] then [] else [g2]) ?_ ?_ i1 (by assumption) i3 i4, nw, ?_⟩
        · exact ints_shut ((ownsRow_view hown1).fr (S := [w.heap.size + 1, w.heap.size + 1 + 1]) (by with_reducible repeat (first | exact Fr.refl _ _ | assumption | refine Fr.alloc ?_ _ | refine Fr.drew ?_ | (refine Fr.setCell ?_ (.inr ?_) _; rotate_left; focus (first | (simp; done) | (simp; omega))) | (refine Fr.setCell ?_ (.inl ?_) _; rotate_left; focus (simp; done)))) s1) hin1 (ownsRow_cap hown1)
        · exact Rep.fr ht2.out.1 (S := [w.heap.size + 1, w.heap.size + 1 + 1]) (by with_reducible repeat (first | exact Fr.refl _ _ | assumption | refine Fr.alloc ?_ _ | refine Fr.drew ?_ | (refine Fr.setCell ?_ (.inr ?_) _; rotate_left; focus (first | (simp; done) | (simp; omega))) | (refine Fr.setCell ?_ (.inl ?_) _; rotate_left; focus (simp; done)))) s2
        · with_reducible repeat (first | exact Fr.refl _ _ | assumption | refine Fr.alloc ?_ _ | refine Fr.drew ?_ | (refine Fr.setCell ?_ (.inr ?_) _; rotate_left; focus (first | (simp; done) | (simp; omega))) | (refine Fr.setCell ?_ (.inl ?_) _; rotate_left; focus (simp; done)))
    rcases hq with ⟨q1, hm⟩ | ⟨q1, q2, hm⟩ | ⟨q1, q2, q3, hm⟩
    all_goals
      replace hm := hid hm
      go_wp2_with (first
        | (at_builtin; refine at_app (.const (.slice none 0 0)) (.tmp 6) rfl ?_; go_must (refine app_own _ rfl _ _ 26 rfl 3 (.int .i64 0) 1 8 Try.ints_tab (w.heap.size + 3) none 0 0 [] rfl (World.ownsRow_nil _ _ _ _) _ r.out.length _ (intVs r.out) rfl (hv1.fr0 (by with_reducible repeat (first | exact Fr.refl _ _ | assumption | refine Fr.alloc ?_ _ | refine Fr.drew ?_ | (refine Fr.setCell ?_ (.inr ?_) _; rotate_left; focus (first | (simp; done) | (simp; omega))) | (refine Fr.setCell ?_ (.inl ?_) _; rotate_left; focus (simp; done))))) (by simp [intVs]) (by omega) (by simp <;> omega) ?_); intro ao1 cap1 w1 hown1 hfr1; have ba := Box.fr (B := w.heap.size) (by with_reducible repeat (first | assumption | (apply Box.newAt; simp; done) | apply Box.alloc | apply Box.drew | apply Box.set | (apply Box.other; focus omega))) hfr1 (by simp [blk] <;> omega); (try simp only [List.setIfInBounds_toArray, List.set_cons_succ, List.set_cons_zero] at ba); have ba_c := ba.cell_eq; have ba_l := ba.live; have ba_t := ba.lt; have bb := Box.fr (B := w.heap.size + 1) (by with_reducible repeat (first | assumption | (apply Box.newAt; simp; done) | apply Box.alloc | apply Box.drew | apply Box.set | (apply Box.other; focus omega))) hfr1 (by simp [blk] <;> omega); (try simp only [List.setIfInBounds_toArray, List.set_cons_succ, List.set_cons_zero] at bb); have bb_c := bb.cell_eq; have bb_l := bb.live; have bb_t := bb.lt; have bc := Box.fr (B := w.heap.size + 1 + 1) (by with_reducible repeat (first | assumption | (apply Box.newAt; simp; done) | apply Box.alloc | apply Box.drew | apply Box.set | (apply Box.other; focus omega))) hfr1 (by simp [blk] <;> omega); (try simp only [List.setIfInBounds_toArray, List.set_cons_succ, List.set_cons_zero] at bc); have bc_c := bc.cell_eq; have bc_l := bc.live; have bc_t := bc.lt; have f1 : Fr [] w w1 := Fr.trans (by with_reducible repeat (first | exact Fr.refl _ _ | assumption | refine Fr.alloc ?_ _ | refine Fr.drew ?_ | (refine Fr.setCell ?_ (.inr ?_) _; rotate_left; focus (first | (simp; done) | (simp; omega))) | (refine Fr.setCell ?_ (.inl ?_) _; rotate_left; focus (simp; done)))) hfr1 (fun x hx => .inr (by simp [blk] at hx)))
        | (at_builtin; refine at_app (.const (.slice none 0 0)) (.tmp 10) rfl ?_; go_must (refine app_own _ rfl _ _ 26 rfl 3 (.int .i64 0) 1 8 Try.ints_tab w1.heap.size none 0 0 [] rfl (World.ownsRow_nil _ _ _ _) _ r.globals.length _ (intVs r.globals) rfl (hv2.fr0 (by with_reducible repeat (first | exact Fr.refl _ _ | assumption | refine Fr.alloc ?_ _ | refine Fr.drew ?_ | (refine Fr.setCell ?_ (.inr ?_) _; rotate_left; focus (first | (simp; done) | (simp; omega))) | (refine Fr.setCell ?_ (.inl ?_) _; rotate_left; focus (simp; done))))) (by simp [intVs]) (by omega) (by simp) ?_); intro ao2 cap2 w2 hown2 hfr2; have ba2 := Box.fr (B := w.heap.size) (by with_reducible repeat (first | assumption | (apply Box.newAt; simp; done) | apply Box.alloc | apply Box.drew | apply Box.set | (apply Box.other; focus omega))) hfr2 (by simp [blk] <;> omega); (try simp only [List.setIfInBounds_toArray, List.set_cons_succ, List.set_cons_zero] at ba2); have ba2_c := ba2.cell_eq; have ba2_l := ba2.live; have ba2_t := ba2.lt; have bb2 := Box.fr (B := w.heap.size + 1) (by with_reducible repeat (first | assumption | (apply Box.newAt; simp; done) | apply Box.alloc | apply Box.drew | apply Box.set | (apply Box.other; focus omega))) hfr2 (by simp [blk] <;> omega); (try simp only [List.setIfInBounds_toArray, List.set_cons_succ, List.set_cons_zero] at bb2); have bb2_c := bb2.cell_eq; have bb2_l := bb2.live; have bb2_t := bb2.lt; have bc2 := Box.fr (B := w.heap.size + 1 + 1) (by with_reducible repeat (first | assumption | (apply Box.newAt; simp; done) | apply Box.alloc | apply Box.drew | apply Box.set | (apply Box.other; focus omega))) hfr2 (by simp [blk] <;> omega); (try simp only [List.setIfInBounds_toArray, List.set_cons_succ, List.set_cons_zero] at bc2); have bc2_c := bc2.cell_eq; have bc2_l := bc2.live; have bc2_t := bc2.lt; have f12 : Fr [w.heap.size + 1, w.heap.size + 1 + 1] w1 w2 := Fr.trans (by with_reducible repeat (first | exact Fr.refl _ _ | assumption | refine Fr.alloc ?_ _ | refine Fr.drew ?_ | (refine Fr.setCell ?_ (.inr ?_) _; rotate_left; focus (first | (simp; done) | (simp; omega))) | (refine Fr.setCell ?_ (.inl ?_) _; rotate_left; focus (simp; done)))) hfr2 (fun x hx => .inr (by simp [blk] at hx)); have f2 : Fr [] w w2 := f1.trans f12 (fun x hx => .inr (by simp at hx; omega)); simp only [Nat.zero_add, List.nil_append] at hown2; have hbk2 := ownsRow_blk hown2; have hcp := ownsRow_cap hown2; obtain ⟨g2, o2, rfl, hc2⟩ := (ownsRow_view hown2).cells hpos; have hc1 := f2.cell_some hc0 (by simp); have ht2 := hid (tail_is hown2 hgs.out hin3)))
      · simp only [Nat.zero_add, List.nil_append] at hown1
        have hbk1 := ownsRow_blk hown1
        have hg2 := hbk2 g2 (by simp [blk])
        have s1 : ∀ x ∈ blk ao1, x ∉ [w.heap.size + 1, w.heap.size + 1 + 1] := fun x hx => by have := hbk1 x hx; simp; omega
        have s2 : ∀ x ∈ (if gs = [] then [] else [g2]), x ∉ [w.heap.size + 1, w.heap.size + 1 + 1] := by
          intro x hx
          split at hx
          · simp at hx
          · simp at hx ⊢; omega
        have nw : New w.heap.size ((if r.out = [] then [] else blk ao1) ++ (if gs = [] then [] else [g2])) := by
          refine New.append (B' := w1.heap.size) ?_ ?_ ?_ (by omega)
          · split
            · exact New.nil _
            · exact ⟨by cases ao1 <;> simp [blk], fun x hx => by have := hbk1 x hx; omega⟩
          · split
            · exact New.nil _
            · exact ⟨by simp, fun x hx => by simp at hx; omega⟩
          · split
            · simp
            · exact fun x hx => (hbk1 x hx).2
        refine ret_box (w.heap.size + 1) 6 #[.int .i64 r.fin, .int .i64 r.why, .int .i64 r.n, .slice ao1 r.out.length cap1, .int .i64 r.steps, .slice (some ⟨g2, o2, none⟩) (r.globals.length - 1) 0] _ (by with_reducible repeat (first | assumption | (apply Box.newAt; simp; done) | apply Box.alloc | apply Box.drew | apply Box.set | (apply Box.other; focus omega))) (by rfl) rfl rfl Try.underlying31 rfl (by kernel_rfl) rfl rfl ?_
        rw [hm.out]
        refine ⟨_, rfl, _, res_shut (r := ⟨r.fin, r.why, r.n, r.out, r.steps, gs⟩) (F1 := if r.out = [] then [] else blk ao1) (F2 := if gs = [] then [] else [g2]) ?_ ?_ i1 (by assumption) i3 i4, nw, ?_⟩
        · exact ints_shut ((ownsRow_view hown1).fr (S := [w.heap.size + 1, w.heap.size + 1 + 1]) (by with_reducible repeat (first | exact Fr.refl _ _ | assumption | refine Fr.alloc ?_ _ | refine Fr.drew ?_ | (refine Fr.setCell ?_ (.inr ?_) _; rotate_left; focus (first | (simp; done) | (simp; omega))) | (refine Fr.setCell ?_ (.inl ?_) _; rotate_left; focus (simp; done)))) s1) hin1 (ownsRow_cap hown1)
        · exact Rep.fr (ht2.out.2 (by assumption)) (S := [w.heap.size + 1, w.heap.size + 1 + 1]) (by with_reducible repeat (first | exact Fr.refl _ _ | assumption | refine Fr.alloc ?_ _ | refine Fr.drew ?_ | (refine Fr.setCell ?_ (.inr ?_) _; rotate_left; focus (first | (simp; done) | (simp; omega))) | (refine Fr.setCell ?_ (.inl ?_) _; rotate_left; focus (simp; done)))) s2
        · with_reducible repeat (first | exact Fr.refl _ _ | assumption | refine Fr.alloc ?_ _ | refine Fr.drew ?_ | (refine Fr.setCell ?_ (.inr ?_) _; rotate_left; focus (first | (simp; done) | (simp; omega))) | (refine Fr.setCell ?_ (.inl ?_) _; rotate_left; focus (simp; done)))
      · simp only [Nat.zero_add, List.nil_append] at hown1
        have hbk1 := ownsRow_blk hown1
        have hg2 := hbk2 g2 (by simp [blk])
        have s1 : ∀ x ∈ blk ao1, x ∉ [w.heap.size + 1, w.heap.size + 1 + 1] := fun x hx => by have := hbk1 x hx; simp; omega
        have s2 : ∀ x ∈ (if gs = [] then [] else [g2]), x ∉ [w.heap.size + 1, w.heap.size + 1 + 1] := by
          intro x hx
          split at hx
          · simp at hx
          · simp at hx ⊢; omega
        have nw : New w.heap.size ((if r.out = [] then [] else blk ao1) ++ (if gs = [] then [] else [g2])) := by
          refine New.append (B' := w1.heap.size) ?_ ?_ ?_ (by omega)
          · split
            · exact New.nil _
            · exact ⟨by cases ao1 <;> simp [blk], fun x hx => by have := hbk1 x hx; omega⟩
          · split
            · exact New.nil _
            · exact ⟨by simp, fun x hx => by simp at hx; omega⟩
          · split
            · simp
            · exact fun x hx => (hbk1 x hx).2
        refine ret_box (w.heap.size + 1) 6 #[.int .i64 r.fin, .int .i64 r.why, .int .i64 r.n, .slice ao1 r.out.length cap1, .int .i64 r.steps, .slice (some ⟨g2, o2 + 1, none⟩) (r.globals.length - 1) (cap2 - 1)] _ (by with_reducible repeat (first | assumption | (apply Box.newAt; simp; done) | apply Box.alloc | apply Box.drew | apply Box.set | (apply Box.other; focus omega))) (by rfl) rfl rfl Try.underlying31 rfl (by kernel_rfl) rfl rfl ?_
        rw [hm.out]
        refine ⟨_, rfl, _, res_shut (r := ⟨r.fin, r.why, r.n, r.out, r.steps, gs⟩) (F1 := if r.out = [] then [] else blk ao1) (F2 := if gs = [] then [] else [g2]) ?_ ?_ i1 (by assumption) i3 i4, nw, ?_⟩
        · exact ints_shut ((ownsRow_view hown1).fr (S := [w.heap.size + 1, w.heap.size + 1 + 1]) (by with_reducible repeat (first | exact Fr.refl _ _ | assumption | refine Fr.alloc ?_ _ | refine Fr.drew ?_ | (refine Fr.setCell ?_ (.inr ?_) _; rotate_left; focus (first | (simp; done) | (simp; omega))) | (refine Fr.setCell ?_ (.inl ?_) _; rotate_left; focus (simp; done)))) s1) hin1 (ownsRow_cap hown1)
        · exact Rep.fr ht2.out.1 (S := [w.heap.size + 1, w.heap.size + 1 + 1]) (by with_reducible repeat (first | exact Fr.refl _ _ | assumption | refine Fr.alloc ?_ _ | refine Fr.drew ?_ | (refine Fr.setCell ?_ (.inr ?_) _; rotate_left; focus (first | (simp; done) | (simp; omega))) | (refine Fr.setCell ?_ (.inl ?_) _; rotate_left; focus (simp; done)))) s2
        · with_reducible repeat (first | exact Fr.refl _ _ | assumption | refine Fr.alloc ?_ _ | refine Fr.drew ?_ | (refine Fr.setCell ?_ (.inr ?_) _; rotate_left; focus (first | (simp; done) | (simp; omega))) | (refine Fr.setCell ?_ (.inl ?_) _; rotate_left; focus (simp; done)))

end Go.Proofs.Ytmepniddkajckaa
