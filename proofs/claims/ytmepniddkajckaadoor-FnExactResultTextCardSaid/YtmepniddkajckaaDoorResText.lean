/- Contracts: ResultText, both sides. -/
import Derived.Test.YtmepniddkajckaaDoorRes
import Derived.Test.YtmepniddkajckaaDoorText
import Derived.Test.YtmepniddkajckaaDoorWithin
namespace Go.Proofs.YtmepniddkajckaaDoor
attribute [local go_sem ↓] Go.wp_at_zero Go.wp_at_succ
open Go.RowKit
open Rep (Is sz)

def resText (r : Res) : List UInt8 :=
  if r.fin = 1 then lineL ([111, 117, 116] : List UInt8) r.out ++ lineL ([100, 111, 110, 101] : List UInt8) [r.n]
  else if r.fin = 2 then lineL ([111, 117, 116] : List UInt8) r.out ++ lineL ([116, 114, 97, 112] : List UInt8) [r.why]
  else if r.fin = 3 then lineL ([111, 117, 116] : List UInt8) r.out ++ ([102, 117, 101, 108, 10] : List UInt8)
  else if r.fin = 4 then lineL ([111, 117, 116] : List UInt8) r.out ++ ([98, 97, 100, 10] : List UInt8)
  else if r.fin = 5 then lineL ([111, 117, 116] : List UInt8) r.out ++ ([100, 101, 101, 112, 10] : List UInt8)
  else []

/-- []int{x}. -/
theorem one_is (w : World) (x : Int) (h : In64 x) : Is (w.alloc (.cells #[.int .i64 x] 3)) [w.heap.size] [x] [.slice (some ⟨w.heap.size, 0, none⟩) 1 1] :=
  ints_shut (l := [x]) (a := some ⟨w.heap.size, 0, none⟩) (cap := 1) (view_lit' _ _ _ 1 1 _ rfl rfl) (by simpa using h) (by unfold maxLen; simp)

theorem srestext_any {F : List Nat} (r : Res) (cs : List Value) (w : World) (h : Is w F r cs) (hs : r.out.length ≤ 1048576) :
    Calls Tryd.prog 18 #[.agg cs.toArray] w fun e w' => e = .returned (.string ⟨(resText r).toArray⟩) ∧ Fr [] w w' := by
  obtain ⟨a1, k1, a2, k2, F1, F2, rfl, rfl, g1, g2, i1, i2, i3, i4⟩ := res_open h
  go_enter Tryd.func18, Tryd.ntmps18
  go_wp2_with fail
  with_reducible refine (sline_any _ r.out _ _ (g1.fr0 (by with_reducible repeat (first | exact Fr.refl _ _ | assumption | refine Fr.alloc ?_ _ | refine Fr.drew ?_ | (refine Fr.setCell ?_ (.inr ?_) _; rotate_left; focus (first | (simp; done) | (simp; omega))) | (refine Fr.setCell ?_ (.inl ?_) _; rotate_left; focus (simp; done))))) hs (by decide +kernel)).mono ?_
  rintro e w2 ⟨rfl, hf2⟩
  have ba := Box.fr0 (B := w.heap.size) (by with_reducible repeat (first | assumption | (apply Box.newAt; simp; done) | apply Box.alloc | apply Box.drew | apply Box.set | (apply Box.other; focus omega))) hf2; (try simp only [List.setIfInBounds_toArray, List.set_cons_succ, List.set_cons_zero] at ba); have ba_c := ba.cell_eq; have ba_l := ba.live; have ba_t := ba.lt
  have fr2 := hf2.un
  have hsl := lineL_len [111, 117, 116] r.out
  simp only [List.length_cons, List.length_nil] at hsl
  by_cases c1 : r.fin = 1
  · have e := hid (show resText r = lineL ([111, 117, 116] : List UInt8) r.out ++ lineL ([100, 111, 110, 101] : List UInt8) [r.n] by simp [resText, c1])
    have hl2 := lineL_len [100, 111, 110, 101] [r.n]
    simp only [List.length_cons, List.length_nil] at hl2
    go_wp2_with fail
    with_reducible refine (sline_any _ [r.n] _ _ (one_is w2 _ i3) (by simp) (by decide +kernel)).mono ?_
    rintro e w3 ⟨rfl, hf3⟩
    go_wp2
    go_ret
    exact ⟨by rw [e.out, ← str_app]; rfl, fr2.trans0 hf3.un⟩
  by_cases c2 : r.fin = 2
  · have e := hid (show resText r = lineL ([111, 117, 116] : List UInt8) r.out ++ lineL ([116, 114, 97, 112] : List UInt8) [r.why] by simp [resText, c2])
    have hl2 := lineL_len [116, 114, 97, 112] [r.why]
    simp only [List.length_cons, List.length_nil] at hl2
    go_wp2_with fail
    with_reducible refine (sline_any _ [r.why] _ _ (one_is w2 _ i2) (by simp) (by decide +kernel)).mono ?_
    rintro e w3 ⟨rfl, hf3⟩
    go_wp2
    go_ret
    exact ⟨by rw [e.out, ← str_app]; rfl, fr2.trans0 hf3.un⟩
  by_cases c3 : r.fin = 3
  · have e := hid (show resText r = lineL ([111, 117, 116] : List UInt8) r.out ++ ([102, 117, 101, 108, 10] : List UInt8) by simp [resText, c3])
    go_wp2
    go_ret
    exact ⟨by rw [e.out, ← str_app]; rfl, fr2⟩
  by_cases c4 : r.fin = 4
  · have e := hid (show resText r = lineL ([111, 117, 116] : List UInt8) r.out ++ ([98, 97, 100, 10] : List UInt8) by simp [resText, c4])
    go_wp2
    go_ret
    exact ⟨by rw [e.out, ← str_app]; rfl, fr2⟩
  by_cases c5 : r.fin = 5
  · have e := hid (show resText r = lineL ([111, 117, 116] : List UInt8) r.out ++ ([100, 101, 101, 112, 10] : List UInt8) by simp [resText, c5])
    go_wp2
    go_ret
    exact ⟨by rw [e.out, ← str_app]; rfl, fr2⟩
  have e := hid (show resText r = [] by simp [resText, c1, c2, c3, c4, c5])
  go_wp2
  go_ret
  exact ⟨by rw [e.out]; rfl, fr2⟩

set_option maxHeartbeats 1000000 in
theorem irestext_any {F : List Nat} (r : Res) (cs : List Value) (w : World) (h : Is w F r cs) (hs : r.out.length ≤ 1048576) (ht : Pow w) :
    Calls Tryd.prog 20 #[.agg cs.toArray] w fun e w' => e = .returned (.string ⟨(resText r).toArray⟩) ∧ Fr [] w w' := by
  obtain ⟨a1, k1, a2, k2, F1, F2, rfl, rfl, g1, g2, i1, i2, i3, i4⟩ := res_open h
  obtain ⟨c1, k3, e1, _, hv1, hin1, hm1⟩ := ints_open g1
  simp only [List.cons.injEq, Value.slice.injEq, and_true, true_and] at e1
  obtain ⟨rfl, rfl⟩ := e1
  unfold maxLen at hm1
  go_enter Tryd.func20, Tryd.ntmps20
  go_wp2_with fail
  with_reducible refine (within_any r.fin 1 5 _).mono ?_
  rintro e w2 ⟨rfl, rfl⟩
  by_cases c0 : 1 ≤ r.fin ∧ r.fin ≤ 5
  · rw [decide_eq_true c0]
    go_wp2
    go_loopw [3, 13] (fun s i wr => ∃ k : Nat, k ≤ r.out.length ∧ i = .int .i64 k ∧ s = .string ⟨(headL ([111, 117, 116] : List UInt8) r.out k).toArray⟩ ∧ Fr [] w wr ∧ Box wr w.heap.size #[.int .i64 r.fin, .int .i64 r.why, .int .i64 r.n, .slice a1 r.out.length k1, .int .i64 r.steps, .slice a2 r.globals.length k2]) (fun _ i _ => r.out.length - (intOf i).toNat)
    case atStart => exact ⟨0, by omega, rfl, by rw [headL_zero], by with_reducible repeat (first | exact Fr.refl _ _ | assumption | refine Fr.alloc ?_ _ | refine Fr.drew ?_ | (refine Fr.setCell ?_ (.inr ?_) _; rotate_left; focus (first | (simp; done) | (simp; omega))) | (refine Fr.setCell ?_ (.inl ?_) _; rotate_left; focus (simp; done))), by with_reducible repeat (first | assumption | (apply Box.newAt; simp; done) | apply Box.alloc | apply Box.drew | apply Box.set | (apply Box.other; focus omega))⟩
    case round =>
      obtain ⟨k, hk, rfl, rfl, hf, BA⟩ := hrel
      have hl1 := headL_len [111, 117, 116] r.out k hk
      simp only [List.length_cons, List.length_nil] at hl1
      have BAc := BA.cell_eq
      by_cases hlt : k < r.out.length
      · obtain ⟨b, o, rfl, hc⟩ := (hv1.fr0 hf).at (by omega)
        have hc := hc k (by rw [intVs_length]; exact hlt)
        simp only [intVs, List.getElem_map] at hc
        have hl2 := numL_len r.out[k]
        have hsn := hid (headL_succ [111, 117, 116] r.out k hlt)
        go_wp2_with fail
        have hN := inum_any r.out[k] wr (ht.fr0 hf)
        with_reducible refine hN.mono ?_
        rintro e w2 ⟨rfl, hf2⟩
        go_wp2
        go_roundw
        case rel => exact ⟨k + 1, by omega, by go_num, by rw [hsn.out]; simp [str_app], hf.trans0 hf2, BA.fr0 hf2⟩
        case measure => simp [intOf]; omega
      · obtain rfl : k = r.out.length := by omega
        have htr := ht.fr0 hf
        have hc5 : r.fin = 1 ∨ r.fin = 2 ∨ r.fin = 3 ∨ r.fin = 4 ∨ r.fin = 5 := by omega
        have BAt := BA.lt
        have hl1' : (headL ([111, 117, 116] : List UInt8) r.out r.out.length).length ≤ 4503599628419075 := by omega
        rcases hc5 with q | q | q | q | q
        · have e := hid (show resText r = lineL ([111, 117, 116] : List UInt8) r.out ++ lineL ([100, 111, 110, 101] : List UInt8) [r.n] by simp [resText, q])
          have hl2 := numL_len r.n
          have hN : ∀ w', Fr [] wr w' → _ := fun w' hf' => inum_any r.n w' (htr.fr0 hf')
          go_wp2_with fail
          with_reducible refine (hN _ (by with_reducible repeat (first | exact Fr.refl _ _ | assumption | refine Fr.alloc ?_ _ | refine Fr.drew ?_ | (refine Fr.setCell ?_ (.inr ?_) _; rotate_left; focus (first | (simp; done) | (simp; omega))) | (refine Fr.setCell ?_ (.inl ?_) _; rotate_left; focus (simp; done))))).mono ?_
          rintro e w3 ⟨rfl, hf3⟩
          go_wp2
          go_ret
          exact ⟨by rw [e.out]; simp [str_app, lineL, headL, sepNum], hf.trans0 hf3.un⟩
        · have e := hid (show resText r = lineL ([111, 117, 116] : List UInt8) r.out ++ lineL ([116, 114, 97, 112] : List UInt8) [r.why] by simp [resText, q])
          have hl2 := numL_len r.why
          have hN : ∀ w', Fr [] wr w' → _ := fun w' hf' => inum_any r.why w' (htr.fr0 hf')
          go_wp2_with fail
          with_reducible refine (hN _ (by with_reducible repeat (first | exact Fr.refl _ _ | assumption | refine Fr.alloc ?_ _ | refine Fr.drew ?_ | (refine Fr.setCell ?_ (.inr ?_) _; rotate_left; focus (first | (simp; done) | (simp; omega))) | (refine Fr.setCell ?_ (.inl ?_) _; rotate_left; focus (simp; done))))).mono ?_
          rintro e w3 ⟨rfl, hf3⟩
          go_wp2
          go_ret
          exact ⟨by rw [e.out]; simp [str_app, lineL, headL, sepNum], hf.trans0 hf3.un⟩
        · have e := hid (show resText r = lineL ([111, 117, 116] : List UInt8) r.out ++ ([102, 117, 101, 108, 10] : List UInt8) by simp [resText, q])
          go_wp2
          go_ret
          exact ⟨by rw [e.out]; simp [str_app, lineL], by with_reducible repeat (first | exact Fr.refl _ _ | assumption | refine Fr.alloc ?_ _ | refine Fr.drew ?_ | (refine Fr.setCell ?_ (.inr ?_) _; rotate_left; focus (first | (simp; done) | (simp; omega))) | (refine Fr.setCell ?_ (.inl ?_) _; rotate_left; focus (simp; done)))⟩
        · have e := hid (show resText r = lineL ([111, 117, 116] : List UInt8) r.out ++ ([98, 97, 100, 10] : List UInt8) by simp [resText, q])
          go_wp2
          go_ret
          exact ⟨by rw [e.out]; simp [str_app, lineL], by with_reducible repeat (first | exact Fr.refl _ _ | assumption | refine Fr.alloc ?_ _ | refine Fr.drew ?_ | (refine Fr.setCell ?_ (.inr ?_) _; rotate_left; focus (first | (simp; done) | (simp; omega))) | (refine Fr.setCell ?_ (.inl ?_) _; rotate_left; focus (simp; done)))⟩
        · have e := hid (show resText r = lineL ([111, 117, 116] : List UInt8) r.out ++ ([100, 101, 101, 112, 10] : List UInt8) by simp [resText, q])
          go_wp2
          go_ret
          exact ⟨by rw [e.out]; simp [str_app, lineL], by with_reducible repeat (first | exact Fr.refl _ _ | assumption | refine Fr.alloc ?_ _ | refine Fr.drew ?_ | (refine Fr.setCell ?_ (.inr ?_) _; rotate_left; focus (first | (simp; done) | (simp; omega))) | (refine Fr.setCell ?_ (.inl ?_) _; rotate_left; focus (simp; done)))⟩
  · have e : resText r = [] := by
      have n1 : r.fin ≠ 1 := by omega
      have n2 : r.fin ≠ 2 := by omega
      have n3 : r.fin ≠ 3 := by omega
      have n4 : r.fin ≠ 4 := by omega
      have n5 : r.fin ≠ 5 := by omega
      simp [resText, n1, n2, n3, n4, n5]
    replace e := hid e
    rw [decide_eq_false c0]
    go_wp2
    go_ret
    exact ⟨by rw [e.out]; rfl, by with_reducible repeat (first | exact Fr.refl _ _ | assumption | refine Fr.alloc ?_ _ | refine Fr.drew ?_ | (refine Fr.setCell ?_ (.inr ?_) _; rotate_left; focus (first | (simp; done) | (simp; omega))) | (refine Fr.setCell ?_ (.inl ?_) _; rotate_left; focus (simp; done)))⟩
end Go.Proofs.YtmepniddkajckaaDoor
