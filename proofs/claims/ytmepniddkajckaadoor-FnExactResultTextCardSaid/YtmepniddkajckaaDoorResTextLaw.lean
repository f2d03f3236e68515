/- The walk of FnExactResultText. -/
import Derived.Test.YtmepniddkajckaaDoorResText
import Derived.Test.YtmepniddkajckaaDoorResOpen
namespace Go.Proofs.YtmepniddkajckaaDoor
attribute [local go_sem ↓] Go.wp_at_zero Go.wp_at_succ
open Go.RowKit Go.ChangeShapes Go.WideShapes
open Rep (Is sz)

theorem FnExactResultText_table {W : World} (h : laidMetH Tryd.prog Rows.fnExactResultTextRow.laid W) : Pow W :=
  tabIs_named (rest := []) (t := 170) (by kernel_rfl) Tryd.underlying170 Tryd.underlying142 (by kernel_rfl) (by kernel_rfl) (laidMet_tail (laidMet_tail h))

set_option maxRecDepth 10000 in
theorem FnExactResultText_walk {H : Type} {enc : TypeId × Value → H} (W : World) (base : Nat) {d0 : DataW H} {p0 : List MemPlace} (v0 : Value)
    (k0 : Value.okWide Tryd.prog W .any base 36 v0) (h0 : DataW.Trod enc Tryd.prog W 0 (fun _ => true) true 36 v0 d0 p0) (n0 : W.noneFrozen p0)
    (hL : laidMetH Tryd.prog Rows.fnExactResultTextRow.laid W) :
    Calls Tryd.prog 4 #[v0] W fun e W' => e = .returned (.bool true) ∧ Fr [] W W' := by
  obtain ⟨r, F, cs, rfl, hr⟩ := opens_res.arg Tryd.underlying36 k0 h0 n0
  have ht := FnExactResultText_table hL
  clear k0 h0 n0 hL
  have hr0 := hr
  obtain ⟨ra, rb, rc, rd, F1, F2, rfl, rfl, g1, g2, i1, i2, i3, i4⟩ := res_open hr0
  go_enter Tryd.func4, Tryd.ntmps4
  go_wp2_with fail
  with_reducible refine (szRes_any r _ _ _ (hr.fr0 (by with_reducible repeat (first | exact Fr.refl _ _ | assumption | refine Fr.alloc ?_ _ | refine Fr.drew ?_ | (refine Fr.setCell ?_ (.inr ?_) _; rotate_left; focus (first | (simp; done) | (simp; omega))) | (refine Fr.setCell ?_ (.inl ?_) _; rotate_left; focus (simp; done))))) (by omega) (by omega)).mono ?_
  rintro e w2 ⟨rfl, hf2⟩
  have ba2 := Box.fr0 (B := W.heap.size) (by with_reducible repeat (first | assumption | (apply Box.newAt; simp; done) | apply Box.alloc | apply Box.drew | apply Box.set | (apply Box.other; focus omega))) hf2; (try simp only [List.setIfInBounds_toArray, List.set_cons_succ, List.set_cons_zero] at ba2); have ba2_c := ba2.cell_eq; have ba2_l := ba2.live; have ba2_t := ba2.lt
  have fr2 : Fr [] W w2 := hf2.un
  by_cases s1 : (1048576 : Int) - r.out.length - r.globals.length < 0
  · rw [if_pos s1]
    go_wp2
    go_ret
    exact ⟨rfl, fr2⟩
  rw [if_neg s1]
  go_wp2_with fail
  with_reducible refine (toRes_any r _ _ (hr.fr0 fr2) (by omega) (by omega)).mono ?_
  rintro e w3 ⟨xs, X, rfl, hx, nx, hf3⟩
  have fr3 := fr2.trans0 hf3
  have ba3 := Box.fr0 ba2 (hf3); have ba3_c := ba3.cell_eq; have ba3_l := ba3.live; have ba3_t := ba3.lt
  go_wp2_with fail
  with_reducible refine (srestext_any r _ _ hx (by omega)).mono ?_
  rintro e w4 ⟨rfl, hf4⟩
  have fr4 := fr3.trans0 hf4
  have ba4 := Box.fr0 ba3 (hf4); have ba4_c := ba4.cell_eq; have ba4_l := ba4.live; have ba4_t := ba4.lt
  go_wp2_with fail
  with_reducible refine (toRes_any r _ _ (hr.fr0 fr4) (by omega) (by omega)).mono ?_
  rintro e w5 ⟨us, U, rfl, hu, nu, hf5⟩
  have hu0 := hu
  obtain ⟨ua, ub, uc, ud, U1, U2, rfl, hUU, _⟩ := res_open hu0
  clear hu0
  have fr5 : Fr [] W w5 := fr4.trans0 hf5
  have ba5 := Box.fr0 ba4 (hf5); have ba5_c := ba5.cell_eq; have ba5_l := ba5.live; have ba5_t := ba5.lt
  go_wp2_with fail
  have hI : ∀ w', Fr [] w5 w' → _ := fun w' hf => irestext_any r _ w' (hu.fr0 hf) (by omega) (ht.fr0 (fr5.trans0 hf))
  with_reducible refine (hI _ (by with_reducible repeat (first | exact Fr.refl _ _ | assumption | refine Fr.alloc ?_ _ | refine Fr.drew ?_ | (refine Fr.setCell ?_ (.inr ?_) _; rotate_left; focus (first | (simp; done) | (simp; omega))) | (refine Fr.setCell ?_ (.inl ?_) _; rotate_left; focus (simp; done))))).mono ?_
  rintro e w6 ⟨rfl, hf6⟩
  have fr6 : Fr [] W w6 := fr5.trans0 hf6.un
  have ba6 := Box.fr0 ba5 (hf6.un); have ba6_c := ba6.cell_eq; have ba6_l := ba6.live; have ba6_t := ba6.lt
  have bu6 := Box.fr0 (B := w5.heap.size) (by with_reducible repeat (first | assumption | (apply Box.newAt; simp; done) | apply Box.alloc | apply Box.drew | apply Box.set | (apply Box.other; focus omega))) hf6; (try simp only [List.setIfInBounds_toArray, List.set_cons_succ, List.set_cons_zero] at bu6); have bu6_c := bu6.cell_eq; have bu6_l := bu6.live; have bu6_t := bu6.lt
  have hu6 := hu.fr0 hf6.un
  go_wp2_with fail
  refine rg_begin (n := 5) (Fr [] w6) (by kernel_rfl) rfl ?_
  have rg0 := (show (Fr [] w6) (World.drew _) from (Fr.refl [] w6).drew)
  refine rg_read (i := 0) (a1 := _) rfl (by kernel_rfl) rfl (by simp) (by intro wq hwq; have q3 := (ba6.fr0 hwq).cell_eq; have q4 := (bu6.fr0 hwq).cell_eq; go_wp2; exact ⟨rfl, rfl⟩) rg0 ?_
  refine rg_read (i := 1) (a1 := _) rfl (by kernel_rfl) rfl (by simp) (by intro wq hwq; have q3 := (ba6.fr0 hwq).cell_eq; have q4 := (bu6.fr0 hwq).cell_eq; go_wp2; exact ⟨rfl, rfl⟩) rg0 ?_
  refine rg_eff (i := 2) rfl (by kernel_rfl) ?_
  simp only [List.getElem_toArray, List.getElem_cons_succ, List.getElem_cons_zero]
  go_wp2_with fail
  with_reducible refine (toRes_any r _ _ (hr.fr0 (by with_reducible repeat (first | exact Fr.refl _ _ | assumption | refine Fr.alloc ?_ _ | refine Fr.drew ?_ | (refine Fr.setCell ?_ (.inr ?_) _; rotate_left; focus (first | (simp; done) | (simp; omega))) | (refine Fr.setCell ?_ (.inl ?_) _; rotate_left; focus (simp; done))))) (by omega) (by omega)).mono ?_
  rintro e w8 ⟨ys, Y, rfl, hy, ny, hf8⟩
  go_wp2
  have s8 : Fr [] w6 w8 := ((Fr.refl [] w6).drew).trans0 hf8
  refine ⟨s8, ?_⟩
  refine rg_eff (i := 3) rfl (by kernel_rfl) ?_
  simp only [List.getElem_toArray, List.getElem_cons_succ, List.getElem_cons_zero]
  go_wp2_with fail
  with_reducible refine (eqRes_any r r _ _ _ (hu6.fr0 s8) hy).mono ?_
  rintro e w9 ⟨rfl, hf9⟩
  go_wp2
  have s9 : Fr [] w6 w9 := s8.trans0 hf9
  refine ⟨s9, ?_⟩
  refine rg_read (i := 4) (a1 := _) rfl (by kernel_rfl) rfl (by simp) (by intro wq hwq; go_wp2; exact ⟨rfl, rfl⟩) s9 ?_
  refine rg_done (by kernel_rfl) ?_
  go_wp2
  go_ret
  exact ⟨rfl, fr6.trans0 s9⟩
end Go.Proofs.YtmepniddkajckaaDoor
