/- The walk of FnExactAgree. -/
import Derived.Test.YtmepniddkajckaaAgree
import Derived.Test.YtmepniddkajckaaResOpen
namespace Go.Proofs.Ytmepniddkajckaa
attribute [local go_sem ↓] Go.wp_at_zero Go.wp_at_succ
open Go.RowKit Go.ChangeShapes Go.WideShapes
open Rep (Is sz)

theorem FnExactAgree_walk {H : Type} {enc : TypeId × Value → H} (W : World) (base : Nat) {d0 d1 : DataW H} {p0 p1 : List MemPlace} (v0 : Value)
    (k0 : Value.okWide Try.prog W .any base 28 v0) (h0 : DataW.Trod enc Try.prog W 0 (fun _ => true) true 28 v0 d0 p0) (n0 : W.noneFrozen p0)
    (v1 : Value) (k1 : Value.okWide Try.prog W .any base 28 v1) (h1 : DataW.Trod enc Try.prog W 0 (fun _ => true) true 28 v1 d1 p1) (n1 : W.noneFrozen p1) :
    Calls Try.prog 7 #[v0, v1] W fun e W' => e = .returned (.bool true) ∧ Fr [] W W' := by
  obtain ⟨r, F, cs, rfl, hr⟩ := opens_res.arg Try.underlying28 k0 h0 n0
  obtain ⟨q, G, ds, rfl, hq⟩ := opens_res.arg Try.underlying28 k1 h1 n1
  clear k0 h0 n0 k1 h1 n1
  have hr0 := hr
  have hq0 := hq
  obtain ⟨ra, rb, rc, rd, F1, F2, rfl, rfl, g1, g2, i1, i2, i3, i4⟩ := res_open hr0
  obtain ⟨qa, qb, qc, qd, G1, G2, rfl, rfl, p1, p2, j1, j2, j3, j4⟩ := res_open hq0
  go_enter Try.func7, Try.ntmps7
  go_wp2_with fail
  with_reducible refine (szRes_any r _ _ _ (hr.fr0 (by with_reducible repeat (first | exact Fr.refl _ _ | assumption | refine Fr.alloc ?_ _ | refine Fr.drew ?_ | (refine Fr.setCell ?_ (.inr ?_) _; rotate_left; focus (first | (simp; done) | (simp; omega))) | (refine Fr.setCell ?_ (.inl ?_) _; rotate_left; focus (simp; done))))) (by omega) (by omega)).mono ?_
  rintro e w2 ⟨rfl, hf2⟩
  have ba := Box.fr0 (B := W.heap.size) (by with_reducible repeat (first | assumption | (apply Box.newAt; simp; done) | apply Box.alloc | apply Box.drew | apply Box.set | (apply Box.other; focus omega))) hf2; (try simp only [List.setIfInBounds_toArray, List.set_cons_succ, List.set_cons_zero] at ba); have ba_c := ba.cell_eq; have ba_l := ba.live; have ba_t := ba.lt
  have bb := Box.fr0 (B := W.heap.size + 1) (by with_reducible repeat (first | assumption | (apply Box.newAt; simp; done) | apply Box.alloc | apply Box.drew | apply Box.set | (apply Box.other; focus omega))) hf2; (try simp only [List.setIfInBounds_toArray, List.set_cons_succ, List.set_cons_zero] at bb); have bb_c := bb.cell_eq; have bb_l := bb.live; have bb_t := bb.lt
  have fr2 : Fr [] W w2 := hf2.un.un
  by_cases s1 : (1048576 : Int) - r.out.length - r.globals.length < 0
  · rw [if_pos s1]
    go_wp2
    go_ret
    exact ⟨rfl, fr2⟩
  rw [if_neg s1]
  go_wp2_with fail
  with_reducible refine (szRes_any q _ _ _ (hq.fr0 fr2) (by omega) (by omega)).mono ?_
  rintro e w4 ⟨rfl, hf4⟩
  have ba4 := ba.fr0 hf4
  have bb4 := bb.fr0 hf4
  have ba4_c := ba4.cell_eq
  have bb4_c := bb4.cell_eq
  have fr4 := fr2.trans0 hf4
  by_cases s2 : (1048576 : Int) - r.out.length - r.globals.length - q.out.length - q.globals.length < 0
  · rw [if_pos s2]
    go_wp2
    go_ret
    exact ⟨rfl, fr4⟩
  rw [if_neg s2]
  go_wp2_with fail
  refine rg_begin (n := 6) (Fr [] w4) (by kernel_rfl) rfl ?_
  have rg0 := (show (Fr [] w4) (World.drew _) from (Fr.refl [] w4).drew)
  refine rg_read (i := 0) (a1 := _) rfl (by kernel_rfl) rfl (by simp) (by intro wq hwq; have q3 := (ba4.fr0 hwq).cell_eq; have q4 := (bb4.fr0 hwq).cell_eq; go_wp2; exact ⟨rfl, rfl⟩) rg0 ?_
  refine rg_read (i := 2) (a1 := _) rfl (by kernel_rfl) rfl (by simp) (by intro wq hwq; have q3 := (ba4.fr0 hwq).cell_eq; have q4 := (bb4.fr0 hwq).cell_eq; go_wp2; exact ⟨rfl, rfl⟩) rg0 ?_
  refine rg_eff (i := 1) rfl (by kernel_rfl) ?_
  simp only [List.getElem_toArray, List.getElem_cons_succ, List.getElem_cons_zero]
  go_wp2_with fail
  with_reducible refine (toRes_any r _ _ (hr.fr0 (by with_reducible repeat (first | exact Fr.refl _ _ | assumption | refine Fr.alloc ?_ _ | refine Fr.drew ?_ | (refine Fr.setCell ?_ (.inr ?_) _; rotate_left; focus (first | (simp; done) | (simp; omega))) | (refine Fr.setCell ?_ (.inl ?_) _; rotate_left; focus (simp; done))))) (by omega) (by omega)).mono ?_
  rintro e w6 ⟨xs, X, rfl, hx, nx, hf6⟩
  go_wp2
  have s6 : Fr [] w4 w6 := ((Fr.refl [] w4).drew).trans0 hf6
  refine ⟨s6, ?_⟩
  refine rg_eff (i := 3) rfl (by kernel_rfl) ?_
  simp only [List.getElem_toArray, List.getElem_cons_succ, List.getElem_cons_zero]
  go_wp2_with fail
  with_reducible refine (toRes_any q _ _ (hq.fr0 (fr4.trans0 s6)) (by omega) (by omega)).mono ?_
  rintro e w7 ⟨ys, Y, rfl, hy, ny, hf7⟩
  go_wp2
  have s7 : Fr [] w4 w7 := s6.trans0 hf7
  refine ⟨s7, ?_⟩
  refine rg_eff (i := 4) rfl (by kernel_rfl) ?_
  simp only [List.getElem_toArray, List.getElem_cons_succ, List.getElem_cons_zero]
  go_wp2_with fail
  with_reducible refine (sagree_any r q _ _ _ (hx.fr0 hf7) hy).mono ?_
  rintro e w8 ⟨rfl, hf8⟩
  go_wp2
  have s8 : Fr [] w4 w8 := s7.trans0 hf8
  refine ⟨s8, ?_⟩
  refine rg_read (i := 5) (a1 := _) rfl (by kernel_rfl) rfl (by simp) (by intro wq hwq; go_wp2; exact ⟨rfl, rfl⟩) s8 ?_
  refine rg_done (by kernel_rfl) ?_
  have fr8 : Fr [] W w8 := fr4.trans0 s8
  have ba8 := ba4.fr0 s8
  have bb8 := bb4.fr0 s8
  have ba8_c := ba8.cell_eq
  have bb8_c := bb8.cell_eq
  go_wp2_with fail
  with_reducible refine (toRes_any r _ _ (hr.fr0 fr8) (by omega) (by omega)).mono ?_
  rintro e w9 ⟨us, U, rfl, hu, nu, hf9⟩
  have hu0 := hu
  obtain ⟨ua, ub, uc, ud, U1, U2, rfl, rfl, _⟩ := res_open hu0
  have fr9 := fr8.trans0 hf9
  have ba9 := Box.fr0 ba8 (hf9); have ba9_c := ba9.cell_eq; have ba9_l := ba9.live; have ba9_t := ba9.lt
  have bb9 := Box.fr0 bb8 (hf9); have bb9_c := bb9.cell_eq; have bb9_l := bb9.live; have bb9_t := bb9.lt
  go_wp2_with fail
  with_reducible refine (toRes_any q _ _ (hq.fr0 (by with_reducible repeat (first | exact Fr.refl _ _ | assumption | refine Fr.alloc ?_ _ | refine Fr.drew ?_ | (refine Fr.setCell ?_ (.inr ?_) _; rotate_left; focus (first | (simp; done) | (simp; omega))) | (refine Fr.setCell ?_ (.inl ?_) _; rotate_left; focus (simp; done))))) (by omega) (by omega)).mono ?_
  rintro e w10 ⟨vs, V, rfl, hv, nv, hf10⟩
  have hv0 := hv
  obtain ⟨va, vb, vc, vd, V1, V2, rfl, rfl, _⟩ := res_open hv0
  have bu10 := Box.fr0 (B := w9.heap.size) (by with_reducible repeat (first | assumption | (apply Box.newAt; simp; done) | apply Box.alloc | apply Box.drew | apply Box.set | (apply Box.other; focus omega))) hf10; (try simp only [List.setIfInBounds_toArray, List.set_cons_succ, List.set_cons_zero] at bu10); have bu10_c := bu10.cell_eq; have bu10_l := bu10.live; have bu10_t := bu10.lt
  have fr10 : Fr [] W w10 := fr9.trans0 hf10.un
  have ba10 := Box.fr0 ba9 (hf10.un); have ba10_c := ba10.cell_eq; have ba10_l := ba10.live; have ba10_t := ba10.lt
  have bb10 := Box.fr0 bb9 (hf10.un); have bb10_c := bb10.cell_eq; have bb10_l := bb10.live; have bb10_t := bb10.lt
  have hu10 := hu.fr0 hf10.un
  go_wp2_with fail
  with_reducible refine (iagree_any r q _ _ _ (hu10.fr0 (by with_reducible repeat (first | exact Fr.refl _ _ | assumption | refine Fr.alloc ?_ _ | refine Fr.drew ?_ | (refine Fr.setCell ?_ (.inr ?_) _; rotate_left; focus (first | (simp; done) | (simp; omega))) | (refine Fr.setCell ?_ (.inl ?_) _; rotate_left; focus (simp; done))))) (hv.fr0 (by with_reducible repeat (first | exact Fr.refl _ _ | assumption | refine Fr.alloc ?_ _ | refine Fr.drew ?_ | (refine Fr.setCell ?_ (.inr ?_) _; rotate_left; focus (first | (simp; done) | (simp; omega))) | (refine Fr.setCell ?_ (.inl ?_) _; rotate_left; focus (simp; done)))))).mono ?_
  rintro e w12 ⟨rfl, hf12⟩
  have bv12 := Box.fr0 (B := w10.heap.size) (by with_reducible repeat (first | assumption | (apply Box.newAt; simp; done) | apply Box.alloc | apply Box.drew | apply Box.set | (apply Box.other; focus omega))) hf12; (try simp only [List.setIfInBounds_toArray, List.set_cons_succ, List.set_cons_zero] at bv12); have bv12_c := bv12.cell_eq; have bv12_l := bv12.live; have bv12_t := bv12.lt
  have ba12 := Box.fr0 ba10 (hf12.un); have ba12_c := ba12.cell_eq; have ba12_l := ba12.live; have ba12_t := ba12.lt
  have bb12 := Box.fr0 bb10 (hf12.un); have bb12_c := bb12.cell_eq; have bb12_l := bb12.live; have bb12_t := bb12.lt
  have bu12 := Box.fr0 bu10 (hf12.un); have bu12_c := bu12.cell_eq; have bu12_l := bu12.live; have bu12_t := bu12.lt
  have fr12 : Fr [] W w12 := fr10.trans0 hf12.un
  have hu12 := hu10.fr0 hf12.un
  have hv12 := hv.fr0 hf12.un
  go_wp2_with fail
  refine rg_begin (n := 5) (Fr [] w12) (by kernel_rfl) rfl ?_
  have rg0 := (show (Fr [] w12) (World.drew _) from (Fr.refl [] w12).drew)
  refine rg_read (i := 0) (a1 := _) rfl (by kernel_rfl) rfl (by simp) (by intro wq hwq; have q3 := (ba12.fr0 hwq).cell_eq; have q4 := (bu12.fr0 hwq).cell_eq; go_wp2; exact ⟨rfl, rfl⟩) rg0 ?_
  refine rg_read (i := 1) (a1 := _) rfl (by kernel_rfl) rfl (by simp) (by intro wq hwq; have q3 := (ba12.fr0 hwq).cell_eq; have q4 := (bu12.fr0 hwq).cell_eq; go_wp2; exact ⟨rfl, rfl⟩) rg0 ?_
  refine rg_eff (i := 2) rfl (by kernel_rfl) ?_
  simp only [List.getElem_toArray, List.getElem_cons_succ, List.getElem_cons_zero]
  go_wp2_with fail
  with_reducible refine (toRes_any r _ _ (hr.fr0 (by with_reducible repeat (first | exact Fr.refl _ _ | assumption | refine Fr.alloc ?_ _ | refine Fr.drew ?_ | (refine Fr.setCell ?_ (.inr ?_) _; rotate_left; focus (first | (simp; done) | (simp; omega))) | (refine Fr.setCell ?_ (.inl ?_) _; rotate_left; focus (simp; done))))) (by omega) (by omega)).mono ?_
  rintro e w13 ⟨xs, X, rfl, hx, nx, hf13⟩
  go_wp2
  have s13 : Fr [] w12 w13 := ((Fr.refl [] w12).drew).trans0 hf13
  refine ⟨s13, ?_⟩
  refine rg_eff (i := 3) rfl (by kernel_rfl) ?_
  simp only [List.getElem_toArray, List.getElem_cons_succ, List.getElem_cons_zero]
  go_wp2_with fail
  with_reducible refine (eqRes_any r r _ _ _ (hu12.fr0 s13) hx).mono ?_
  rintro e w14 ⟨rfl, hf14⟩
  go_wp2
  have s14 : Fr [] w12 w14 := s13.trans0 hf14
  refine ⟨s14, ?_⟩
  refine rg_read (i := 4) (a1 := _) rfl (by kernel_rfl) rfl (by simp) (by intro wq hwq; go_wp2; exact ⟨rfl, rfl⟩) s14 ?_
  refine rg_done (by kernel_rfl) ?_
  have bb14 := Box.fr0 bb12 (s14); have bb14_c := bb14.cell_eq; have bb14_l := bb14.live; have bb14_t := bb14.lt
  have bv14 := Box.fr0 bv12 (s14); have bv14_c := bv14.cell_eq; have bv14_l := bv14.live; have bv14_t := bv14.lt
  have fr14 : Fr [] W w14 := fr12.trans0 s14
  have hv14 := hv12.fr0 s14
  go_wp2_with fail
  refine rg_begin (n := 5) (Fr [] w14) (by kernel_rfl) rfl ?_
  have rg0 := (show (Fr [] w14) (World.drew _) from (Fr.refl [] w14).drew)
  refine rg_read (i := 0) (a1 := _) rfl (by kernel_rfl) rfl (by simp) (by intro wq hwq; have q3 := (bb14.fr0 hwq).cell_eq; have q4 := (bv14.fr0 hwq).cell_eq; go_wp2; exact ⟨rfl, rfl⟩) rg0 ?_
  refine rg_read (i := 1) (a1 := _) rfl (by kernel_rfl) rfl (by simp) (by intro wq hwq; have q3 := (bb14.fr0 hwq).cell_eq; have q4 := (bv14.fr0 hwq).cell_eq; go_wp2; exact ⟨rfl, rfl⟩) rg0 ?_
  refine rg_eff (i := 2) rfl (by kernel_rfl) ?_
  simp only [List.getElem_toArray, List.getElem_cons_succ, List.getElem_cons_zero]
  go_wp2_with fail
  with_reducible refine (toRes_any q _ _ (hq.fr0 (by with_reducible repeat (first | exact Fr.refl _ _ | assumption | refine Fr.alloc ?_ _ | refine Fr.drew ?_ | (refine Fr.setCell ?_ (.inr ?_) _; rotate_left; focus (first | (simp; done) | (simp; omega))) | (refine Fr.setCell ?_ (.inl ?_) _; rotate_left; focus (simp; done))))) (by omega) (by omega)).mono ?_
  rintro e w15 ⟨xs, X, rfl, hx, nx, hf15⟩
  go_wp2
  have s15 : Fr [] w14 w15 := ((Fr.refl [] w14).drew).trans0 hf15
  refine ⟨s15, ?_⟩
  refine rg_eff (i := 3) rfl (by kernel_rfl) ?_
  simp only [List.getElem_toArray, List.getElem_cons_succ, List.getElem_cons_zero]
  go_wp2_with fail
  with_reducible refine (eqRes_any q q _ _ _ (hv14.fr0 s15) hx).mono ?_
  rintro e w16 ⟨rfl, hf16⟩
  go_wp2
  have s16 : Fr [] w14 w16 := s15.trans0 hf16
  refine ⟨s16, ?_⟩
  refine rg_read (i := 4) (a1 := _) rfl (by kernel_rfl) rfl (by simp) (by intro wq hwq; go_wp2; exact ⟨rfl, rfl⟩) s16 ?_
  refine rg_done (by kernel_rfl) ?_
  go_wp2
  go_ret
  exact ⟨rfl, fr14.trans0 s16⟩
end Go.Proofs.Ytmepniddkajckaa
