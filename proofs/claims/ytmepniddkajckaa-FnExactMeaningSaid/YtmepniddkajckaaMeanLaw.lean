/- The walk of FnExactMeaning. -/
import Derived.Test.YtmepniddkajckaaMean
import Derived.Test.YtmepniddkajckaaResOpen
namespace Go.Proofs.Ytmepniddkajckaa
attribute [local go_sem ↓] Go.wp_at_zero Go.wp_at_succ
open Go.RowKit Go.ChangeShapes Go.WideShapes
open Rep (Is sz)

set_option maxHeartbeats 2000000 in
theorem FnExactMeaning_walk {H : Type} {enc : TypeId × Value → H} (W : World) (base : Nat) {d0 : DataW H} {p0 : List MemPlace} (v0 : Value)
    (k0 : Value.okWide Try.prog W .any base 28 v0) (h0 : DataW.Trod enc Try.prog W 0 (fun _ => true) true 28 v0 d0 p0) (n0 : W.noneFrozen p0) :
    Calls Try.prog 6 #[v0] W fun e W' => e = .returned (.bool true) ∧ Fr [] W W' := by
  obtain ⟨r, F, cs, rfl, hr⟩ := opens_res.arg Try.underlying28 k0 h0 n0
  clear k0 h0 n0
  have hr0 := hr
  obtain ⟨ra, rb, rc, rd, F1, F2, rfl, rfl, g1, g2, i1, i2, i3, i4⟩ := res_open hr0
  go_enter Try.func6, Try.ntmps6
  go_wp2_with fail
  with_reducible refine (szRes_any r _ _ _ (hr.fr0 (by with_reducible repeat (first | exact Fr.refl _ _ | assumption | refine Fr.alloc ?_ _ | refine Fr.drew ?_ | (refine Fr.setCell ?_ (.inr ?_) _; rotate_left; focus (first | (simp; done) | (simp; omega))) | (refine Fr.setCell ?_ (.inl ?_) _; rotate_left; focus (simp; done))))) (by omega) (by omega)).mono ?_
  rintro e w2 ⟨rfl, hf2⟩
  have ba2 := Box.fr0 (B := W.heap.size) (by with_reducible repeat (first | assumption | (apply Box.newAt; simp; done) | apply Box.alloc | apply Box.drew | apply Box.set | (apply Box.other; focus omega))) hf2; (try simp only [List.setIfInBounds_toArray, List.set_cons_succ, List.set_cons_zero] at ba2); have ba2_c := ba2.cell_eq; have ba2_l := ba2.live; have ba2_t := ba2.lt
  have fr2 : Fr [] W w2 := hf2.un
  by_cases s1 : (1048576 : Int) - r.out.length - r.globals.length < 0
  · rw [if_pos s1]
    go_wp2
    go_ret
    exact ⟨rfl, fr2⟩
  rw [if_neg s1]
  go_wp2_with fail
  with_reducible refine (toRes_any r _ _ (hr.fr0 fr2) (by omega) (by omega)).mono ?_
  rintro e w3 ⟨xs, X, rfl, hx, nx, hf3⟩
  have fr3 := fr2.trans0 hf3
  have ba3 := Box.fr0 ba2 (hf3); have ba3_c := ba3.cell_eq; have ba3_l := ba3.live; have ba3_t := ba3.lt
  go_wp2_with fail
  with_reducible refine (smean_any r _ _ hx (by omega) (by omega)).mono ?_
  rintro e w4 ⟨ds, rfl, D, hd, nd, hf4⟩
  obtain ⟨m, hm⟩ : ∃ m, meaning r = m := ⟨_, rfl⟩
  have ml1 : m.out.length ≤ 1048576 := by rw [← hm]; show r.out.length ≤ _; omega
  have ml2 : m.globals.length ≤ 1048576 := by rw [← hm]; show r.globals.tail.length ≤ _; rw [List.length_tail]; omega
  rw [hm] at hd
  have hd0 := hd
  obtain ⟨da, db, dc, dd, D1, D2, rfl, hDD, _⟩ := res_open hd0
  clear hd0
  have fr4 := fr3.trans0 hf4
  have ba4 := Box.fr0 ba3 (hf4); have ba4_c := ba4.cell_eq; have ba4_l := ba4.live; have ba4_t := ba4.lt
  go_wp2_with fail
  with_reducible refine (toRes_any r _ _ (hr.fr0 (by with_reducible repeat (first | exact Fr.refl _ _ | assumption | refine Fr.alloc ?_ _ | refine Fr.drew ?_ | (refine Fr.setCell ?_ (.inr ?_) _; rotate_left; focus (first | (simp; done) | (simp; omega))) | (refine Fr.setCell ?_ (.inl ?_) _; rotate_left; focus (simp; done))))) (by omega) (by omega)).mono ?_
  rintro e w5 ⟨us, U, rfl, hu, nu, hf5⟩
  have hu0 := hu
  obtain ⟨ua, ub, uc, ud, U1, U2, rfl, hUU, _⟩ := res_open hu0
  clear hu0
  have fr5 : Fr [] W w5 := fr4.trans0 hf5.un
  have ba5 := Box.fr0 ba4 (hf5.un); have ba5_c := ba5.cell_eq; have ba5_l := ba5.live; have ba5_t := ba5.lt
  have bd5 := Box.fr0 (B := w4.heap.size) (by with_reducible repeat (first | assumption | (apply Box.newAt; simp; done) | apply Box.alloc | apply Box.drew | apply Box.set | (apply Box.other; focus omega))) hf5; (try simp only [List.setIfInBounds_toArray, List.set_cons_succ, List.set_cons_zero] at bd5); have bd5_c := bd5.cell_eq; have bd5_l := bd5.live; have bd5_t := bd5.lt
  go_wp2_with fail
  with_reducible refine (imean_any r _ _ (hu.fr0 (by with_reducible repeat (first | exact Fr.refl _ _ | assumption | refine Fr.alloc ?_ _ | refine Fr.drew ?_ | (refine Fr.setCell ?_ (.inr ?_) _; rotate_left; focus (first | (simp; done) | (simp; omega))) | (refine Fr.setCell ?_ (.inl ?_) _; rotate_left; focus (simp; done))))) (by omega) (by omega)).mono ?_
  rintro e w6 ⟨gs, rfl, G, hg, ng, hf6⟩
  rw [hm] at hg
  have hg0 := hg
  obtain ⟨ga, gb, gc, gd, G1, G2, rfl, hGG, _⟩ := res_open hg0
  clear hg0
  have fr6 : Fr [] W w6 := fr5.trans0 hf6.un
  have ba6 := Box.fr0 ba5 (hf6.un); have ba6_c := ba6.cell_eq; have ba6_l := ba6.live; have ba6_t := ba6.lt
  have bd6 := Box.fr0 bd5 (hf6.un); have bd6_c := bd6.cell_eq; have bd6_l := bd6.live; have bd6_t := bd6.lt
  have bu6 := Box.fr0 (B := w5.heap.size) (by with_reducible repeat (first | assumption | (apply Box.newAt; simp; done) | apply Box.alloc | apply Box.drew | apply Box.set | (apply Box.other; focus omega))) hf6; (try simp only [List.setIfInBounds_toArray, List.set_cons_succ, List.set_cons_zero] at bu6); have bu6_c := bu6.cell_eq; have bu6_l := bu6.live; have bu6_t := bu6.lt
  have hd6 := (hd.fr0 hf5.un).fr0 hf6.un
  go_wp2_with fail
  with_reducible refine (eqRes_any m m _ _ _ (hg.fr0 (by with_reducible repeat (first | exact Fr.refl _ _ | assumption | refine Fr.alloc ?_ _ | refine Fr.drew ?_ | (refine Fr.setCell ?_ (.inr ?_) _; rotate_left; focus (first | (simp; done) | (simp; omega))) | (refine Fr.setCell ?_ (.inl ?_) _; rotate_left; focus (simp; done))))) (hd6.fr0 (by with_reducible repeat (first | exact Fr.refl _ _ | assumption | refine Fr.alloc ?_ _ | refine Fr.drew ?_ | (refine Fr.setCell ?_ (.inr ?_) _; rotate_left; focus (first | (simp; done) | (simp; omega))) | (refine Fr.setCell ?_ (.inl ?_) _; rotate_left; focus (simp; done)))))).mono ?_
  rintro e w7 ⟨rfl, hf7⟩
  have fr7 : Fr [] W w7 := fr6.trans0 hf7.un
  have ba7 := Box.fr0 ba6 (hf7.un); have ba7_c := ba7.cell_eq; have ba7_l := ba7.live; have ba7_t := ba7.lt
  have bd7 := Box.fr0 bd6 (hf7.un); have bd7_c := bd7.cell_eq; have bd7_l := bd7.live; have bd7_t := bd7.lt
  have bu7 := Box.fr0 bu6 (hf7.un); have bu7_c := bu7.cell_eq; have bu7_l := bu7.live; have bu7_t := bu7.lt
  have bg7 := Box.fr0 (B := w6.heap.size) (by with_reducible repeat (first | assumption | (apply Box.newAt; simp; done) | apply Box.alloc | apply Box.drew | apply Box.set | (apply Box.other; focus omega))) hf7; (try simp only [List.setIfInBounds_toArray, List.set_cons_succ, List.set_cons_zero] at bg7); have bg7_c := bg7.cell_eq; have bg7_l := bg7.live; have bg7_t := bg7.lt
  have hd7 := hd6.fr0 hf7.un
  have hu7 := (hu.fr0 hf6.un).fr0 hf7.un
  have hg7 := hg.fr0 hf7.un
  go_wp2_with fail
  refine rg_begin (n := 5) (Fr [] w7) (by kernel_rfl) rfl ?_
  have rg0 := (show (Fr [] w7) (World.drew _) from (Fr.refl [] w7).drew)
  refine rg_read (i := 0) (a1 := _) rfl (by kernel_rfl) rfl (by simp) (by intro wq hwq; have q3 := (ba7.fr0 hwq).cell_eq; have q4 := (bu7.fr0 hwq).cell_eq; go_wp2; exact ⟨rfl, rfl⟩) rg0 ?_
  refine rg_read (i := 1) (a1 := _) rfl (by kernel_rfl) rfl (by simp) (by intro wq hwq; have q3 := (ba7.fr0 hwq).cell_eq; have q4 := (bu7.fr0 hwq).cell_eq; go_wp2; exact ⟨rfl, rfl⟩) rg0 ?_
  refine rg_eff (i := 2) rfl (by kernel_rfl) ?_
  simp only [List.getElem_toArray, List.getElem_cons_succ, List.getElem_cons_zero]
  go_wp2_with fail
  with_reducible refine (toRes_any r _ _ (hr.fr0 (by with_reducible repeat (first | exact Fr.refl _ _ | assumption | refine Fr.alloc ?_ _ | refine Fr.drew ?_ | (refine Fr.setCell ?_ (.inr ?_) _; rotate_left; focus (first | (simp; done) | (simp; omega))) | (refine Fr.setCell ?_ (.inl ?_) _; rotate_left; focus (simp; done))))) (by omega) (by omega)).mono ?_
  rintro e w8 ⟨ys, Y, rfl, hy, ny, hf8⟩
  go_wp2
  have s8 : Fr [] w7 w8 := ((Fr.refl [] w7).drew).trans0 hf8
  refine ⟨s8, ?_⟩
  refine rg_eff (i := 3) rfl (by kernel_rfl) ?_
  simp only [List.getElem_toArray, List.getElem_cons_succ, List.getElem_cons_zero]
  go_wp2_with fail
  with_reducible refine (eqRes_any r r _ _ _ (hu7.fr0 s8) hy).mono ?_
  rintro e w9 ⟨rfl, hf9⟩
  go_wp2
  have s9 : Fr [] w7 w9 := s8.trans0 hf9
  refine ⟨s9, ?_⟩
  refine rg_read (i := 4) (a1 := _) rfl (by kernel_rfl) rfl (by simp) (by intro wq hwq; go_wp2; exact ⟨rfl, rfl⟩) s9 ?_
  refine rg_done (by kernel_rfl) ?_
  have fr9 : Fr [] W w9 := fr7.trans0 s9
  have ba9 := Box.fr0 ba7 (s9); have ba9_c := ba9.cell_eq; have ba9_l := ba9.live; have ba9_t := ba9.lt
  have bd9 := Box.fr0 bd7 (s9); have bd9_c := bd9.cell_eq; have bd9_l := bd9.live; have bd9_t := bd9.lt
  have bu9 := Box.fr0 bu7 (s9); have bu9_c := bu9.cell_eq; have bu9_l := bu9.live; have bu9_t := bu9.lt
  have bg9 := Box.fr0 bg7 (s9); have bg9_c := bg9.cell_eq; have bg9_l := bg9.live; have bg9_t := bg9.lt
  have hd9 := hd7.fr0 s9
  have hu9 := hu7.fr0 s9
  have hg9 := hg7.fr0 s9
  have nu1 : U.Nodup := nu.1
  have ng1 : G.Nodup := ng.1
  have U1' : ∀ x ∈ U, w4.heap.size + 1 ≤ x := by simpa using nu.2
  have U2' : ∀ x ∈ U, x < w5.heap.size := Rep.lt hu
  have D2' : ∀ x ∈ D, x < w4.heap.size := Rep.lt hd
  have G1' : ∀ x ∈ G, w5.heap.size + 1 ≤ x := by simpa using ng.2
  have G2' : ∀ x ∈ G, x < w6.heap.size := Rep.lt hg
  have z6 : w5.heap.size + 1 ≤ w6.heap.size := by simpa using hf6.size
  have z5 : w4.heap.size + 1 ≤ w5.heap.size := by simpa using hf5.size
  have z9 : w6.heap.size < w9.heap.size := bg9_t
  have k1 : ¬ ((1 : Int) + r.out.length + r.globals.length < 0) := by omega
  go_wp2_with fail
  with_reducible refine (markRes_any r _ 1 _ hu9 nu1 (by unfold In64; omega) (by omega)).mono ?_
  rintro e w10 ⟨rfl, hf10, _⟩
  have ba10 := ba9.fr hf10 (fun h => by have := U1' _ h; omega)
  have bd10 := bd9.fr hf10 (fun h => by have := U1' _ h; omega)
  have bg10 := bg9.fr hf10 (fun h => by have := U2' _ h; omega)
  have hd10 := Rep.fr hd9 hf10 (fun b hb hb' => by have := U1' _ hb'; have := D2' _ hb; omega)
  have hg10 := Rep.fr hg9 hf10 (fun b hb hb' => by have := U2' _ hb'; have := G1' _ hb; omega)
  have fr10 : Fr [] W w10 := fr9.trans hf10 (fun x hx => .inr (by have := U1' _ hx; have := ba4_t; omega))
  have ba10_c := ba10.cell_eq
  have bd10_c := bd10.cell_eq
  have bg10_c := bg10.cell_eq
  go_wp2_with fail
  with_reducible refine (eqRes_any m m _ _ _ hg10 hd10).mono ?_
  rintro e w11 ⟨rfl, hf11⟩
  have ba11 := Box.fr0 ba10 (hf11); have ba11_c := ba11.cell_eq; have ba11_l := ba11.live; have ba11_t := ba11.lt
  have bd11 := Box.fr0 bd10 (hf11); have bd11_c := bd11.cell_eq; have bd11_l := bd11.live; have bd11_t := bd11.lt
  have bg11 := Box.fr0 bg10 (hf11); have bg11_c := bg11.cell_eq; have bg11_l := bg11.live; have bg11_t := bg11.lt
  have hd11 := hd10.fr0 hf11
  have hg11 := hg10.fr0 hf11
  have fr11 := fr10.trans0 hf11
  go_wp2_with fail
  with_reducible refine (markRes_any m _ 1 _ hg11 ng1 (by unfold In64; omega) (by omega)).mono ?_
  rintro e w12 ⟨rfl, hf12, hg12⟩
  have ba12 := ba11.fr hf12 (fun h => by have := G1' _ h; have := ba4_t; omega)
  have bd12 := bd11.fr hf12 (fun h => by have := G1' _ h; omega)
  have bg12 := bg11.fr hf12 (fun h => by have := G2' _ h; omega)
  have hd12 := Rep.fr hd11 hf12 (fun b hb hb' => by have := G1' _ hb'; have := D2' _ hb; omega)
  have fr12 : Fr [] W w12 := fr11.trans hf12 (fun x hx => .inr (by have := G1' _ hx; have := ba4_t; omega))
  have ba12_c := ba12.cell_eq
  have bd12_c := bd12.cell_eq
  have bg12_c := bg12.cell_eq
  have k2 : ¬ ((1 : Int) + m.out.length + m.globals.length < 0) := by omega
  go_wp2_with fail
  with_reducible refine (heldRes_any m _ 1 _ m.out.length m.globals.length hg12 (by unfold In64; omega) (by omega)).mono ?_
  rintro e w13 ⟨rfl, hf13⟩
  have ba13 := Box.fr0 ba12 (hf13); have ba13_c := ba13.cell_eq; have ba13_l := ba13.live; have ba13_t := ba13.lt
  have bd13 := Box.fr0 bd12 (hf13); have bd13_c := bd13.cell_eq; have bd13_l := bd13.live; have bd13_t := bd13.lt
  have bg13 := Box.fr0 bg12 (hf13); have bg13_c := bg13.cell_eq; have bg13_l := bg13.live; have bg13_t := bg13.lt
  have hd13 := hd12.fr0 hf13
  have hg13 := hg12.fr0 hf13
  have fr13 := fr12.trans0 hf13
  go_wp2_with fail
  with_reducible refine (toRes_any r _ _ (hr.fr0 fr13) (by omega) (by omega)).mono ?_
  rintro e w14 ⟨vs, V, rfl, hv, nv, hf14⟩
  have bd14 := Box.fr0 bd13 (hf14); have bd14_c := bd14.cell_eq; have bd14_l := bd14.live; have bd14_t := bd14.lt
  have bg14 := Box.fr0 bg13 (hf14); have bg14_c := bg14.cell_eq; have bg14_l := bg14.live; have bg14_t := bg14.lt
  have hd14 := hd13.fr0 hf14
  have hg14 := hg13.fr0 hf14
  have fr14 := fr13.trans0 hf14
  go_wp2_with fail
  with_reducible refine (imean_any r _ _ hv (by omega) (by omega)).mono ?_
  rintro e w15 ⟨hs, rfl, K, hk, nk, hf15⟩
  rw [hm] at hk
  have hk0 := hk
  obtain ⟨ka, kb, kc, kd, K1, K2, rfl, hKK, _⟩ := res_open hk0
  clear hk0
  have bd15 := Box.fr0 bd14 (hf15); have bd15_c := bd15.cell_eq; have bd15_l := bd15.live; have bd15_t := bd15.lt
  have bg15 := Box.fr0 bg14 (hf15); have bg15_c := bg15.cell_eq; have bg15_l := bg15.live; have bg15_t := bg15.lt
  have hd15 := hd14.fr0 hf15
  have hg15 := hg14.fr0 hf15
  have fr15 := fr14.trans0 hf15
  go_wp2_with fail
  with_reducible refine (eqRes_any m m _ _ _ (hk.fr0 (by with_reducible repeat (first | exact Fr.refl _ _ | assumption | refine Fr.alloc ?_ _ | refine Fr.drew ?_ | (refine Fr.setCell ?_ (.inr ?_) _; rotate_left; focus (first | (simp; done) | (simp; omega))) | (refine Fr.setCell ?_ (.inl ?_) _; rotate_left; focus (simp; done))))) (hd15.fr0 (by with_reducible repeat (first | exact Fr.refl _ _ | assumption | refine Fr.alloc ?_ _ | refine Fr.drew ?_ | (refine Fr.setCell ?_ (.inr ?_) _; rotate_left; focus (first | (simp; done) | (simp; omega))) | (refine Fr.setCell ?_ (.inl ?_) _; rotate_left; focus (simp; done)))))).mono ?_
  rintro e w16 ⟨rfl, hf16⟩
  have bg16 := Box.fr0 bg15 (hf16.un); have bg16_c := bg16.cell_eq; have bg16_l := bg16.live; have bg16_t := bg16.lt
  have hg16 := hg15.fr0 hf16.un
  have fr16 := fr15.trans0 hf16.un
  go_wp2_with fail
  with_reducible refine (heldRes_any m _ 1 _ m.out.length m.globals.length hg16 (by unfold In64; omega) (by omega)).mono ?_
  rintro e w17 ⟨rfl, hf17⟩
  go_wp2
  go_ret
  exact ⟨rfl, fr16.trans0 hf17⟩
end Go.Proofs.Ytmepniddkajckaa
