/- The draw of right bodies. -/
import Derived.Test.YtpaekgeopmifeaaDoorK22
import Derived.Deep.DeepCutAuto
namespace Go.Proofs.YtpaekgeopmifeaaDoor
attribute [local go_sem ↓] Go.wp_at_zero Go.wp_at_succ
open Go.RowKit
open Rep (Is sz)
set_option maxRecDepth 20000 in
set_option maxHeartbeats 16000000 in
theorem goodA {p : Nat} {F FL : List Nat} (m : ModuleD) (deep N : Nat) (loc want : Int) (lb : List Int) (w : World) (hd : deep ≤ 3) (hN : N ≤ 6000) (hlb : lb.length ≤ deep) (hw : 0 ≤ want ∧ want ≤ 1) (hloc : In64 loc) (sg : SigIn m) [c : Cur w p] [apF : Apart F [p]] [apL : Apart FL [p]] (ltF : ∀ b ∈ F, b < w.heap.size) (ltL : ∀ b ∈ FL, b < w.heap.size) (a1 : Option Addr) (k1 : Nat) (a2 : Option Addr) (k2 : Nat) (a3 : Option Addr) (k3 : Nat) (a4 : Option Addr) (k4 : Nat) (a5 : Option Addr) (k5 : Nat) (a6 : Option Addr) (k6 : Nat) (kk : Known w F m [.slice a1 m.sigs.length k1, .slice a2 m.imports.length k2, .slice a3 m.funcs.length k3, .int .i64 m.pages, .int .i64 m.most, .slice a4 m.globals.length k4, .slice a5 m.exports.length k5, .slice a6 m.data.length k6]) (i3 : In64 m.pages) (i4 : In64 m.most) (aL : Option Addr) (cL : Nat) (hFL : FL = if lb = [] then [] else blk aL) (hvwL : View w aL 1 lb.length (intVs lb)) (hmlL : lb.length ≤ cL ∧ cL ≤ 2 ^ 63 - 1) (kl : Known w FL lb [.slice aL lb.length cL]) (hinL : Hid (∀ n ∈ lb, In64 n)) (ih : Hid (deep < 3 → ∀ (x : World) (lb2 : List Int) (G : List Nat) (v2 : Value) (want2 : Int), Cur x p → Shows x F m [.slice a1 m.sigs.length k1, .slice a2 m.imports.length k2, .slice a3 m.funcs.length k3, .int .i64 m.pages, .int .i64 m.most, .slice a4 m.globals.length k4, .slice a5 m.exports.length k5, .slice a6 m.data.length k6] → Shows x G lb2 [v2] → Apart G [p] → lb2.length ≤ deep + 1 → (0 ≤ want2 ∧ want2 ≤ 1) → Calls Tryd.prog 35 #[.pointer (some ⟨p, 0, none⟩), .agg [.slice a1 m.sigs.length k1, .slice a2 m.imports.length k2, .slice a3 m.funcs.length k3, .int .i64 m.pages, .int .i64 m.most, .slice a4 m.globals.length k4, .slice a5 m.exports.length k5, .slice a6 m.data.length k6].toArray, .int .i64 loc, .int .i64 want2, .int .i64 ((deep : Int) + 1), v2] x (DrBody p x N))) (htk : Hid (∀ i : InsD, 0 ≤ (takesC m i).1 ∧ (takesC m i).1 ≤ 3 ∧ 0 ≤ (takesC m i).2 ∧ (takesC m i).2 ≤ 1)) (K : Nat) (hK : 5 + 2 * N = K) : (goodSk m deep N loc want lb w hd hN hlb hw hloc sg ltF ltL a1 k1 a2 k2 a3 k3 a4 k4 a5 k5 a6 k6 kk i3 i4 aL cL hFL hvwL hmlL kl hinL ih htk K hK).A := by
  delta goodSk
  dsimp only
  have ag : Arg p w := ⟨c.lt⟩
  have og : Old p w := ⟨c.lt⟩
  have pl := ag.lt
  unhygienic intros
  obtain ⟨rfl, hd3, rfl⟩ := cA
  have ih2 := hid (ih.out hd3)
  go_wp2_with fail
  with_reducible refine Calls.mono (sbelowC _ _ (by omega)) ?_
  rintro e w6 ⟨r, hr, rfl, cu6, st6⟩
  replace hr : r < 2 := by omega
  go_wp2_with fail
  with_reducible refine Calls.mono (sbelowC _ _ (by omega)) ?_
  rintro e w7 ⟨x, hx, rfl, cu7, st7⟩
  have bL : BoxL (w6.alloc (Obj.cells #[Value.int .i64 2, .int .i64 3] 3)) w6.heap.size #[Value.int .i64 2, .int .i64 3] := ⟨Box.new ..⟩
  have oL := bL.old
  have z5 := st5.fr.size
  have z6 := st6.fr.size
  have z7 := st7.fr.size
  rw [World.size_alloc] at z7
  rcases (show x = 0 ∨ x = 1 by omega) with rfl | rfl
  · obtain ⟨lab2, hlab⟩ : ∃ lab2, ((r : Int) : Int) :: lb = lab2 := ⟨_, rfl⟩
    have hlabl : lab2.length ≤ lb.length + 1 := by rw [← hlab]; simp
    have hlabi : ∀ n ∈ lab2, In64 n := by rw [← hlab]; intro n hn; rcases List.mem_cons.1 hn with rfl | hn; exact (by unfold In64; omega); exact hinL.out n hn
    replace hlabi := hid hlabi
    obtain ⟨r1, hr1⟩ : ∃ r1, l ++ [⟨2, (r : Int), 0⟩] = r1 := ⟨_, rfl⟩
    have hlr1 : r1.length ≤ l.length + 1 := by rw [← hr1]; simp
    have hir1 := hid (show ∀ i ∈ r1, In3 i by rw [← hr1]; exact in3_app hil.out (in3_one (show In3 ⟨2, (r : Int), 0⟩ from ⟨by unfold In64; (try simp only []); omega, by unfold In64; (try simp only []); omega, by unfold In64; (try simp only []); omega⟩)))
    go_wp2_with (at_builtin; go_must (refine app_lab rfl (.tmp 58) (.tmp 59) 33 rfl 3 Tryd.ints_tabD w7.heap.size _ 1 (r : Int) rfl (own_litAt rfl rfl (Nat.le_refl _) (by unfold maxLen; omega) rfl) aL cL lb rfl lab2 hlab (by omega) (by simp) ?_); intro aB cB wB ownB sxB)
    have kB : Known wB (if lab2 = [] then [] else blk aB) lab2 [.slice aB lab2.length cB] := ⟨ints_shut (ownsRow_view ownB) hlabi.out (ownsRow_cap ownB)⟩
    obtain ⟨G, hG⟩ : ∃ G, G = (if lab2 = [] then [] else blk aB) := ⟨_, rfl⟩
    have hG2 : ∀ b ∈ G, w7.heap.size ≤ b ∧ b < wB.heap.size := by intro b hb; rw [hG] at hb; split at hb; exact absurd hb (by simp); exact ownsRow_blk ownB b hb
    rw [← hG] at kB
    replace hG := hid hG
    have apG : Apart G [p] := ⟨fun b hb hm => by rw [List.mem_singleton] at hm; have := (hG2 b hb).1; omega⟩
    have apGo : Apart G (blk al) := ⟨fun b hb hm => by have := (hG2 b hb).1; have := (ownsRow_blk ownl b hm).2; omega⟩
    have aFB : Apart F [w7.heap.size] := ⟨fun b hb hm => by rw [List.mem_singleton] at hm; have := ltF b hb; omega⟩
    have aLB : Apart FL [w7.heap.size] := ⟨fun b hb hm => by rw [List.mem_singleton] at hm; have := ltL b hb; omega⟩
    replace hG2 := hid hG2
    have niA : NotIn wB.heap.size (blk al) := ⟨fun h => by have := (ownsRow_blk ownl _ h).2; have := sxB.fr.size; rw [World.size_alloc] at this; omega⟩
    have niB : NotIn (wB.heap.size + 1) (blk al) := ⟨fun h => by have := (ownsRow_blk ownl _ h).2; have := sxB.fr.size; rw [World.size_alloc] at this; omega⟩
    refine rg_begin (n := 19) (StepX [p] w1) (by kernel_rfl) rfl ?_
    have rg0 := (show (StepX [p] w1) (World.drew _) from (show StepX [p] w1 wB.drew from mkStepX))
    refine rg_read (i := 0) (a1 := _) rfl (by kernel_rfl) rfl (by first | (simp; done) | (simp [Act.put]; done)) (by intro wq hwq; go_wp2; exact ⟨rfl, rfl⟩) rg0 ?_
    refine rg_read (i := 1) (a1 := _) rfl (by kernel_rfl) rfl (by first | (simp; done) | (simp [Act.put]; done)) (by intro wq hwq; go_wp2; exact ⟨rfl, rfl⟩) rg0 ?_
    refine rg_read (i := 2) (a1 := _) rfl (by kernel_rfl) rfl (by first | (simp; done) | (simp [Act.put]; done)) (by intro wq hwq; go_wp2; exact ⟨rfl, rfl⟩) rg0 ?_
    refine rg_read (i := 3) (a1 := _) rfl (by kernel_rfl) rfl (by first | (simp; done) | (simp [Act.put]; done)) (by intro wq hwq; go_wp2; exact ⟨rfl, rfl⟩) rg0 ?_
    refine rg_read (i := 6) (a1 := _) rfl (by kernel_rfl) rfl (by first | (simp; done) | (simp [Act.put]; done)) (by intro wq hwq; go_wp2; exact ⟨rfl, rfl⟩) rg0 ?_
    refine rg_read (i := 7) (a1 := _) rfl (by kernel_rfl) rfl (by first | (simp; done) | (simp [Act.put]; done)) (by intro wq hwq; go_wp2; exact ⟨rfl, rfl⟩) rg0 ?_
    refine rg_read (i := 8) (a1 := _) rfl (by kernel_rfl) rfl (by first | (simp; done) | (simp [Act.put]; done)) (by intro wq hwq; go_wp2; exact ⟨rfl, rfl⟩) rg0 ?_
    refine rg_read (i := 9) (a1 := _) rfl (by kernel_rfl) rfl (by first | (simp; done) | (simp [Act.put]; done)) (by intro wq hwq; go_wp2; exact ⟨rfl, rfl⟩) rg0 ?_
    refine rg_read (i := 10) (a1 := _) rfl (by kernel_rfl) rfl (by first | (simp; done) | (simp [Act.put]; done)) (by intro wq hwq; go_wp2; exact ⟨rfl, rfl⟩) rg0 ?_
    refine rg_read (i := 11) (a1 := _) rfl (by kernel_rfl) rfl (by first | (simp; done) | (simp [Act.put]; done)) (by intro wq hwq; go_wp2; exact ⟨rfl, rfl⟩) rg0 ?_
    refine rg_read (i := 12) (a1 := _) rfl (by kernel_rfl) rfl (by first | (simp; done) | (simp [Act.put]; done)) (by intro wq hwq; go_wp2; exact ⟨rfl, rfl⟩) rg0 ?_
    refine rg_read (i := 15) (a1 := _) rfl (by kernel_rfl) rfl (by first | (simp; done) | (simp [Act.put]; done)) (by intro wq hwq; go_wp2; exact ⟨rfl, rfl⟩) rg0 ?_
    refine rg_two (i := 4) (j := 16) rfl rfl (by kernel_rfl) ?_ ?_
    · simp only [List.getElem_toArray, List.getElem_cons_succ, List.getElem_cons_zero]
      go_wp2_with fail
      refine ⟨mkStepX, ?_⟩
      refine rg_two (i := 5) (j := 16) rfl rfl (by kernel_rfl) ?_ ?_
      · simp only [List.getElem_toArray, List.getElem_cons_succ, List.getElem_cons_zero]
        go_wp2_with (at_builtin; go_must (refine app_ins1 rfl (.tmp 61) (.tmp 65) 37 rfl 50 Tryd.inss_tab w1.heap.size al cl l rfl (own_px p ownl) _ 1 ⟨2, (r : Int), 0⟩ r1 rfl hr1 (by omega) (FrX.fr (S := [p]) (a := w1)).size ?_); intro ar1 cr1 wr1 ownr1 sxr1 h3r1)
        have abr1 : Abv p (blk ar1) := abv_own ownr1
        have sbr1 : SubX w1 (blk ar1) [p] := sub_own ownr1
        have aFr1 : Apart F (blk ar1) := apart_row ltF ownr1 (by omega)
        have aLr1 : Apart FL (blk ar1) := apart_row ltL ownr1 (by omega)
        have ni9 : NotIn wr1.heap.size (blk ar1) := ⟨fun h => by have := (ownsRow_blk ownr1 _ h).2; omega⟩
        refine ⟨mkStepX, ?_⟩
        refine rg_two (i := 13) (j := 16) rfl rfl (by kernel_rfl) ?_ ?_
        · simp only [List.getElem_toArray, List.getElem_cons_succ, List.getElem_cons_zero]
          go_wp2_with fail
          with_reducible refine Calls.mono (ih2.out _ lab2 G _ (r : Int) inferInstance inferInstance inferInstance inferInstance (by omega) (by omega)) ?_
          rintro e wD ⟨aD, cD, lD, rfl, hlD, hiD, ownD, cuD, stD⟩
          have ni10 : NotIn wD.heap.size (blk ar1) := ⟨fun h => by have := (ownsRow_blk ownr1 _ h).2; have := stD.fr.size; (try rw [World.size_alloc] at this); omega⟩
          go_wp2_with fail
          refine ⟨mkStepX, ?_⟩
          refine rg_two (i := 14) (j := 16) rfl rfl (by kernel_rfl) ?_ ?_
          · simp only [List.getElem_toArray, List.getElem_cons_succ, List.getElem_cons_zero]
            obtain ⟨r2, hr2⟩ : ∃ r2, r1 ++ lD = r2 := ⟨_, rfl⟩
            have hlr2 : r2.length ≤ r1.length + lD.length := by rw [← hr2, List.length_append]; omega
            have hir2 := hid (show ∀ i ∈ r2, In3 i by rw [← hr2]; exact in3_app hir1.out hiD.out)
            go_wp2_with (at_builtin; go_must (refine app_insN rfl (.tmp 66) (.tmp 74) 37 rfl 50 Tryd.inss_tab w1.heap.size ar1 cr1 r1 rfl (own_px p ownr1) _ cD lD r2 rfl (own_keep ownD) hr2 (by omega) (FrX.fr (S := [p]) (a := w1)).size ?_); intro ar2 cr2 wr2 ownr2 sxr2 h3r2)
            have abr2 : Abv p (blk ar2) := abv_own ownr2
            have sbr2 : SubX w1 (blk ar2) [p] := sub_own ownr2
            have aFr2 : Apart F (blk ar2) := apart_row ltF ownr2 (by omega)
            have aLr2 : Apart FL (blk ar2) := apart_row ltL ownr2 (by omega)
            refine ⟨mkStepX, ?_⟩
            refine rg_eff (i := 16) rfl (by kernel_rfl) ?_
            simp only [List.getElem_toArray, List.getElem_cons_succ, List.getElem_cons_zero]
            go_wp2_with fail
            refine ⟨mkStepX, ?_⟩
            refine rg_eff (i := 17) rfl (by kernel_rfl) ?_
            simp only [List.getElem_toArray, List.getElem_cons_succ, List.getElem_cons_zero]
            obtain ⟨r3, hr3⟩ : ∃ r3, r2 ++ [⟨11, 0, 0⟩] = r3 := ⟨_, rfl⟩
            have hlr3 : r3.length ≤ r2.length + 1 := by rw [← hr3]; simp
            have hir3 := hid (show ∀ i ∈ r3, In3 i by rw [← hr3]; exact in3_app hir2.out (in3_one (show In3 ⟨11, 0, 0⟩ from ⟨by unfold In64; (try simp only []); omega, by unfold In64; (try simp only []); omega, by unfold In64; (try simp only []); omega⟩)))
            go_wp2_with (at_builtin; go_must (refine app_ins1 rfl (.tmp 75) (.tmp 77) 37 rfl 50 Tryd.inss_tab w1.heap.size ar2 cr2 r2 rfl (own_px p ownr2) _ 1 ⟨11, 0, 0⟩ r3 rfl hr3 (by omega) (FrX.fr (S := [p]) (a := w1)).size ?_); intro ar3 cr3 wr3 ownr3 sxr3 h3r3)
            have abr3 : Abv p (blk ar3) := abv_own ownr3
            have sbr3 : SubX w1 (blk ar3) [p] := sub_own ownr3
            have aFr3 : Apart F (blk ar3) := apart_row ltF ownr3 (by omega)
            have aLr3 : Apart FL (blk ar3) := apart_row ltL ownr3 (by omega)
            refine ⟨mkStepX, ?_⟩
            refine rg_read (i := 18) (a1 := _) rfl (by kernel_rfl) rfl (by first | (simp; done) | (simp [Act.put]; done)) (by intro wq hwq; go_wp2; exact ⟨rfl, rfl⟩) mkStepX ?_
            refine rg_done (by kernel_rfl) ?_
            go_wp2
            as_aux_lemma =>
              go_roundw
              case rel => exact ⟨i, r, ar3, cr3, r3, by omega, by go_num, by go_num, by omega, rfl, hid (by have := hjl2.out; omega), hir3, own_px p ownr3, inferInstance, mkStepX⟩
              case measure => simp [intOf]
          · simp only [List.getElem_toArray, List.getElem_cons_succ, List.getElem_cons_zero]
            go_wp2_with fail
            refine ⟨mkStepX, ?_⟩
            refine rg_eff (i := 14) rfl (by kernel_rfl) ?_
            simp only [List.getElem_toArray, List.getElem_cons_succ, List.getElem_cons_zero]
            obtain ⟨r2, hr2⟩ : ∃ r2, r1 ++ lD = r2 := ⟨_, rfl⟩
            have hlr2 : r2.length ≤ r1.length + lD.length := by rw [← hr2, List.length_append]; omega
            have hir2 := hid (show ∀ i ∈ r2, In3 i by rw [← hr2]; exact in3_app hir1.out hiD.out)
            go_wp2_with (at_builtin; go_must (refine app_insN rfl (.tmp 66) (.tmp 74) 37 rfl 50 Tryd.inss_tab w1.heap.size ar1 cr1 r1 rfl (own_px p ownr1) _ cD lD r2 rfl (own_keep ownD) hr2 (by omega) (FrX.fr (S := [p]) (a := w1)).size ?_); intro ar2 cr2 wr2 ownr2 sxr2 h3r2)
            have abr2 : Abv p (blk ar2) := abv_own ownr2
            have sbr2 : SubX w1 (blk ar2) [p] := sub_own ownr2
            have aFr2 : Apart F (blk ar2) := apart_row ltF ownr2 (by omega)
            have aLr2 : Apart FL (blk ar2) := apart_row ltL ownr2 (by omega)
            refine ⟨mkStepX, ?_⟩
            refine rg_eff (i := 17) rfl (by kernel_rfl) ?_
            simp only [List.getElem_toArray, List.getElem_cons_succ, List.getElem_cons_zero]
            obtain ⟨r3, hr3⟩ : ∃ r3, r2 ++ [⟨11, 0, 0⟩] = r3 := ⟨_, rfl⟩
            have hlr3 : r3.length ≤ r2.length + 1 := by rw [← hr3]; simp
            have hir3 := hid (show ∀ i ∈ r3, In3 i by rw [← hr3]; exact in3_app hir2.out (in3_one (show In3 ⟨11, 0, 0⟩ from ⟨by unfold In64; (try simp only []); omega, by unfold In64; (try simp only []); omega, by unfold In64; (try simp only []); omega⟩)))
            go_wp2_with (at_builtin; go_must (refine app_ins1 rfl (.tmp 75) (.tmp 77) 37 rfl 50 Tryd.inss_tab w1.heap.size ar2 cr2 r2 rfl (own_px p ownr2) _ 1 ⟨11, 0, 0⟩ r3 rfl hr3 (by omega) (FrX.fr (S := [p]) (a := w1)).size ?_); intro ar3 cr3 wr3 ownr3 sxr3 h3r3)
            have abr3 : Abv p (blk ar3) := abv_own ownr3
            have sbr3 : SubX w1 (blk ar3) [p] := sub_own ownr3
            have aFr3 : Apart F (blk ar3) := apart_row ltF ownr3 (by omega)
            have aLr3 : Apart FL (blk ar3) := apart_row ltL ownr3 (by omega)
            refine ⟨mkStepX, ?_⟩
            refine rg_read (i := 18) (a1 := _) rfl (by kernel_rfl) rfl (by first | (simp; done) | (simp [Act.put]; done)) (by intro wq hwq; go_wp2; exact ⟨rfl, rfl⟩) mkStepX ?_
            refine rg_done (by kernel_rfl) ?_
            go_wp2
            as_aux_lemma =>
              go_roundw
              case rel => exact ⟨i, r, ar3, cr3, r3, by omega, by go_num, by go_num, by omega, rfl, hid (by have := hjl2.out; omega), hir3, own_px p ownr3, inferInstance, mkStepX⟩
              case measure => simp [intOf]
        · simp only [List.getElem_toArray, List.getElem_cons_succ, List.getElem_cons_zero]
          go_wp2_with fail
          refine ⟨mkStepX, ?_⟩
          refine rg_eff (i := 13) rfl (by kernel_rfl) ?_
          simp only [List.getElem_toArray, List.getElem_cons_succ, List.getElem_cons_zero]
          go_wp2_with fail
          with_reducible refine Calls.mono (ih2.out _ lab2 G _ (r : Int) inferInstance inferInstance inferInstance inferInstance (by omega) (by omega)) ?_
          rintro e wD ⟨aD, cD, lD, rfl, hlD, hiD, ownD, cuD, stD⟩
          have ni10 : NotIn wD.heap.size (blk ar1) := ⟨fun h => by have := (ownsRow_blk ownr1 _ h).2; have := stD.fr.size; (try rw [World.size_alloc] at this); omega⟩
          go_wp2_with fail
          refine ⟨mkStepX, ?_⟩
          refine rg_eff (i := 14) rfl (by kernel_rfl) ?_
          simp only [List.getElem_toArray, List.getElem_cons_succ, List.getElem_cons_zero]
          obtain ⟨r2, hr2⟩ : ∃ r2, r1 ++ lD = r2 := ⟨_, rfl⟩
          have hlr2 : r2.length ≤ r1.length + lD.length := by rw [← hr2, List.length_append]; omega
          have hir2 := hid (show ∀ i ∈ r2, In3 i by rw [← hr2]; exact in3_app hir1.out hiD.out)
          go_wp2_with (at_builtin; go_must (refine app_insN rfl (.tmp 66) (.tmp 74) 37 rfl 50 Tryd.inss_tab w1.heap.size ar1 cr1 r1 rfl (own_px p ownr1) _ cD lD r2 rfl (own_keep ownD) hr2 (by omega) (FrX.fr (S := [p]) (a := w1)).size ?_); intro ar2 cr2 wr2 ownr2 sxr2 h3r2)
          have abr2 : Abv p (blk ar2) := abv_own ownr2
          have sbr2 : SubX w1 (blk ar2) [p] := sub_own ownr2
          have aFr2 : Apart F (blk ar2) := apart_row ltF ownr2 (by omega)
          have aLr2 : Apart FL (blk ar2) := apart_row ltL ownr2 (by omega)
          refine ⟨mkStepX, ?_⟩
          refine rg_eff (i := 17) rfl (by kernel_rfl) ?_
          simp only [List.getElem_toArray, List.getElem_cons_succ, List.getElem_cons_zero]
          obtain ⟨r3, hr3⟩ : ∃ r3, r2 ++ [⟨11, 0, 0⟩] = r3 := ⟨_, rfl⟩
          have hlr3 : r3.length ≤ r2.length + 1 := by rw [← hr3]; simp
          have hir3 := hid (show ∀ i ∈ r3, In3 i by rw [← hr3]; exact in3_app hir2.out (in3_one (show In3 ⟨11, 0, 0⟩ from ⟨by unfold In64; (try simp only []); omega, by unfold In64; (try simp only []); omega, by unfold In64; (try simp only []); omega⟩)))
          go_wp2_with (at_builtin; go_must (refine app_ins1 rfl (.tmp 75) (.tmp 77) 37 rfl 50 Tryd.inss_tab w1.heap.size ar2 cr2 r2 rfl (own_px p ownr2) _ 1 ⟨11, 0, 0⟩ r3 rfl hr3 (by omega) (FrX.fr (S := [p]) (a := w1)).size ?_); intro ar3 cr3 wr3 ownr3 sxr3 h3r3)
          have abr3 : Abv p (blk ar3) := abv_own ownr3
          have sbr3 : SubX w1 (blk ar3) [p] := sub_own ownr3
          have aFr3 : Apart F (blk ar3) := apart_row ltF ownr3 (by omega)
          have aLr3 : Apart FL (blk ar3) := apart_row ltL ownr3 (by omega)
          refine ⟨mkStepX, ?_⟩
          refine rg_read (i := 18) (a1 := _) rfl (by kernel_rfl) rfl (by first | (simp; done) | (simp [Act.put]; done)) (by intro wq hwq; go_wp2; exact ⟨rfl, rfl⟩) mkStepX ?_
          refine rg_done (by kernel_rfl) ?_
          go_wp2
          as_aux_lemma =>
            go_roundw
            case rel => exact ⟨i, r, ar3, cr3, r3, by omega, by go_num, by go_num, by omega, rfl, hid (by have := hjl2.out; omega), hir3, own_px p ownr3, inferInstance, mkStepX⟩
            case measure => simp [intOf]
      · simp only [List.getElem_toArray, List.getElem_cons_succ, List.getElem_cons_zero]
        go_wp2_with fail
        refine ⟨mkStepX, ?_⟩
        refine rg_eff (i := 5) rfl (by kernel_rfl) ?_
        simp only [List.getElem_toArray, List.getElem_cons_succ, List.getElem_cons_zero]
        go_wp2_with (at_builtin; go_must (refine app_ins1 rfl (.tmp 61) (.tmp 65) 37 rfl 50 Tryd.inss_tab w1.heap.size al cl l rfl (own_px p ownl) _ 1 ⟨2, (r : Int), 0⟩ r1 rfl hr1 (by omega) (FrX.fr (S := [p]) (a := w1)).size ?_); intro ar1 cr1 wr1 ownr1 sxr1 h3r1)
        have abr1 : Abv p (blk ar1) := abv_own ownr1
        have sbr1 : SubX w1 (blk ar1) [p] := sub_own ownr1
        have aFr1 : Apart F (blk ar1) := apart_row ltF ownr1 (by omega)
        have aLr1 : Apart FL (blk ar1) := apart_row ltL ownr1 (by omega)
        have ni9 : NotIn wr1.heap.size (blk ar1) := ⟨fun h => by have := (ownsRow_blk ownr1 _ h).2; omega⟩
        have niA1 : NotIn wB.heap.size (blk ar1) := ⟨fun h => by rcases h3r1 _ h with h | h; exact niA.ne h; simp at h; omega⟩
        have niB1 : NotIn (wB.heap.size + 1) (blk ar1) := ⟨fun h => by rcases h3r1 _ h with h | h; exact niB.ne h; simp at h; omega⟩
        refine ⟨mkStepX, ?_⟩
        refine rg_eff (i := 13) rfl (by kernel_rfl) ?_
        simp only [List.getElem_toArray, List.getElem_cons_succ, List.getElem_cons_zero]
        go_wp2_with fail
        with_reducible refine Calls.mono (ih2.out _ lab2 G _ (r : Int) inferInstance inferInstance inferInstance inferInstance (by omega) (by omega)) ?_
        rintro e wD ⟨aD, cD, lD, rfl, hlD, hiD, ownD, cuD, stD⟩
        have ni10 : NotIn wD.heap.size (blk ar1) := ⟨fun h => by have := (ownsRow_blk ownr1 _ h).2; have := stD.fr.size; (try rw [World.size_alloc] at this); omega⟩
        go_wp2_with fail
        refine ⟨mkStepX, ?_⟩
        refine rg_eff (i := 14) rfl (by kernel_rfl) ?_
        simp only [List.getElem_toArray, List.getElem_cons_succ, List.getElem_cons_zero]
        obtain ⟨r2, hr2⟩ : ∃ r2, r1 ++ lD = r2 := ⟨_, rfl⟩
        have hlr2 : r2.length ≤ r1.length + lD.length := by rw [← hr2, List.length_append]; omega
        have hir2 := hid (show ∀ i ∈ r2, In3 i by rw [← hr2]; exact in3_app hir1.out hiD.out)
        go_wp2_with (at_builtin; go_must (refine app_insN rfl (.tmp 66) (.tmp 74) 37 rfl 50 Tryd.inss_tab w1.heap.size ar1 cr1 r1 rfl (own_px p ownr1) _ cD lD r2 rfl (own_keep ownD) hr2 (by omega) (FrX.fr (S := [p]) (a := w1)).size ?_); intro ar2 cr2 wr2 ownr2 sxr2 h3r2)
        have abr2 : Abv p (blk ar2) := abv_own ownr2
        have sbr2 : SubX w1 (blk ar2) [p] := sub_own ownr2
        have aFr2 : Apart F (blk ar2) := apart_row ltF ownr2 (by omega)
        have aLr2 : Apart FL (blk ar2) := apart_row ltL ownr2 (by omega)
        refine ⟨mkStepX, ?_⟩
        refine rg_eff (i := 17) rfl (by kernel_rfl) ?_
        simp only [List.getElem_toArray, List.getElem_cons_succ, List.getElem_cons_zero]
        obtain ⟨r3, hr3⟩ : ∃ r3, r2 ++ [⟨11, 0, 0⟩] = r3 := ⟨_, rfl⟩
        have hlr3 : r3.length ≤ r2.length + 1 := by rw [← hr3]; simp
        have hir3 := hid (show ∀ i ∈ r3, In3 i by rw [← hr3]; exact in3_app hir2.out (in3_one (show In3 ⟨11, 0, 0⟩ from ⟨by unfold In64; (try simp only []); omega, by unfold In64; (try simp only []); omega, by unfold In64; (try simp only []); omega⟩)))
        go_wp2_with (at_builtin; go_must (refine app_ins1 rfl (.tmp 75) (.tmp 77) 37 rfl 50 Tryd.inss_tab w1.heap.size ar2 cr2 r2 rfl (own_px p ownr2) _ 1 ⟨11, 0, 0⟩ r3 rfl hr3 (by omega) (FrX.fr (S := [p]) (a := w1)).size ?_); intro ar3 cr3 wr3 ownr3 sxr3 h3r3)
        have abr3 : Abv p (blk ar3) := abv_own ownr3
        have sbr3 : SubX w1 (blk ar3) [p] := sub_own ownr3
        have aFr3 : Apart F (blk ar3) := apart_row ltF ownr3 (by omega)
        have aLr3 : Apart FL (blk ar3) := apart_row ltL ownr3 (by omega)
        refine ⟨mkStepX, ?_⟩
        refine rg_read (i := 18) (a1 := _) rfl (by kernel_rfl) rfl (by first | (simp; done) | (simp [Act.put]; done)) (by intro wq hwq; go_wp2; exact ⟨rfl, rfl⟩) mkStepX ?_
        refine rg_done (by kernel_rfl) ?_
        go_wp2
        as_aux_lemma =>
          go_roundw
          case rel => exact ⟨i, r, ar3, cr3, r3, by omega, by go_num, by go_num, by omega, rfl, hid (by have := hjl2.out; omega), hir3, own_px p ownr3, inferInstance, mkStepX⟩
          case measure => simp [intOf]
    · simp only [List.getElem_toArray, List.getElem_cons_succ, List.getElem_cons_zero]
      go_wp2_with fail
      refine ⟨mkStepX, ?_⟩
      refine rg_eff (i := 4) rfl (by kernel_rfl) ?_
      simp only [List.getElem_toArray, List.getElem_cons_succ, List.getElem_cons_zero]
      go_wp2_with fail
      refine ⟨mkStepX, ?_⟩
      refine rg_eff (i := 5) rfl (by kernel_rfl) ?_
      simp only [List.getElem_toArray, List.getElem_cons_succ, List.getElem_cons_zero]
      go_wp2_with (at_builtin; go_must (refine app_ins1 rfl (.tmp 61) (.tmp 65) 37 rfl 50 Tryd.inss_tab w1.heap.size al cl l rfl (own_px p ownl) _ 1 ⟨2, (r : Int), 0⟩ r1 rfl hr1 (by omega) (FrX.fr (S := [p]) (a := w1)).size ?_); intro ar1 cr1 wr1 ownr1 sxr1 h3r1)
      have abr1 : Abv p (blk ar1) := abv_own ownr1
      have sbr1 : SubX w1 (blk ar1) [p] := sub_own ownr1
      have aFr1 : Apart F (blk ar1) := apart_row ltF ownr1 (by omega)
      have aLr1 : Apart FL (blk ar1) := apart_row ltL ownr1 (by omega)
      have ni9 : NotIn wr1.heap.size (blk ar1) := ⟨fun h => by have := (ownsRow_blk ownr1 _ h).2; omega⟩
      have niA1 : NotIn wB.heap.size (blk ar1) := ⟨fun h => by rcases h3r1 _ h with h | h; exact niA.ne h; simp at h; omega⟩
      have niB1 : NotIn (wB.heap.size + 1) (blk ar1) := ⟨fun h => by rcases h3r1 _ h with h | h; exact niB.ne h; simp at h; omega⟩
      refine ⟨mkStepX, ?_⟩
      refine rg_eff (i := 13) rfl (by kernel_rfl) ?_
      simp only [List.getElem_toArray, List.getElem_cons_succ, List.getElem_cons_zero]
      go_wp2_with fail
      with_reducible refine Calls.mono (ih2.out _ lab2 G _ (r : Int) inferInstance inferInstance inferInstance inferInstance (by omega) (by omega)) ?_
      rintro e wD ⟨aD, cD, lD, rfl, hlD, hiD, ownD, cuD, stD⟩
      have ni10 : NotIn wD.heap.size (blk ar1) := ⟨fun h => by have := (ownsRow_blk ownr1 _ h).2; have := stD.fr.size; (try rw [World.size_alloc] at this); omega⟩
      go_wp2_with fail
      refine ⟨mkStepX, ?_⟩
      refine rg_eff (i := 14) rfl (by kernel_rfl) ?_
      simp only [List.getElem_toArray, List.getElem_cons_succ, List.getElem_cons_zero]
      obtain ⟨r2, hr2⟩ : ∃ r2, r1 ++ lD = r2 := ⟨_, rfl⟩
      have hlr2 : r2.length ≤ r1.length + lD.length := by rw [← hr2, List.length_append]; omega
      have hir2 := hid (show ∀ i ∈ r2, In3 i by rw [← hr2]; exact in3_app hir1.out hiD.out)
      go_wp2_with (at_builtin; go_must (refine app_insN rfl (.tmp 66) (.tmp 74) 37 rfl 50 Tryd.inss_tab w1.heap.size ar1 cr1 r1 rfl (own_px p ownr1) _ cD lD r2 rfl (own_keep ownD) hr2 (by omega) (FrX.fr (S := [p]) (a := w1)).size ?_); intro ar2 cr2 wr2 ownr2 sxr2 h3r2)
      have abr2 : Abv p (blk ar2) := abv_own ownr2
      have sbr2 : SubX w1 (blk ar2) [p] := sub_own ownr2
      have aFr2 : Apart F (blk ar2) := apart_row ltF ownr2 (by omega)
      have aLr2 : Apart FL (blk ar2) := apart_row ltL ownr2 (by omega)
      refine ⟨mkStepX, ?_⟩
      refine rg_eff (i := 17) rfl (by kernel_rfl) ?_
      simp only [List.getElem_toArray, List.getElem_cons_succ, List.getElem_cons_zero]
      obtain ⟨r3, hr3⟩ : ∃ r3, r2 ++ [⟨11, 0, 0⟩] = r3 := ⟨_, rfl⟩
      have hlr3 : r3.length ≤ r2.length + 1 := by rw [← hr3]; simp
      have hir3 := hid (show ∀ i ∈ r3, In3 i by rw [← hr3]; exact in3_app hir2.out (in3_one (show In3 ⟨11, 0, 0⟩ from ⟨by unfold In64; (try simp only []); omega, by unfold In64; (try simp only []); omega, by unfold In64; (try simp only []); omega⟩)))
      go_wp2_with (at_builtin; go_must (refine app_ins1 rfl (.tmp 75) (.tmp 77) 37 rfl 50 Tryd.inss_tab w1.heap.size ar2 cr2 r2 rfl (own_px p ownr2) _ 1 ⟨11, 0, 0⟩ r3 rfl hr3 (by omega) (FrX.fr (S := [p]) (a := w1)).size ?_); intro ar3 cr3 wr3 ownr3 sxr3 h3r3)
      have abr3 : Abv p (blk ar3) := abv_own ownr3
      have sbr3 : SubX w1 (blk ar3) [p] := sub_own ownr3
      have aFr3 : Apart F (blk ar3) := apart_row ltF ownr3 (by omega)
      have aLr3 : Apart FL (blk ar3) := apart_row ltL ownr3 (by omega)
      refine ⟨mkStepX, ?_⟩
      refine rg_read (i := 18) (a1 := _) rfl (by kernel_rfl) rfl (by first | (simp; done) | (simp [Act.put]; done)) (by intro wq hwq; go_wp2; exact ⟨rfl, rfl⟩) mkStepX ?_
      refine rg_done (by kernel_rfl) ?_
      go_wp2
      as_aux_lemma =>
        go_roundw
        case rel => exact ⟨i, r, ar3, cr3, r3, by omega, by go_num, by go_num, by omega, rfl, hid (by have := hjl2.out; omega), hir3, own_px p ownr3, inferInstance, mkStepX⟩
        case measure => simp [intOf]
  · obtain ⟨lab2, hlab⟩ : ∃ lab2, (0 : Int) :: lb = lab2 := ⟨_, rfl⟩
    have hlabl : lab2.length ≤ lb.length + 1 := by rw [← hlab]; simp
    have hlabi : ∀ n ∈ lab2, In64 n := by rw [← hlab]; intro n hn; rcases List.mem_cons.1 hn with rfl | hn; exact (by unfold In64; omega); exact hinL.out n hn
    replace hlabi := hid hlabi
    obtain ⟨r1, hr1⟩ : ∃ r1, l ++ [⟨3, (r : Int), 0⟩] = r1 := ⟨_, rfl⟩
    have hlr1 : r1.length ≤ l.length + 1 := by rw [← hr1]; simp
    have hir1 := hid (show ∀ i ∈ r1, In3 i by rw [← hr1]; exact in3_app hil.out (in3_one (show In3 ⟨3, (r : Int), 0⟩ from ⟨by unfold In64; (try simp only []); omega, by unfold In64; (try simp only []); omega, by unfold In64; (try simp only []); omega⟩)))
    go_wp2_with (at_builtin; go_must (refine app_lab rfl (.tmp 58) (.tmp 59) 33 rfl 3 Tryd.ints_tabD w7.heap.size _ 1 0 rfl (own_litAt rfl rfl (Nat.le_refl _) (by unfold maxLen; omega) rfl) aL cL lb rfl lab2 hlab (by omega) (by simp) ?_); intro aB cB wB ownB sxB)
    have kB : Known wB (if lab2 = [] then [] else blk aB) lab2 [.slice aB lab2.length cB] := ⟨ints_shut (ownsRow_view ownB) hlabi.out (ownsRow_cap ownB)⟩
    obtain ⟨G, hG⟩ : ∃ G, G = (if lab2 = [] then [] else blk aB) := ⟨_, rfl⟩
    have hG2 : ∀ b ∈ G, w7.heap.size ≤ b ∧ b < wB.heap.size := by intro b hb; rw [hG] at hb; split at hb; exact absurd hb (by simp); exact ownsRow_blk ownB b hb
    rw [← hG] at kB
    replace hG := hid hG
    have apG : Apart G [p] := ⟨fun b hb hm => by rw [List.mem_singleton] at hm; have := (hG2 b hb).1; omega⟩
    have apGo : Apart G (blk al) := ⟨fun b hb hm => by have := (hG2 b hb).1; have := (ownsRow_blk ownl b hm).2; omega⟩
    have aFB : Apart F [w7.heap.size] := ⟨fun b hb hm => by rw [List.mem_singleton] at hm; have := ltF b hb; omega⟩
    have aLB : Apart FL [w7.heap.size] := ⟨fun b hb hm => by rw [List.mem_singleton] at hm; have := ltL b hb; omega⟩
    replace hG2 := hid hG2
    have niA : NotIn wB.heap.size (blk al) := ⟨fun h => by have := (ownsRow_blk ownl _ h).2; have := sxB.fr.size; rw [World.size_alloc] at this; omega⟩
    have niB : NotIn (wB.heap.size + 1) (blk al) := ⟨fun h => by have := (ownsRow_blk ownl _ h).2; have := sxB.fr.size; rw [World.size_alloc] at this; omega⟩
    refine rg_begin (n := 19) (StepX [p] w1) (by kernel_rfl) rfl ?_
    have rg0 := (show (StepX [p] w1) (World.drew _) from (show StepX [p] w1 wB.drew from mkStepX))
    refine rg_read (i := 0) (a1 := _) rfl (by kernel_rfl) rfl (by first | (simp; done) | (simp [Act.put]; done)) (by intro wq hwq; go_wp2; exact ⟨rfl, rfl⟩) rg0 ?_
    refine rg_read (i := 1) (a1 := _) rfl (by kernel_rfl) rfl (by first | (simp; done) | (simp [Act.put]; done)) (by intro wq hwq; go_wp2; exact ⟨rfl, rfl⟩) rg0 ?_
    refine rg_read (i := 2) (a1 := _) rfl (by kernel_rfl) rfl (by first | (simp; done) | (simp [Act.put]; done)) (by intro wq hwq; go_wp2; exact ⟨rfl, rfl⟩) rg0 ?_
    refine rg_read (i := 3) (a1 := _) rfl (by kernel_rfl) rfl (by first | (simp; done) | (simp [Act.put]; done)) (by intro wq hwq; go_wp2; exact ⟨rfl, rfl⟩) rg0 ?_
    refine rg_read (i := 6) (a1 := _) rfl (by kernel_rfl) rfl (by first | (simp; done) | (simp [Act.put]; done)) (by intro wq hwq; go_wp2; exact ⟨rfl, rfl⟩) rg0 ?_
    refine rg_read (i := 7) (a1 := _) rfl (by kernel_rfl) rfl (by first | (simp; done) | (simp [Act.put]; done)) (by intro wq hwq; go_wp2; exact ⟨rfl, rfl⟩) rg0 ?_
    refine rg_read (i := 8) (a1 := _) rfl (by kernel_rfl) rfl (by first | (simp; done) | (simp [Act.put]; done)) (by intro wq hwq; go_wp2; exact ⟨rfl, rfl⟩) rg0 ?_
    refine rg_read (i := 9) (a1 := _) rfl (by kernel_rfl) rfl (by first | (simp; done) | (simp [Act.put]; done)) (by intro wq hwq; go_wp2; exact ⟨rfl, rfl⟩) rg0 ?_
    refine rg_read (i := 10) (a1 := _) rfl (by kernel_rfl) rfl (by first | (simp; done) | (simp [Act.put]; done)) (by intro wq hwq; go_wp2; exact ⟨rfl, rfl⟩) rg0 ?_
    refine rg_read (i := 11) (a1 := _) rfl (by kernel_rfl) rfl (by first | (simp; done) | (simp [Act.put]; done)) (by intro wq hwq; go_wp2; exact ⟨rfl, rfl⟩) rg0 ?_
    refine rg_read (i := 12) (a1 := _) rfl (by kernel_rfl) rfl (by first | (simp; done) | (simp [Act.put]; done)) (by intro wq hwq; go_wp2; exact ⟨rfl, rfl⟩) rg0 ?_
    refine rg_read (i := 15) (a1 := _) rfl (by kernel_rfl) rfl (by first | (simp; done) | (simp [Act.put]; done)) (by intro wq hwq; go_wp2; exact ⟨rfl, rfl⟩) rg0 ?_
    refine rg_two (i := 4) (j := 16) rfl rfl (by kernel_rfl) ?_ ?_
    · simp only [List.getElem_toArray, List.getElem_cons_succ, List.getElem_cons_zero]
      go_wp2_with fail
      refine ⟨mkStepX, ?_⟩
      refine rg_two (i := 5) (j := 16) rfl rfl (by kernel_rfl) ?_ ?_
      · simp only [List.getElem_toArray, List.getElem_cons_succ, List.getElem_cons_zero]
        go_wp2_with (at_builtin; go_must (refine app_ins1 rfl (.tmp 61) (.tmp 65) 37 rfl 50 Tryd.inss_tab w1.heap.size al cl l rfl (own_px p ownl) _ 1 ⟨3, (r : Int), 0⟩ r1 rfl hr1 (by omega) (FrX.fr (S := [p]) (a := w1)).size ?_); intro ar1 cr1 wr1 ownr1 sxr1 h3r1)
        have abr1 : Abv p (blk ar1) := abv_own ownr1
        have sbr1 : SubX w1 (blk ar1) [p] := sub_own ownr1
        have aFr1 : Apart F (blk ar1) := apart_row ltF ownr1 (by omega)
        have aLr1 : Apart FL (blk ar1) := apart_row ltL ownr1 (by omega)
        have ni9 : NotIn wr1.heap.size (blk ar1) := ⟨fun h => by have := (ownsRow_blk ownr1 _ h).2; omega⟩
        refine ⟨mkStepX, ?_⟩
        refine rg_two (i := 13) (j := 16) rfl rfl (by kernel_rfl) ?_ ?_
        · simp only [List.getElem_toArray, List.getElem_cons_succ, List.getElem_cons_zero]
          go_wp2_with fail
          with_reducible refine Calls.mono (ih2.out _ lab2 G _ (r : Int) inferInstance inferInstance inferInstance inferInstance (by omega) (by omega)) ?_
          rintro e wD ⟨aD, cD, lD, rfl, hlD, hiD, ownD, cuD, stD⟩
          have ni10 : NotIn wD.heap.size (blk ar1) := ⟨fun h => by have := (ownsRow_blk ownr1 _ h).2; have := stD.fr.size; (try rw [World.size_alloc] at this); omega⟩
          go_wp2_with fail
          refine ⟨mkStepX, ?_⟩
          refine rg_two (i := 14) (j := 16) rfl rfl (by kernel_rfl) ?_ ?_
          · simp only [List.getElem_toArray, List.getElem_cons_succ, List.getElem_cons_zero]
            obtain ⟨r2, hr2⟩ : ∃ r2, r1 ++ lD = r2 := ⟨_, rfl⟩
            have hlr2 : r2.length ≤ r1.length + lD.length := by rw [← hr2, List.length_append]; omega
            have hir2 := hid (show ∀ i ∈ r2, In3 i by rw [← hr2]; exact in3_app hir1.out hiD.out)
            go_wp2_with (at_builtin; go_must (refine app_insN rfl (.tmp 66) (.tmp 74) 37 rfl 50 Tryd.inss_tab w1.heap.size ar1 cr1 r1 rfl (own_px p ownr1) _ cD lD r2 rfl (own_keep ownD) hr2 (by omega) (FrX.fr (S := [p]) (a := w1)).size ?_); intro ar2 cr2 wr2 ownr2 sxr2 h3r2)
            have abr2 : Abv p (blk ar2) := abv_own ownr2
            have sbr2 : SubX w1 (blk ar2) [p] := sub_own ownr2
            have aFr2 : Apart F (blk ar2) := apart_row ltF ownr2 (by omega)
            have aLr2 : Apart FL (blk ar2) := apart_row ltL ownr2 (by omega)
            refine ⟨mkStepX, ?_⟩
            refine rg_eff (i := 16) rfl (by kernel_rfl) ?_
            simp only [List.getElem_toArray, List.getElem_cons_succ, List.getElem_cons_zero]
            go_wp2_with fail
            refine ⟨mkStepX, ?_⟩
            refine rg_eff (i := 17) rfl (by kernel_rfl) ?_
            simp only [List.getElem_toArray, List.getElem_cons_succ, List.getElem_cons_zero]
            obtain ⟨r3, hr3⟩ : ∃ r3, r2 ++ [⟨11, 0, 0⟩] = r3 := ⟨_, rfl⟩
            have hlr3 : r3.length ≤ r2.length + 1 := by rw [← hr3]; simp
            have hir3 := hid (show ∀ i ∈ r3, In3 i by rw [← hr3]; exact in3_app hir2.out (in3_one (show In3 ⟨11, 0, 0⟩ from ⟨by unfold In64; (try simp only []); omega, by unfold In64; (try simp only []); omega, by unfold In64; (try simp only []); omega⟩)))
            go_wp2_with (at_builtin; go_must (refine app_ins1 rfl (.tmp 75) (.tmp 77) 37 rfl 50 Tryd.inss_tab w1.heap.size ar2 cr2 r2 rfl (own_px p ownr2) _ 1 ⟨11, 0, 0⟩ r3 rfl hr3 (by omega) (FrX.fr (S := [p]) (a := w1)).size ?_); intro ar3 cr3 wr3 ownr3 sxr3 h3r3)
            have abr3 : Abv p (blk ar3) := abv_own ownr3
            have sbr3 : SubX w1 (blk ar3) [p] := sub_own ownr3
            have aFr3 : Apart F (blk ar3) := apart_row ltF ownr3 (by omega)
            have aLr3 : Apart FL (blk ar3) := apart_row ltL ownr3 (by omega)
            refine ⟨mkStepX, ?_⟩
            refine rg_read (i := 18) (a1 := _) rfl (by kernel_rfl) rfl (by first | (simp; done) | (simp [Act.put]; done)) (by intro wq hwq; go_wp2; exact ⟨rfl, rfl⟩) mkStepX ?_
            refine rg_done (by kernel_rfl) ?_
            go_wp2
            as_aux_lemma =>
              go_roundw
              case rel => exact ⟨i, r, ar3, cr3, r3, by omega, by go_num, by go_num, by omega, rfl, hid (by have := hjl2.out; omega), hir3, own_px p ownr3, inferInstance, mkStepX⟩
              case measure => simp [intOf]
          · simp only [List.getElem_toArray, List.getElem_cons_succ, List.getElem_cons_zero]
            go_wp2_with fail
            refine ⟨mkStepX, ?_⟩
            refine rg_eff (i := 14) rfl (by kernel_rfl) ?_
            simp only [List.getElem_toArray, List.getElem_cons_succ, List.getElem_cons_zero]
            obtain ⟨r2, hr2⟩ : ∃ r2, r1 ++ lD = r2 := ⟨_, rfl⟩
            have hlr2 : r2.length ≤ r1.length + lD.length := by rw [← hr2, List.length_append]; omega
            have hir2 := hid (show ∀ i ∈ r2, In3 i by rw [← hr2]; exact in3_app hir1.out hiD.out)
            go_wp2_with (at_builtin; go_must (refine app_insN rfl (.tmp 66) (.tmp 74) 37 rfl 50 Tryd.inss_tab w1.heap.size ar1 cr1 r1 rfl (own_px p ownr1) _ cD lD r2 rfl (own_keep ownD) hr2 (by omega) (FrX.fr (S := [p]) (a := w1)).size ?_); intro ar2 cr2 wr2 ownr2 sxr2 h3r2)
            have abr2 : Abv p (blk ar2) := abv_own ownr2
            have sbr2 : SubX w1 (blk ar2) [p] := sub_own ownr2
            have aFr2 : Apart F (blk ar2) := apart_row ltF ownr2 (by omega)
            have aLr2 : Apart FL (blk ar2) := apart_row ltL ownr2 (by omega)
            refine ⟨mkStepX, ?_⟩
            refine rg_eff (i := 17) rfl (by kernel_rfl) ?_
            simp only [List.getElem_toArray, List.getElem_cons_succ, List.getElem_cons_zero]
            obtain ⟨r3, hr3⟩ : ∃ r3, r2 ++ [⟨11, 0, 0⟩] = r3 := ⟨_, rfl⟩
            have hlr3 : r3.length ≤ r2.length + 1 := by rw [← hr3]; simp
            have hir3 := hid (show ∀ i ∈ r3, In3 i by rw [← hr3]; exact in3_app hir2.out (in3_one (show In3 ⟨11, 0, 0⟩ from ⟨by unfold In64; (try simp only []); omega, by unfold In64; (try simp only []); omega, by unfold In64; (try simp only []); omega⟩)))
            go_wp2_with (at_builtin; go_must (refine app_ins1 rfl (.tmp 75) (.tmp 77) 37 rfl 50 Tryd.inss_tab w1.heap.size ar2 cr2 r2 rfl (own_px p ownr2) _ 1 ⟨11, 0, 0⟩ r3 rfl hr3 (by omega) (FrX.fr (S := [p]) (a := w1)).size ?_); intro ar3 cr3 wr3 ownr3 sxr3 h3r3)
            have abr3 : Abv p (blk ar3) := abv_own ownr3
            have sbr3 : SubX w1 (blk ar3) [p] := sub_own ownr3
            have aFr3 : Apart F (blk ar3) := apart_row ltF ownr3 (by omega)
            have aLr3 : Apart FL (blk ar3) := apart_row ltL ownr3 (by omega)
            refine ⟨mkStepX, ?_⟩
            refine rg_read (i := 18) (a1 := _) rfl (by kernel_rfl) rfl (by first | (simp; done) | (simp [Act.put]; done)) (by intro wq hwq; go_wp2; exact ⟨rfl, rfl⟩) mkStepX ?_
            refine rg_done (by kernel_rfl) ?_
            go_wp2
            as_aux_lemma =>
              go_roundw
              case rel => exact ⟨i, r, ar3, cr3, r3, by omega, by go_num, by go_num, by omega, rfl, hid (by have := hjl2.out; omega), hir3, own_px p ownr3, inferInstance, mkStepX⟩
              case measure => simp [intOf]
        · simp only [List.getElem_toArray, List.getElem_cons_succ, List.getElem_cons_zero]
          go_wp2_with fail
          refine ⟨mkStepX, ?_⟩
          refine rg_eff (i := 13) rfl (by kernel_rfl) ?_
          simp only [List.getElem_toArray, List.getElem_cons_succ, List.getElem_cons_zero]
          go_wp2_with fail
          with_reducible refine Calls.mono (ih2.out _ lab2 G _ (r : Int) inferInstance inferInstance inferInstance inferInstance (by omega) (by omega)) ?_
          rintro e wD ⟨aD, cD, lD, rfl, hlD, hiD, ownD, cuD, stD⟩
          have ni10 : NotIn wD.heap.size (blk ar1) := ⟨fun h => by have := (ownsRow_blk ownr1 _ h).2; have := stD.fr.size; (try rw [World.size_alloc] at this); omega⟩
          go_wp2_with fail
          refine ⟨mkStepX, ?_⟩
          refine rg_eff (i := 14) rfl (by kernel_rfl) ?_
          simp only [List.getElem_toArray, List.getElem_cons_succ, List.getElem_cons_zero]
          obtain ⟨r2, hr2⟩ : ∃ r2, r1 ++ lD = r2 := ⟨_, rfl⟩
          have hlr2 : r2.length ≤ r1.length + lD.length := by rw [← hr2, List.length_append]; omega
          have hir2 := hid (show ∀ i ∈ r2, In3 i by rw [← hr2]; exact in3_app hir1.out hiD.out)
          go_wp2_with (at_builtin; go_must (refine app_insN rfl (.tmp 66) (.tmp 74) 37 rfl 50 Tryd.inss_tab w1.heap.size ar1 cr1 r1 rfl (own_px p ownr1) _ cD lD r2 rfl (own_keep ownD) hr2 (by omega) (FrX.fr (S := [p]) (a := w1)).size ?_); intro ar2 cr2 wr2 ownr2 sxr2 h3r2)
          have abr2 : Abv p (blk ar2) := abv_own ownr2
          have sbr2 : SubX w1 (blk ar2) [p] := sub_own ownr2
          have aFr2 : Apart F (blk ar2) := apart_row ltF ownr2 (by omega)
          have aLr2 : Apart FL (blk ar2) := apart_row ltL ownr2 (by omega)
          refine ⟨mkStepX, ?_⟩
          refine rg_eff (i := 17) rfl (by kernel_rfl) ?_
          simp only [List.getElem_toArray, List.getElem_cons_succ, List.getElem_cons_zero]
          obtain ⟨r3, hr3⟩ : ∃ r3, r2 ++ [⟨11, 0, 0⟩] = r3 := ⟨_, rfl⟩
          have hlr3 : r3.length ≤ r2.length + 1 := by rw [← hr3]; simp
          have hir3 := hid (show ∀ i ∈ r3, In3 i by rw [← hr3]; exact in3_app hir2.out (in3_one (show In3 ⟨11, 0, 0⟩ from ⟨by unfold In64; (try simp only []); omega, by unfold In64; (try simp only []); omega, by unfold In64; (try simp only []); omega⟩)))
          go_wp2_with (at_builtin; go_must (refine app_ins1 rfl (.tmp 75) (.tmp 77) 37 rfl 50 Tryd.inss_tab w1.heap.size ar2 cr2 r2 rfl (own_px p ownr2) _ 1 ⟨11, 0, 0⟩ r3 rfl hr3 (by omega) (FrX.fr (S := [p]) (a := w1)).size ?_); intro ar3 cr3 wr3 ownr3 sxr3 h3r3)
          have abr3 : Abv p (blk ar3) := abv_own ownr3
          have sbr3 : SubX w1 (blk ar3) [p] := sub_own ownr3
          have aFr3 : Apart F (blk ar3) := apart_row ltF ownr3 (by omega)
          have aLr3 : Apart FL (blk ar3) := apart_row ltL ownr3 (by omega)
          refine ⟨mkStepX, ?_⟩
          refine rg_read (i := 18) (a1 := _) rfl (by kernel_rfl) rfl (by first | (simp; done) | (simp [Act.put]; done)) (by intro wq hwq; go_wp2; exact ⟨rfl, rfl⟩) mkStepX ?_
          refine rg_done (by kernel_rfl) ?_
          go_wp2
          as_aux_lemma =>
            go_roundw
            case rel => exact ⟨i, r, ar3, cr3, r3, by omega, by go_num, by go_num, by omega, rfl, hid (by have := hjl2.out; omega), hir3, own_px p ownr3, inferInstance, mkStepX⟩
            case measure => simp [intOf]
      · simp only [List.getElem_toArray, List.getElem_cons_succ, List.getElem_cons_zero]
        go_wp2_with fail
        refine ⟨mkStepX, ?_⟩
        refine rg_eff (i := 5) rfl (by kernel_rfl) ?_
        simp only [List.getElem_toArray, List.getElem_cons_succ, List.getElem_cons_zero]
        go_wp2_with (at_builtin; go_must (refine app_ins1 rfl (.tmp 61) (.tmp 65) 37 rfl 50 Tryd.inss_tab w1.heap.size al cl l rfl (own_px p ownl) _ 1 ⟨3, (r : Int), 0⟩ r1 rfl hr1 (by omega) (FrX.fr (S := [p]) (a := w1)).size ?_); intro ar1 cr1 wr1 ownr1 sxr1 h3r1)
        have abr1 : Abv p (blk ar1) := abv_own ownr1
        have sbr1 : SubX w1 (blk ar1) [p] := sub_own ownr1
        have aFr1 : Apart F (blk ar1) := apart_row ltF ownr1 (by omega)
        have aLr1 : Apart FL (blk ar1) := apart_row ltL ownr1 (by omega)
        have ni9 : NotIn wr1.heap.size (blk ar1) := ⟨fun h => by have := (ownsRow_blk ownr1 _ h).2; omega⟩
        have niA1 : NotIn wB.heap.size (blk ar1) := ⟨fun h => by rcases h3r1 _ h with h | h; exact niA.ne h; simp at h; omega⟩
        have niB1 : NotIn (wB.heap.size + 1) (blk ar1) := ⟨fun h => by rcases h3r1 _ h with h | h; exact niB.ne h; simp at h; omega⟩
        refine ⟨mkStepX, ?_⟩
        refine rg_eff (i := 13) rfl (by kernel_rfl) ?_
        simp only [List.getElem_toArray, List.getElem_cons_succ, List.getElem_cons_zero]
        go_wp2_with fail
        with_reducible refine Calls.mono (ih2.out _ lab2 G _ (r : Int) inferInstance inferInstance inferInstance inferInstance (by omega) (by omega)) ?_
        rintro e wD ⟨aD, cD, lD, rfl, hlD, hiD, ownD, cuD, stD⟩
        have ni10 : NotIn wD.heap.size (blk ar1) := ⟨fun h => by have := (ownsRow_blk ownr1 _ h).2; have := stD.fr.size; (try rw [World.size_alloc] at this); omega⟩
        go_wp2_with fail
        refine ⟨mkStepX, ?_⟩
        refine rg_eff (i := 14) rfl (by kernel_rfl) ?_
        simp only [List.getElem_toArray, List.getElem_cons_succ, List.getElem_cons_zero]
        obtain ⟨r2, hr2⟩ : ∃ r2, r1 ++ lD = r2 := ⟨_, rfl⟩
        have hlr2 : r2.length ≤ r1.length + lD.length := by rw [← hr2, List.length_append]; omega
        have hir2 := hid (show ∀ i ∈ r2, In3 i by rw [← hr2]; exact in3_app hir1.out hiD.out)
        go_wp2_with (at_builtin; go_must (refine app_insN rfl (.tmp 66) (.tmp 74) 37 rfl 50 Tryd.inss_tab w1.heap.size ar1 cr1 r1 rfl (own_px p ownr1) _ cD lD r2 rfl (own_keep ownD) hr2 (by omega) (FrX.fr (S := [p]) (a := w1)).size ?_); intro ar2 cr2 wr2 ownr2 sxr2 h3r2)
        have abr2 : Abv p (blk ar2) := abv_own ownr2
        have sbr2 : SubX w1 (blk ar2) [p] := sub_own ownr2
        have aFr2 : Apart F (blk ar2) := apart_row ltF ownr2 (by omega)
        have aLr2 : Apart FL (blk ar2) := apart_row ltL ownr2 (by omega)
        refine ⟨mkStepX, ?_⟩
        refine rg_eff (i := 17) rfl (by kernel_rfl) ?_
        simp only [List.getElem_toArray, List.getElem_cons_succ, List.getElem_cons_zero]
        obtain ⟨r3, hr3⟩ : ∃ r3, r2 ++ [⟨11, 0, 0⟩] = r3 := ⟨_, rfl⟩
        have hlr3 : r3.length ≤ r2.length + 1 := by rw [← hr3]; simp
        have hir3 := hid (show ∀ i ∈ r3, In3 i by rw [← hr3]; exact in3_app hir2.out (in3_one (show In3 ⟨11, 0, 0⟩ from ⟨by unfold In64; (try simp only []); omega, by unfold In64; (try simp only []); omega, by unfold In64; (try simp only []); omega⟩)))
        go_wp2_with (at_builtin; go_must (refine app_ins1 rfl (.tmp 75) (.tmp 77) 37 rfl 50 Tryd.inss_tab w1.heap.size ar2 cr2 r2 rfl (own_px p ownr2) _ 1 ⟨11, 0, 0⟩ r3 rfl hr3 (by omega) (FrX.fr (S := [p]) (a := w1)).size ?_); intro ar3 cr3 wr3 ownr3 sxr3 h3r3)
        have abr3 : Abv p (blk ar3) := abv_own ownr3
        have sbr3 : SubX w1 (blk ar3) [p] := sub_own ownr3
        have aFr3 : Apart F (blk ar3) := apart_row ltF ownr3 (by omega)
        have aLr3 : Apart FL (blk ar3) := apart_row ltL ownr3 (by omega)
        refine ⟨mkStepX, ?_⟩
        refine rg_read (i := 18) (a1 := _) rfl (by kernel_rfl) rfl (by first | (simp; done) | (simp [Act.put]; done)) (by intro wq hwq; go_wp2; exact ⟨rfl, rfl⟩) mkStepX ?_
        refine rg_done (by kernel_rfl) ?_
        go_wp2
        as_aux_lemma =>
          go_roundw
          case rel => exact ⟨i, r, ar3, cr3, r3, by omega, by go_num, by go_num, by omega, rfl, hid (by have := hjl2.out; omega), hir3, own_px p ownr3, inferInstance, mkStepX⟩
          case measure => simp [intOf]
    · simp only [List.getElem_toArray, List.getElem_cons_succ, List.getElem_cons_zero]
      go_wp2_with fail
      refine ⟨mkStepX, ?_⟩
      refine rg_eff (i := 4) rfl (by kernel_rfl) ?_
      simp only [List.getElem_toArray, List.getElem_cons_succ, List.getElem_cons_zero]
      go_wp2_with fail
      refine ⟨mkStepX, ?_⟩
      refine rg_eff (i := 5) rfl (by kernel_rfl) ?_
      simp only [List.getElem_toArray, List.getElem_cons_succ, List.getElem_cons_zero]
      go_wp2_with (at_builtin; go_must (refine app_ins1 rfl (.tmp 61) (.tmp 65) 37 rfl 50 Tryd.inss_tab w1.heap.size al cl l rfl (own_px p ownl) _ 1 ⟨3, (r : Int), 0⟩ r1 rfl hr1 (by omega) (FrX.fr (S := [p]) (a := w1)).size ?_); intro ar1 cr1 wr1 ownr1 sxr1 h3r1)
      have abr1 : Abv p (blk ar1) := abv_own ownr1
      have sbr1 : SubX w1 (blk ar1) [p] := sub_own ownr1
      have aFr1 : Apart F (blk ar1) := apart_row ltF ownr1 (by omega)
      have aLr1 : Apart FL (blk ar1) := apart_row ltL ownr1 (by omega)
      have ni9 : NotIn wr1.heap.size (blk ar1) := ⟨fun h => by have := (ownsRow_blk ownr1 _ h).2; omega⟩
      have niA1 : NotIn wB.heap.size (blk ar1) := ⟨fun h => by rcases h3r1 _ h with h | h; exact niA.ne h; simp at h; omega⟩
      have niB1 : NotIn (wB.heap.size + 1) (blk ar1) := ⟨fun h => by rcases h3r1 _ h with h | h; exact niB.ne h; simp at h; omega⟩
      refine ⟨mkStepX, ?_⟩
      refine rg_eff (i := 13) rfl (by kernel_rfl) ?_
      simp only [List.getElem_toArray, List.getElem_cons_succ, List.getElem_cons_zero]
      go_wp2_with fail
      with_reducible refine Calls.mono (ih2.out _ lab2 G _ (r : Int) inferInstance inferInstance inferInstance inferInstance (by omega) (by omega)) ?_
      rintro e wD ⟨aD, cD, lD, rfl, hlD, hiD, ownD, cuD, stD⟩
      have ni10 : NotIn wD.heap.size (blk ar1) := ⟨fun h => by have := (ownsRow_blk ownr1 _ h).2; have := stD.fr.size; (try rw [World.size_alloc] at this); omega⟩
      go_wp2_with fail
      refine ⟨mkStepX, ?_⟩
      refine rg_eff (i := 14) rfl (by kernel_rfl) ?_
      simp only [List.getElem_toArray, List.getElem_cons_succ, List.getElem_cons_zero]
      obtain ⟨r2, hr2⟩ : ∃ r2, r1 ++ lD = r2 := ⟨_, rfl⟩
      have hlr2 : r2.length ≤ r1.length + lD.length := by rw [← hr2, List.length_append]; omega
      have hir2 := hid (show ∀ i ∈ r2, In3 i by rw [← hr2]; exact in3_app hir1.out hiD.out)
      go_wp2_with (at_builtin; go_must (refine app_insN rfl (.tmp 66) (.tmp 74) 37 rfl 50 Tryd.inss_tab w1.heap.size ar1 cr1 r1 rfl (own_px p ownr1) _ cD lD r2 rfl (own_keep ownD) hr2 (by omega) (FrX.fr (S := [p]) (a := w1)).size ?_); intro ar2 cr2 wr2 ownr2 sxr2 h3r2)
      have abr2 : Abv p (blk ar2) := abv_own ownr2
      have sbr2 : SubX w1 (blk ar2) [p] := sub_own ownr2
      have aFr2 : Apart F (blk ar2) := apart_row ltF ownr2 (by omega)
      have aLr2 : Apart FL (blk ar2) := apart_row ltL ownr2 (by omega)
      refine ⟨mkStepX, ?_⟩
      refine rg_eff (i := 17) rfl (by kernel_rfl) ?_
      simp only [List.getElem_toArray, List.getElem_cons_succ, List.getElem_cons_zero]
      obtain ⟨r3, hr3⟩ : ∃ r3, r2 ++ [⟨11, 0, 0⟩] = r3 := ⟨_, rfl⟩
      have hlr3 : r3.length ≤ r2.length + 1 := by rw [← hr3]; simp
      have hir3 := hid (show ∀ i ∈ r3, In3 i by rw [← hr3]; exact in3_app hir2.out (in3_one (show In3 ⟨11, 0, 0⟩ from ⟨by unfold In64; (try simp only []); omega, by unfold In64; (try simp only []); omega, by unfold In64; (try simp only []); omega⟩)))
      go_wp2_with (at_builtin; go_must (refine app_ins1 rfl (.tmp 75) (.tmp 77) 37 rfl 50 Tryd.inss_tab w1.heap.size ar2 cr2 r2 rfl (own_px p ownr2) _ 1 ⟨11, 0, 0⟩ r3 rfl hr3 (by omega) (FrX.fr (S := [p]) (a := w1)).size ?_); intro ar3 cr3 wr3 ownr3 sxr3 h3r3)
      have abr3 : Abv p (blk ar3) := abv_own ownr3
      have sbr3 : SubX w1 (blk ar3) [p] := sub_own ownr3
      have aFr3 : Apart F (blk ar3) := apart_row ltF ownr3 (by omega)
      have aLr3 : Apart FL (blk ar3) := apart_row ltL ownr3 (by omega)
      refine ⟨mkStepX, ?_⟩
      refine rg_read (i := 18) (a1 := _) rfl (by kernel_rfl) rfl (by first | (simp; done) | (simp [Act.put]; done)) (by intro wq hwq; go_wp2; exact ⟨rfl, rfl⟩) mkStepX ?_
      refine rg_done (by kernel_rfl) ?_
      go_wp2
      as_aux_lemma =>
        go_roundw
        case rel => exact ⟨i, r, ar3, cr3, r3, by omega, by go_num, by go_num, by omega, rfl, hid (by have := hjl2.out; omega), hir3, own_px p ownr3, inferInstance, mkStepX⟩
        case measure => simp [intOf]
end Go.Proofs.YtpaekgeopmifeaaDoor
