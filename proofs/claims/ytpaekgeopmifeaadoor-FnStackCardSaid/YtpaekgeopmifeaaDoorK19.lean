/- The draw of a right module. -/
import Derived.Test.YtpaekgeopmifeaaDoorK18
namespace Go.Proofs.YtpaekgeopmifeaaDoor
attribute [local go_sem ↓] Go.wp_at_zero Go.wp_at_succ
open Go.RowKit
open Rep (Is sz)

/-- What is known of the draw of a right body. -/
def GoodC : Prop := ∀ (p : Nat) (F : List Nat) (M : MH) (m : ModuleD) (loc want : Int) (w : World), 0 ≤ want ∧ want ≤ 1 → In64 loc → SigIn m → (∀ i : InsD, 0 ≤ (takesC m i).1 ∧ (takesC m i).1 ≤ 3 ∧ 0 ≤ (takesC m i).2 ∧ (takesC m i).2 ≤ 1) → Cur w p → Shows w F m M.cells → Apart F [p] →
  Calls Tryd.prog 35 #[.pointer (some ⟨p, 0, none⟩), .agg M.cells.toArray, .int .i64 loc, .int .i64 want, .int .i64 0, .slice none 0 0] w (DrBody p w 69745)

theorem calls_boxes {P : Program} {f : FuncId} {args : Array Value} {Q : Ending → World → Prop} {w : World} (g1 g2 g3 g4 g5 : Nat) (C1 C2 C3 C4 C5 : Array Value) (h1 : Box w g1 C1) (h2 : Box w g2 C2) (h3 : Box w g3 C3) (h4 : Box w g4 C4) (h5 : Box w g5 C5)
    (k : ∀ A, Step w A → BoxL A g1 C1 → BoxL A g2 C2 → BoxL A g3 C3 → BoxL A g4 C4 → BoxL A g5 C5 → Calls P f args A Q) : Calls P f args w Q := k w ⟨Fr.refl _ _⟩ ⟨h1⟩ ⟨h2⟩ ⟨h3⟩ ⟨h4⟩ ⟨h5⟩
theorem funcs_tab : Tryd.prog.underlying 25 = some (.slice 39) ∧ (Tryd.prog.info? 39).map (fun i => (i.zero, i.size, i.bytes)) = some (some (.agg #[.int .i64 0, .int .i64 0, .slice none 0 0]), 3, 40) ∧ (.agg #[.int .i64 0, .int .i64 0, .slice none 0 0] : Value).cells.size = 3 ∧ 0 < 3 ∧ 0 < 40 :=
  ⟨by kernel_rfl, by kernel_rfl, rfl, by decide, by decide⟩
/-- A function that has no body yet. -/
def FB.bare (x : FB) : Prop := x.a = none ∧ x.cap = 0 ∧ x.body = [] ∧ (0 ≤ x.sig ∧ x.sig ≤ 2) ∧ (0 ≤ x.loc ∧ x.loc ≤ 2)

theorem wp_boxA {P : Program} {c : Code} {Q : Exit → Act → World → Prop} {a : Act} {w : World} (g : Nat) (C : Array Value) (hb : Box w g C) (k : ∀ A, Step w A → BoxL A g C → c.wp P Q a A) : c.wp P Q a w := k w ⟨Fr.refl _ _⟩ ⟨hb⟩
theorem wp_boxes2 {P : Program} {c : Code} {Q : Exit → Act → World → Prop} {a : Act} {w : World} (g h : Nat) (C D : Array Value) (hb : Box w g C) (hd : Box w h D) (k : ∀ A, Step w A → BoxL A g C → BoxL A h D → c.wp P Q a A) : c.wp P Q a w := k w ⟨Fr.refl _ _⟩ ⟨hb⟩ ⟨hd⟩
theorem bare_inv {w : World} {B : Nat} {af : Option Addr} {fs : List FB} (h : ∀ x ∈ fs, x.bare) : FbInv w B af fs := by
  refine ⟨fun x hx => ?_, fun x hx => ?_, fun i j hi hj _ => ?_⟩
  · obtain ⟨h1, h2, h3, h4, h5⟩ := h x hx
    refine ⟨?_, by rw [h3]; simp, by rw [h3]; simp, h4, h5⟩
    rw [h1, h2, h3]
    exact ⟨rfl, .inl ⟨rfl, rfl, rfl⟩⟩
  · rw [(h x hx).1]; intro b hb; simp [blk] at hb
  · rw [(h _ (List.getElem_mem hi)).1]; intro b hb; simp [blk] at hb

set_option maxRecDepth 20000 in
set_option maxHeartbeats 8000000 in
theorem smodule (hG : GoodC) {p : Nat} (w : World) [c : Cur w p] : Calls Tryd.prog 18 #[.pointer (some ⟨p, 0, none⟩)] w fun e w' => ∃ (B gs gi gg ge gd gh : Nat) (af : Option Addr) (cf : Nat) (fs : List FB), e = .returned (.agg #[.slice (some ⟨gs, 0, none⟩) 3 3, .slice (some ⟨gi, 0, none⟩) 2 2, .slice af fs.length cf, .int .i64 1, .int .i64 (-1), .slice (some ⟨gg, 0, none⟩) 2 2, .slice (some ⟨ge, 0, none⟩) 2 2, .slice (some ⟨gd, 0, none⟩) 1 1]) ∧ w.heap.size < B ∧ (w.heap.size ≤ gs ∧ w.heap.size ≤ gi ∧ w.heap.size ≤ gg) ∧ Hid (DrM w' B p gs gi gg ge gd gh af cf fs) ∧ Cur w' p ∧ StepX [p] w w' := by
  have pw : Arg p w := ⟨c.lt⟩
  have pl := pw.lt
  go_enter Tryd.func18, Tryd.ntmps18
  go_wp2_with fail
  refine calls_boxes w.heap.size (w.heap.size + 1) (w.heap.size + 1 + 1) (w.heap.size + 1 + 1 + 1) (w.heap.size + 1 + 1 + 1 + 1) _ _ _ _ _ (by with_reducible repeat (first | assumption | (apply Box.newAt; simp; done) | apply Box.alloc | apply Box.drew | apply Box.set | (apply Box.other; focus omega))) (by with_reducible repeat (first | assumption | (apply Box.newAt; simp; done) | apply Box.alloc | apply Box.drew | apply Box.set | (apply Box.other; focus omega))) (by with_reducible repeat (first | assumption | (apply Box.newAt; simp; done) | apply Box.alloc | apply Box.drew | apply Box.set | (apply Box.other; focus omega))) (by with_reducible repeat (first | assumption | (apply Box.newAt; simp; done) | apply Box.alloc | apply Box.drew | apply Box.set | (apply Box.other; focus omega))) (by with_reducible repeat (first | assumption | (apply Box.newAt; simp; done) | apply Box.alloc | apply Box.drew | apply Box.set | (apply Box.other; focus omega))) ?_
  intro A sA b0 b1 b2 b3 b4
  have cA : Cur A p := inferInstance
  have o1 := b1.old
  have hb1 := hid b1.is
  clear b1
  have pA : Arg p A := ⟨cA.lt⟩
  have n0 : NewB w w.heap.size := ⟨Nat.le_refl _⟩
  with_reducible refine Calls.mono (sbelowC _ _ (by omega)) ?_
  rintro e w1 ⟨x, hx, rfl, cu1, st1⟩
  have ne2 : NeB (w.heap.size + 1 + 1) p := inferInstance
  have n2p : NotIn (w.heap.size + 1 + 1) [p] := ⟨by simp; omega⟩
  have bm1 : BoxL w1 (w.heap.size + 1 + 1) #[.slice (some ⟨w.heap.size + 1, 0, none⟩) 3 3, .slice (some ⟨w.heap.size + 1 + 1 + 1, 0, none⟩) 2 2, .slice none 0 0, .int .i64 1, .int .i64 (-1), .slice (some ⟨w.heap.size + 1 + 1 + 1 + 1, 0, none⟩) 2 2, .slice none 0 0, .slice none 0 0] := boxOf
  have s2 : SubX w [p, w.heap.size + 1 + 1] [p] := ⟨fun b hb => by simp only [List.mem_cons, List.not_mem_nil, or_false] at hb; rcases hb with rfl | rfl; exact .inl (by simp); exact .inr (by omega)⟩
  go_wp2_with fail
  go_loopw [4] (fun n wr => ∃ (j : Nat) (fs : List FB) (af : Option Addr) (cf : Nat), n = .int .i64 j ∧ j + fs.length ≤ 3 ∧ 1 ≤ j + fs.length ∧ BoxL wr (w.heap.size + 1 + 1) #[.slice (some ⟨w.heap.size + 1, 0, none⟩) 3 3, .slice (some ⟨w.heap.size + 1 + 1 + 1, 0, none⟩) 2 2, (.slice af fs.length cf), .int .i64 1, .int .i64 (-1), .slice (some ⟨w.heap.size + 1 + 1 + 1 + 1, 0, none⟩) 2 2, .slice none 0 0, .slice none 0 0] ∧ wr.ownsRow A.heap.size 39 3 (.slice af fs.length cf) fs.length (fs.flatMap fbVs) ∧ Hid (∀ x ∈ fs, x.bare) ∧ Cur wr p ∧ StepX [p, w.heap.size + 1 + 1] A wr) (fun n _ => (intOf n).toNat)
  case atStart => exact ⟨1 + x, [], none, 0, by go_num, by simp; omega, by omega, bm1, World.ownsRow_nil _ _ _ _, hid (by simp), cu1, mkStepX⟩
  case round =>
    obtain ⟨j, fs, af, cf, rfl, hj3, hj1, bm, own, hbare, cu, st⟩ := hrel
    have om := bm.old
    by_cases hj : 0 < j
    · obtain ⟨i, rfl⟩ : ∃ i, j = i + 1 := ⟨j - 1, by omega⟩
      go_wp2_with fail
      have abf : Abv p (blk af) := ⟨fun b hb => by have := (ownsRow_blk own b hb).1; have := pA.lt; omega⟩
      have zA := sA.fr.size
      simp only [World.size_alloc] at zA
      have nn2 : NotIn (w.heap.size + 1 + 1) (blk af) := ⟨fun hb => by have := (ownsRow_blk own _ hb).1; omega⟩
      have own2 : ∀ W, FrX [p] wr W → W.ownsRow A.heap.size 39 3 (.slice af fs.length cf) fs.length (fs.flatMap fbVs) := fun W f => ownsRow_fr own f.fr (fun b hb hm => by rw [List.mem_singleton] at hm; have := (ownsRow_blk own b hb).1; have := pA.lt; omega)
      replace own2 := hid own2
      have sbf : SubX A (blk af) [p, w.heap.size + 1 + 1] := sub_own own
      have s3 : SubX A [p] [p, w.heap.size + 1 + 1] := ⟨fun b hb => .inl (by rw [List.mem_singleton.1 hb]; simp)⟩
      refine rg_begin (n := 11) AnyW (by kernel_rfl) rfl ?_
      refine rg_read (i := 0) (a1 := _) rfl (by kernel_rfl) rfl (by first | (simp; done) | (simp [Act.put]; done)) (by intro wq hwq; go_wp2; exact ⟨rfl, rfl⟩) trivial ?_
      refine rg_read (i := 2) (a1 := _) rfl (by kernel_rfl) rfl (by first | (simp; done) | (simp [Act.put]; done)) (by intro wq hwq; go_wp2; exact ⟨rfl, rfl⟩) trivial ?_
      refine rg_read (i := 4) (a1 := _) rfl (by kernel_rfl) rfl (by first | (simp; done) | (simp [Act.put]; done)) (by intro wq hwq; go_wp2; exact ⟨rfl, rfl⟩) trivial ?_
      refine rg_two (i := 1) (j := 3) rfl rfl (by kernel_rfl) ?_ ?_
      · simp only [List.getElem_toArray, List.getElem_cons_succ, List.getElem_cons_zero]
        go_wp2_with fail
        refine ⟨trivial, ?_⟩
        refine rg_eff (i := 3) rfl (by kernel_rfl) ?_
        simp only [List.getElem_toArray, List.getElem_cons_succ, List.getElem_cons_zero]
        go_wp2_with fail
        with_reducible refine Calls.mono (sbelowC _ _ (by omega)) ?_
        rintro e w3 ⟨y1, hy1, rfl, cu3, st3⟩
        go_wp2_with fail
        refine ⟨trivial, ?_⟩
        refine rg_eff (i := 5) rfl (by kernel_rfl) ?_
        simp only [List.getElem_toArray, List.getElem_cons_succ, List.getElem_cons_zero]
        go_wp2_with fail
        with_reducible refine Calls.mono (sbelowC _ _ (by omega)) ?_
        rintro e w5 ⟨y2, hy2, rfl, cu5, st5⟩
        go_wp2_with fail
        refine ⟨trivial, ?_⟩
        refine rg_read (i := 6) (a1 := _) rfl (by kernel_rfl) rfl (by first | (simp; done) | (simp [Act.put]; done)) (by intro wq hwq; go_wp2; exact ⟨rfl, rfl⟩) trivial ?_
        refine rg_eff (i := 7) rfl (by kernel_rfl) ?_
        simp only [List.getElem_toArray, List.getElem_cons_succ, List.getElem_cons_zero]
        go_wp2_with fail
        refine ⟨trivial, ?_⟩
        refine rg_eff (i := 8) rfl (by kernel_rfl) ?_
        simp only [List.getElem_toArray, List.getElem_cons_succ, List.getElem_cons_zero]
        have hy1c : 0 ≤ (y1 : Int) ∧ (y1 : Int) ≤ 2 := by omega
        have hy2c : 0 ≤ (y2 : Int) ∧ (y2 : Int) ≤ 2 := by omega
        go_wp2_with (at_builtin; go_must (refine app_rowsY fbVs 3 fbVs_len fbVs_one rfl (.tmp 29) (.tmp 35) 25 rfl 39 (.agg #[.int .i64 0, .int .i64 0, .slice none 0 0]) 40 funcs_tab A af cf fs ⟨(y1 : Int), (y2 : Int), none, 0, []⟩ rfl (own2.out _ inferInstance) _ 1 rfl (fun j u hj => ⟨((Box.new _ _ _).cell_eq j).trans (by simpa [fbVs] using hj), (Box.new _ _ _).live j⟩) (by omega) ?_); intro af1 cf1 w8 own8 sx8 hb8)
        refine ⟨trivial, ?_⟩
        refine rg_read (i := 9) (a1 := _) rfl (by kernel_rfl) rfl (by first | (simp; done) | (simp [Act.put]; done)) (by intro wq hwq; go_wp2; exact ⟨rfl, rfl⟩) trivial ?_
        refine rg_eff (i := 10) rfl (by kernel_rfl) ?_
        simp only [List.getElem_toArray, List.getElem_cons_succ, List.getElem_cons_zero]
        go_wp2_with fail
        refine ⟨trivial, ?_⟩
        refine rg_done (by kernel_rfl) ?_
        go_wp2
        have e1 : (fs ++ [(⟨(y1 : Int), (y2 : Int), none, 0, []⟩ : FB)]).length = fs.length + 1 := by simp
        have nn8 : BoxL w8 (w.heap.size + 1 + 1) #[.slice (some ⟨w.heap.size + 1, 0, none⟩) 3 3, .slice (some ⟨w.heap.size + 1 + 1 + 1, 0, none⟩) 2 2, (.slice af fs.length cf), .int .i64 1, .int .i64 (-1), .slice (some ⟨w.heap.size + 1 + 1 + 1 + 1, 0, none⟩) 2 2, .slice none 0 0, .slice none 0 0] := boxOf
        have bx : BoxL (w8.setCell ⟨w.heap.size + 1 + 1, 2, none⟩ (.slice af1 (fs.length + 1) cf1)) (w.heap.size + 1 + 1) #[.slice (some ⟨w.heap.size + 1, 0, none⟩) 3 3, .slice (some ⟨w.heap.size + 1 + 1 + 1, 0, none⟩) 2 2, (.slice af1 (fs.length + 1) cf1), .int .i64 1, .int .i64 (-1), .slice (some ⟨w.heap.size + 1 + 1 + 1 + 1, 0, none⟩) 2 2, .slice none 0 0, .slice none 0 0] := boxSet rfl
        have own9 : (w8.setCell ⟨w.heap.size + 1 + 1, 2, none⟩ (.slice af1 (fs.length + 1) cf1)).ownsRow A.heap.size 39 3 (.slice af1 (fs.length + 1) cf1) (fs.length + 1) ((fs ++ [(⟨(y1 : Int), (y2 : Int), none, 0, []⟩ : FB)]).flatMap fbVs) := ownsRow_fr own8 ((Fr.refl [w.heap.size + 1 + 1] _).setCell (.inl (List.mem_singleton_self _)) _) (fun b hb hm => by rw [List.mem_singleton] at hm; have := (ownsRow_blk own8 b hb).1; omega)
        have hb9 : Hid (∀ x ∈ fs ++ [(⟨(y1 : Int), (y2 : Int), none, 0, []⟩ : FB)], x.bare) := hid (fun x hx => by
          rcases List.mem_append.1 hx with h | h
          · exact hbare.out x h
          · rw [List.mem_singleton.1 h]; exact ⟨rfl, rfl, rfl, hy1c, hy2c⟩)
        go_roundw
        case rel => exact ⟨i, fs ++ [(⟨(y1 : Int), (y2 : Int), none, 0, []⟩ : FB)], af1, cf1, by go_num, by rw [e1]; omega, by rw [e1]; omega, by rw [e1]; exact boxOf, by rw [e1]; exact ownsRow_fr own9 (FrX.fr (S := [])) (by simp), hb9, inferInstance, mkStepX⟩
        case measure => simp [intOf]
      · simp only [List.getElem_toArray, List.getElem_cons_succ, List.getElem_cons_zero]
        go_wp2_with fail
        with_reducible refine Calls.mono (sbelowC _ _ (by omega)) ?_
        rintro e w3 ⟨y1, hy1, rfl, cu3, st3⟩
        go_wp2_with fail
        refine ⟨trivial, ?_⟩
        refine rg_two (i := 1) (j := 5) rfl rfl (by kernel_rfl) ?_ ?_
        · simp only [List.getElem_toArray, List.getElem_cons_succ, List.getElem_cons_zero]
          go_wp2_with fail
          refine ⟨trivial, ?_⟩
          refine rg_eff (i := 5) rfl (by kernel_rfl) ?_
          simp only [List.getElem_toArray, List.getElem_cons_succ, List.getElem_cons_zero]
          go_wp2_with fail
          with_reducible refine Calls.mono (sbelowC _ _ (by omega)) ?_
          rintro e w5 ⟨y2, hy2, rfl, cu5, st5⟩
          go_wp2_with fail
          refine ⟨trivial, ?_⟩
          refine rg_read (i := 6) (a1 := _) rfl (by kernel_rfl) rfl (by first | (simp; done) | (simp [Act.put]; done)) (by intro wq hwq; go_wp2; exact ⟨rfl, rfl⟩) trivial ?_
          refine rg_eff (i := 7) rfl (by kernel_rfl) ?_
          simp only [List.getElem_toArray, List.getElem_cons_succ, List.getElem_cons_zero]
          go_wp2_with fail
          refine ⟨trivial, ?_⟩
          refine rg_eff (i := 8) rfl (by kernel_rfl) ?_
          simp only [List.getElem_toArray, List.getElem_cons_succ, List.getElem_cons_zero]
          have hy1c : 0 ≤ (y1 : Int) ∧ (y1 : Int) ≤ 2 := by omega
          have hy2c : 0 ≤ (y2 : Int) ∧ (y2 : Int) ≤ 2 := by omega
          go_wp2_with (at_builtin; go_must (refine app_rowsY fbVs 3 fbVs_len fbVs_one rfl (.tmp 29) (.tmp 35) 25 rfl 39 (.agg #[.int .i64 0, .int .i64 0, .slice none 0 0]) 40 funcs_tab A af cf fs ⟨(y1 : Int), (y2 : Int), none, 0, []⟩ rfl (own2.out _ inferInstance) _ 1 rfl (fun j u hj => ⟨((Box.new _ _ _).cell_eq j).trans (by simpa [fbVs] using hj), (Box.new _ _ _).live j⟩) (by omega) ?_); intro af1 cf1 w8 own8 sx8 hb8)
          refine ⟨trivial, ?_⟩
          refine rg_read (i := 9) (a1 := _) rfl (by kernel_rfl) rfl (by first | (simp; done) | (simp [Act.put]; done)) (by intro wq hwq; go_wp2; exact ⟨rfl, rfl⟩) trivial ?_
          refine rg_eff (i := 10) rfl (by kernel_rfl) ?_
          simp only [List.getElem_toArray, List.getElem_cons_succ, List.getElem_cons_zero]
          go_wp2_with fail
          refine ⟨trivial, ?_⟩
          refine rg_done (by kernel_rfl) ?_
          go_wp2
          have e1 : (fs ++ [(⟨(y1 : Int), (y2 : Int), none, 0, []⟩ : FB)]).length = fs.length + 1 := by simp
          have nn8 : BoxL w8 (w.heap.size + 1 + 1) #[.slice (some ⟨w.heap.size + 1, 0, none⟩) 3 3, .slice (some ⟨w.heap.size + 1 + 1 + 1, 0, none⟩) 2 2, (.slice af fs.length cf), .int .i64 1, .int .i64 (-1), .slice (some ⟨w.heap.size + 1 + 1 + 1 + 1, 0, none⟩) 2 2, .slice none 0 0, .slice none 0 0] := boxOf
          have bx : BoxL (w8.setCell ⟨w.heap.size + 1 + 1, 2, none⟩ (.slice af1 (fs.length + 1) cf1)) (w.heap.size + 1 + 1) #[.slice (some ⟨w.heap.size + 1, 0, none⟩) 3 3, .slice (some ⟨w.heap.size + 1 + 1 + 1, 0, none⟩) 2 2, (.slice af1 (fs.length + 1) cf1), .int .i64 1, .int .i64 (-1), .slice (some ⟨w.heap.size + 1 + 1 + 1 + 1, 0, none⟩) 2 2, .slice none 0 0, .slice none 0 0] := boxSet rfl
          have own9 : (w8.setCell ⟨w.heap.size + 1 + 1, 2, none⟩ (.slice af1 (fs.length + 1) cf1)).ownsRow A.heap.size 39 3 (.slice af1 (fs.length + 1) cf1) (fs.length + 1) ((fs ++ [(⟨(y1 : Int), (y2 : Int), none, 0, []⟩ : FB)]).flatMap fbVs) := ownsRow_fr own8 ((Fr.refl [w.heap.size + 1 + 1] _).setCell (.inl (List.mem_singleton_self _)) _) (fun b hb hm => by rw [List.mem_singleton] at hm; have := (ownsRow_blk own8 b hb).1; omega)
          have hb9 : Hid (∀ x ∈ fs ++ [(⟨(y1 : Int), (y2 : Int), none, 0, []⟩ : FB)], x.bare) := hid (fun x hx => by
            rcases List.mem_append.1 hx with h | h
            · exact hbare.out x h
            · rw [List.mem_singleton.1 h]; exact ⟨rfl, rfl, rfl, hy1c, hy2c⟩)
          go_roundw
          case rel => exact ⟨i, fs ++ [(⟨(y1 : Int), (y2 : Int), none, 0, []⟩ : FB)], af1, cf1, by go_num, by rw [e1]; omega, by rw [e1]; omega, by rw [e1]; exact boxOf, by rw [e1]; exact ownsRow_fr own9 (FrX.fr (S := [])) (by simp), hb9, inferInstance, mkStepX⟩
          case measure => simp [intOf]
        · simp only [List.getElem_toArray, List.getElem_cons_succ, List.getElem_cons_zero]
          go_wp2_with fail
          with_reducible refine Calls.mono (sbelowC _ _ (by omega)) ?_
          rintro e w5 ⟨y2, hy2, rfl, cu5, st5⟩
          go_wp2_with fail
          refine ⟨trivial, ?_⟩
          refine rg_read (i := 6) (a1 := _) rfl (by kernel_rfl) rfl (by first | (simp; done) | (simp [Act.put]; done)) (by intro wq hwq; go_wp2; exact ⟨rfl, rfl⟩) trivial ?_
          refine rg_two (i := 1) (j := 7) rfl rfl (by kernel_rfl) ?_ ?_
          · simp only [List.getElem_toArray, List.getElem_cons_succ, List.getElem_cons_zero]
            go_wp2_with fail
            refine ⟨trivial, ?_⟩
            refine rg_eff (i := 7) rfl (by kernel_rfl) ?_
            simp only [List.getElem_toArray, List.getElem_cons_succ, List.getElem_cons_zero]
            go_wp2_with fail
            refine ⟨trivial, ?_⟩
            refine rg_eff (i := 8) rfl (by kernel_rfl) ?_
            simp only [List.getElem_toArray, List.getElem_cons_succ, List.getElem_cons_zero]
            have hy1c : 0 ≤ (y1 : Int) ∧ (y1 : Int) ≤ 2 := by omega
            have hy2c : 0 ≤ (y2 : Int) ∧ (y2 : Int) ≤ 2 := by omega
            go_wp2_with (at_builtin; go_must (refine app_rowsY fbVs 3 fbVs_len fbVs_one rfl (.tmp 29) (.tmp 35) 25 rfl 39 (.agg #[.int .i64 0, .int .i64 0, .slice none 0 0]) 40 funcs_tab A af cf fs ⟨(y1 : Int), (y2 : Int), none, 0, []⟩ rfl (own2.out _ inferInstance) _ 1 rfl (fun j u hj => ⟨((Box.new _ _ _).cell_eq j).trans (by simpa [fbVs] using hj), (Box.new _ _ _).live j⟩) (by omega) ?_); intro af1 cf1 w8 own8 sx8 hb8)
            refine ⟨trivial, ?_⟩
            refine rg_read (i := 9) (a1 := _) rfl (by kernel_rfl) rfl (by first | (simp; done) | (simp [Act.put]; done)) (by intro wq hwq; go_wp2; exact ⟨rfl, rfl⟩) trivial ?_
            refine rg_eff (i := 10) rfl (by kernel_rfl) ?_
            simp only [List.getElem_toArray, List.getElem_cons_succ, List.getElem_cons_zero]
            go_wp2_with fail
            refine ⟨trivial, ?_⟩
            refine rg_done (by kernel_rfl) ?_
            go_wp2
            have e1 : (fs ++ [(⟨(y1 : Int), (y2 : Int), none, 0, []⟩ : FB)]).length = fs.length + 1 := by simp
            have nn8 : BoxL w8 (w.heap.size + 1 + 1) #[.slice (some ⟨w.heap.size + 1, 0, none⟩) 3 3, .slice (some ⟨w.heap.size + 1 + 1 + 1, 0, none⟩) 2 2, (.slice af fs.length cf), .int .i64 1, .int .i64 (-1), .slice (some ⟨w.heap.size + 1 + 1 + 1 + 1, 0, none⟩) 2 2, .slice none 0 0, .slice none 0 0] := boxOf
            have bx : BoxL (w8.setCell ⟨w.heap.size + 1 + 1, 2, none⟩ (.slice af1 (fs.length + 1) cf1)) (w.heap.size + 1 + 1) #[.slice (some ⟨w.heap.size + 1, 0, none⟩) 3 3, .slice (some ⟨w.heap.size + 1 + 1 + 1, 0, none⟩) 2 2, (.slice af1 (fs.length + 1) cf1), .int .i64 1, .int .i64 (-1), .slice (some ⟨w.heap.size + 1 + 1 + 1 + 1, 0, none⟩) 2 2, .slice none 0 0, .slice none 0 0] := boxSet rfl
            have own9 : (w8.setCell ⟨w.heap.size + 1 + 1, 2, none⟩ (.slice af1 (fs.length + 1) cf1)).ownsRow A.heap.size 39 3 (.slice af1 (fs.length + 1) cf1) (fs.length + 1) ((fs ++ [(⟨(y1 : Int), (y2 : Int), none, 0, []⟩ : FB)]).flatMap fbVs) := ownsRow_fr own8 ((Fr.refl [w.heap.size + 1 + 1] _).setCell (.inl (List.mem_singleton_self _)) _) (fun b hb hm => by rw [List.mem_singleton] at hm; have := (ownsRow_blk own8 b hb).1; omega)
            have hb9 : Hid (∀ x ∈ fs ++ [(⟨(y1 : Int), (y2 : Int), none, 0, []⟩ : FB)], x.bare) := hid (fun x hx => by
              rcases List.mem_append.1 hx with h | h
              · exact hbare.out x h
              · rw [List.mem_singleton.1 h]; exact ⟨rfl, rfl, rfl, hy1c, hy2c⟩)
            go_roundw
            case rel => exact ⟨i, fs ++ [(⟨(y1 : Int), (y2 : Int), none, 0, []⟩ : FB)], af1, cf1, by go_num, by rw [e1]; omega, by rw [e1]; omega, by rw [e1]; exact boxOf, by rw [e1]; exact ownsRow_fr own9 (FrX.fr (S := [])) (by simp), hb9, inferInstance, mkStepX⟩
            case measure => simp [intOf]
          · simp only [List.getElem_toArray, List.getElem_cons_succ, List.getElem_cons_zero]
            go_wp2_with fail
            refine ⟨trivial, ?_⟩
            refine rg_eff (i := 1) rfl (by kernel_rfl) ?_
            simp only [List.getElem_toArray, List.getElem_cons_succ, List.getElem_cons_zero]
            go_wp2_with fail
            refine ⟨trivial, ?_⟩
            refine rg_eff (i := 8) rfl (by kernel_rfl) ?_
            simp only [List.getElem_toArray, List.getElem_cons_succ, List.getElem_cons_zero]
            have hy1c : 0 ≤ (y1 : Int) ∧ (y1 : Int) ≤ 2 := by omega
            have hy2c : 0 ≤ (y2 : Int) ∧ (y2 : Int) ≤ 2 := by omega
            go_wp2_with (at_builtin; go_must (refine app_rowsY fbVs 3 fbVs_len fbVs_one rfl (.tmp 29) (.tmp 35) 25 rfl 39 (.agg #[.int .i64 0, .int .i64 0, .slice none 0 0]) 40 funcs_tab A af cf fs ⟨(y1 : Int), (y2 : Int), none, 0, []⟩ rfl (own2.out _ inferInstance) _ 1 rfl (fun j u hj => ⟨((Box.new _ _ _).cell_eq j).trans (by simpa [fbVs] using hj), (Box.new _ _ _).live j⟩) (by omega) ?_); intro af1 cf1 w8 own8 sx8 hb8)
            refine ⟨trivial, ?_⟩
            refine rg_read (i := 9) (a1 := _) rfl (by kernel_rfl) rfl (by first | (simp; done) | (simp [Act.put]; done)) (by intro wq hwq; go_wp2; exact ⟨rfl, rfl⟩) trivial ?_
            refine rg_eff (i := 10) rfl (by kernel_rfl) ?_
            simp only [List.getElem_toArray, List.getElem_cons_succ, List.getElem_cons_zero]
            go_wp2_with fail
            refine ⟨trivial, ?_⟩
            refine rg_done (by kernel_rfl) ?_
            go_wp2
            have e1 : (fs ++ [(⟨(y1 : Int), (y2 : Int), none, 0, []⟩ : FB)]).length = fs.length + 1 := by simp
            have nn8 : BoxL w8 (w.heap.size + 1 + 1) #[.slice (some ⟨w.heap.size + 1, 0, none⟩) 3 3, .slice (some ⟨w.heap.size + 1 + 1 + 1, 0, none⟩) 2 2, (.slice af fs.length cf), .int .i64 1, .int .i64 (-1), .slice (some ⟨w.heap.size + 1 + 1 + 1 + 1, 0, none⟩) 2 2, .slice none 0 0, .slice none 0 0] := boxOf
            have bx : BoxL (w8.setCell ⟨w.heap.size + 1 + 1, 2, none⟩ (.slice af1 (fs.length + 1) cf1)) (w.heap.size + 1 + 1) #[.slice (some ⟨w.heap.size + 1, 0, none⟩) 3 3, .slice (some ⟨w.heap.size + 1 + 1 + 1, 0, none⟩) 2 2, (.slice af1 (fs.length + 1) cf1), .int .i64 1, .int .i64 (-1), .slice (some ⟨w.heap.size + 1 + 1 + 1 + 1, 0, none⟩) 2 2, .slice none 0 0, .slice none 0 0] := boxSet rfl
            have own9 : (w8.setCell ⟨w.heap.size + 1 + 1, 2, none⟩ (.slice af1 (fs.length + 1) cf1)).ownsRow A.heap.size 39 3 (.slice af1 (fs.length + 1) cf1) (fs.length + 1) ((fs ++ [(⟨(y1 : Int), (y2 : Int), none, 0, []⟩ : FB)]).flatMap fbVs) := ownsRow_fr own8 ((Fr.refl [w.heap.size + 1 + 1] _).setCell (.inl (List.mem_singleton_self _)) _) (fun b hb hm => by rw [List.mem_singleton] at hm; have := (ownsRow_blk own8 b hb).1; omega)
            have hb9 : Hid (∀ x ∈ fs ++ [(⟨(y1 : Int), (y2 : Int), none, 0, []⟩ : FB)], x.bare) := hid (fun x hx => by
              rcases List.mem_append.1 hx with h | h
              · exact hbare.out x h
              · rw [List.mem_singleton.1 h]; exact ⟨rfl, rfl, rfl, hy1c, hy2c⟩)
            go_roundw
            case rel => exact ⟨i, fs ++ [(⟨(y1 : Int), (y2 : Int), none, 0, []⟩ : FB)], af1, cf1, by go_num, by rw [e1]; omega, by rw [e1]; omega, by rw [e1]; exact boxOf, by rw [e1]; exact ownsRow_fr own9 (FrX.fr (S := [])) (by simp), hb9, inferInstance, mkStepX⟩
            case measure => simp [intOf]
    · have hj0 : j ≤ 0 := by omega
      have hn1 : 1 ≤ fs.length := by omega
      have hn3 : fs.length ≤ 3 := by omega
      go_wp2_with fail
      refine wp_boxA (w.heap.size + 1 + 1) _ bm.is ?_
      intro D sD bD
      have oD := bD.old
      have zA := sA.fr.size
      simp only [World.size_alloc] at zA
      have ownD : D.ownsRow A.heap.size 39 3 (.slice af fs.length cf) fs.length (fs.flatMap fbVs) := ownsRow_fr own sD.fr (by simp)
      have hinv : Hid (FbInv D A.heap.size af fs) := hid (bare_inv hbare.out)
      have cuD : Cur D p := inferInstance
      have pD : Arg p D := ⟨cuD.lt⟩
      go_loopw [41] (fun n wr => ∃ (k : Nat) (gs : List FB), k ≤ fs.length ∧ gs.length = fs.length ∧ n = .int .i64 k ∧ BoxL wr (w.heap.size + 1 + 1) #[.slice (some ⟨w.heap.size + 1, 0, none⟩) 3 3, .slice (some ⟨w.heap.size + 1 + 1 + 1, 0, none⟩) 2 2, (.slice af fs.length cf), .int .i64 1, .int .i64 (-1), .slice (some ⟨w.heap.size + 1 + 1 + 1 + 1, 0, none⟩) 2 2, .slice none 0 0, .slice none 0 0] ∧ wr.ownsRow A.heap.size 39 3 (.slice af fs.length cf) fs.length (gs.flatMap fbVs) ∧ Hid (FbInv wr A.heap.size af gs) ∧ Cur wr p ∧ StepX (p :: blk af) D wr) (fun n _ => fs.length - (intOf n).toNat)
      case atStart => exact ⟨0, fs, by omega, rfl, rfl, bD, ownD, hinv, cuD, mkStepX⟩
      case round =>
        obtain ⟨k, gs, hk, hgl, rfl, bm2, own2, inv2, cu2, stx⟩ := hrel
        have om2 := bm2.old
        by_cases hlt : k < fs.length
        · obtain ⟨g, hg, hgB, hgw, d0, d1, d2, f0, f1, f2⟩ := fb_cells own2 hgl k (by omega)
          subst hg
          have og : Old g wr := ⟨hgw⟩
          have hmk : gs[k] ∈ gs := List.getElem_mem _
          have hB := inv2.out.all _ hmk
          have hsg := hB.sg
          have hlo := hB.lo
          have hiB := hid hB
          clear hB
          obtain ⟨s, hs⟩ : ∃ s : Nat, gs[k].sig = (s : Int) := ⟨gs[k].sig.toNat, by omega⟩
          obtain ⟨lo, hlo2⟩ : ∃ lo : Int, gs[k].loc = lo := ⟨_, rfl⟩
          rw [hs] at d0 hsg
          rw [hlo2] at d1 hlo
          obtain ⟨pr, rs, hp, hr, q0, q1, z0, z1⟩ := sig_cells hb1.out (s := s) (by omega)
          have npg : NotIn (w.heap.size + 1) (p :: blk (some ⟨g, 0, none⟩)) := ⟨by simp [blk]; omega⟩
          have npb : NotIn (w.heap.size + 1) [p, w.heap.size + 1 + 1] := ⟨by simp; omega⟩
          replace hs := hid hs
          replace hlo2 := hid hlo2
          go_wp2_with fail
          refine wp_boxes2 wr.heap.size (wr.heap.size + 1) _ _ ((Box.new _ _ _).alloc _) (Box.newAt (by simp)) ?_
          intro E sE b6 b7
          have zE := sE.fr.size
          simp only [World.size_alloc] at zE
          have o6 := b6.old
          have o7 := b7.old
          have ogE : Old g E := inferInstance
          have ngp : NotIn g [p] := ⟨by simp; omega⟩
          have n2s : NotIn (w.heap.size + 1 + 1) [p, g] := ⟨by simp; omega⟩
          have n6s : NotIn wr.heap.size [p, g] := ⟨by simp; omega⟩
          have n7s : NotIn (wr.heap.size + 1) [p, g] := ⟨by simp; omega⟩
          have bmE : BoxL E (w.heap.size + 1 + 1) #[.slice (some ⟨w.heap.size + 1, 0, none⟩) 3 3, .slice (some ⟨w.heap.size + 1 + 1 + 1, 0, none⟩) 2 2, (.slice (some ⟨g, 0, none⟩) fs.length cf), .int .i64 1, .int .i64 (-1), .slice (some ⟨w.heap.size + 1 + 1 + 1 + 1, 0, none⟩) 2 2, .slice none 0 0, .slice none 0 0] := boxOf
          have ownE : E.ownsRow A.heap.size 39 3 (.slice (some ⟨g, 0, none⟩) fs.length cf) fs.length (gs.flatMap fbVs) := ownsRow_fr own2 (mkFr (a := wr) (b := E)) (by simp)
          have invE : FbInv E A.heap.size (some ⟨g, 0, none⟩) gs := inv2.out.fr (mkFr (a := wr) (b := E)) (by simp)
          have invB := hid invE.lt
          have kE : Is E ([w.heap.size + 1] ++ [w.heap.size + 1 + 1 + 1] ++ ((if gs.map FB.d = [] then [] else blk (some ⟨g, 0, none⟩)) ++ gs.flatMap fbF) ++ [w.heap.size + 1 + 1 + 1 + 1] ++ [] ++ []) (modM gs true 1 [] []) [.slice (some ⟨w.heap.size + 1, 0, none⟩) 3 3, .slice (some ⟨w.heap.size + 1 + 1 + 1, 0, none⟩) 2 2, (.slice (some ⟨g, 0, none⟩) fs.length cf), .int .i64 1, .int .i64 (-1), .slice (some ⟨w.heap.size + 1 + 1 + 1 + 1, 0, none⟩) 2 2, .slice none 0 0, .slice none 0 0] := by
            refine module_shut (r := modM gs true 1 [] []) (sigs_is ?_) (imps_is ?_) (fb_known (ownsRow_view ownE) hgl (ownsRow_cap ownE) invE.all) (globs_is ?_) (nil_is E (by decide)) (nil_is E (by decide)) (by unfold modM In64; simp) (by unfold modM In64; simp)
            · exact ((((hb1.out).fr st.fr (by simp; omega)).fr sD.fr (by simp)).fr stx.fr (by simp [blk]; omega)).fr (mkFr (a := wr) (b := E)) (by simp)
            · exact ((((b3.is).fr st.fr (by simp; omega)).fr sD.fr (by simp)).fr stx.fr (by simp [blk]; omega)).fr (mkFr (a := wr) (b := E)) (by simp)
            · exact ((((b4.is).fr st.fr (by simp; omega)).fr sD.fr (by simp)).fr stx.fr (by simp [blk]; omega)).fr (mkFr (a := wr) (b := E)) (by simp)
          have hFM : ∀ b ∈ ([w.heap.size + 1] ++ [w.heap.size + 1 + 1 + 1] ++ ((if gs.map FB.d = [] then [] else blk (some ⟨g, 0, none⟩)) ++ gs.flatMap fbF) ++ [w.heap.size + 1 + 1 + 1 + 1] ++ [] ++ [] : List Nat), b ∉ [p] := by
            intro b hb hm
            rw [List.mem_singleton] at hm
            subst hm
            simp only [List.mem_append, List.mem_singleton, List.not_mem_nil, or_false] at hb
            rcases hb with ((hb | hb) | hb | hb) | hb
            · omega
            · omega
            · split at hb
              · cases hb
              · simp [blk] at hb; omega
            · obtain ⟨x, hx, hb⟩ := List.mem_flatMap.1 hb
              have := (invB.out x hx b (fbF_sub x b hb)).1
              omega
            · omega
          obtain ⟨FM, hFMe⟩ : ∃ FM, FM = ([w.heap.size + 1] ++ [w.heap.size + 1 + 1 + 1] ++ ((if gs.map FB.d = [] then [] else blk (some ⟨g, 0, none⟩)) ++ gs.flatMap fbF) ++ [w.heap.size + 1 + 1 + 1 + 1] ++ [] ++ [] : List Nat) := ⟨_, rfl⟩
          rw [← hFMe] at kE hFM
          have kM : Known E FM (modM gs true 1 [] []) [.slice (some ⟨w.heap.size + 1, 0, none⟩) 3 3, .slice (some ⟨w.heap.size + 1 + 1 + 1, 0, none⟩) 2 2, (.slice (some ⟨g, 0, none⟩) fs.length cf), .int .i64 1, .int .i64 (-1), .slice (some ⟨w.heap.size + 1 + 1 + 1 + 1, 0, none⟩) 2 2, .slice none 0 0, .slice none 0 0] := ⟨kE⟩
          have aFM : Apart FM [p] := ⟨hFM⟩
          have sgM : SigIn (modM gs true 1 [] []) := sigIn_modM (by omega) (fun x hx => (invE.all x hx).sg)
          have hGk : ∀ W, Cur W p → Shows W FM (modM gs true 1 [] []) [.slice (some ⟨w.heap.size + 1, 0, none⟩) 3 3, .slice (some ⟨w.heap.size + 1 + 1 + 1, 0, none⟩) 2 2, (.slice (some ⟨g, 0, none⟩) fs.length cf), .int .i64 1, .int .i64 (-1), .slice (some ⟨w.heap.size + 1 + 1 + 1 + 1, 0, none⟩) 2 2, .slice none 0 0, .slice none 0 0] → Calls Tryd.prog 35 #[.pointer (some ⟨p, 0, none⟩), .agg #[.slice (some ⟨w.heap.size + 1, 0, none⟩) 3 3, .slice (some ⟨w.heap.size + 1 + 1 + 1, 0, none⟩) 2 2, (.slice (some ⟨g, 0, none⟩) fs.length cf), .int .i64 1, .int .i64 (-1), .slice (some ⟨w.heap.size + 1 + 1 + 1 + 1, 0, none⟩) 2 2, .slice none 0 0, .slice none 0 0], .int .i64 (pr + lo), .int .i64 rs, .int .i64 0, .slice none 0 0] W (DrBody p W 69745) := fun W h1 h2 =>
            hG p FM ⟨.slice (some ⟨w.heap.size + 1, 0, none⟩) 3 3, .slice (some ⟨w.heap.size + 1 + 1 + 1, 0, none⟩) 2 2, .slice (some ⟨g, 0, none⟩) fs.length cf, 1, -1, .slice (some ⟨w.heap.size + 1 + 1 + 1 + 1, 0, none⟩) 2 2, .slice none 0 0, .slice none 0 0⟩ (modM gs true 1 [] []) (pr + lo) rs W hr (by unfold In64; omega) sgM (fun i => takes_modM i) h1 h2 aFM
          replace hGk := hid hGk
          clear kE hFM
          replace invE := hid invE
          refine rg_begin (n := 16) (StepX [p, g] E) (by kernel_rfl) rfl ?_
          have rg0 := (show (StepX [p, g] E) (World.drew _) from (show StepX [p, g] E E.drew from mkStepX))
          refine rg_read (i := 0) (a1 := _) rfl (by kernel_rfl) rfl (by first | (simp; done) | (simp [Act.put]; done)) (by intro wq hwq; go_wp2; exact ⟨rfl, rfl⟩) rg0 ?_
          refine rg_read (i := 1) (a1 := _) rfl (by kernel_rfl) rfl (by first | (simp; done) | (simp [Act.put]; done)) (by intro wq hwq; go_wp2; exact ⟨rfl, rfl⟩) rg0 ?_
          refine rg_read (i := 2) (a1 := _) rfl (by kernel_rfl) rfl (by first | (simp; done) | (simp [Act.put]; done)) (by intro wq hwq; go_wp2; exact ⟨rfl, rfl⟩) rg0 ?_
          refine rg_read (i := 3) (a1 := _) rfl (by kernel_rfl) rfl (by first | (simp; done) | (simp [Act.put]; done)) (by intro wq hwq; go_wp2; exact ⟨rfl, rfl⟩) rg0 ?_
          refine rg_read (i := 4) (a1 := _) rfl (by kernel_rfl) rfl (by first | (simp; done) | (simp [Act.put]; done)) (by intro wq hwq; go_wp2; exact ⟨rfl, rfl⟩) rg0 ?_
          refine rg_read (i := 5) (a1 := _) rfl (by kernel_rfl) rfl (by first | (simp; done) | (simp [Act.put]; done)) (by intro wq hwq; go_wp2; exact ⟨rfl, rfl⟩) rg0 ?_
          refine rg_read (i := 6) (a1 := _) rfl (by kernel_rfl) rfl (by first | (simp; done) | (simp [Act.put]; done)) (by intro wq hwq; go_wp2; exact ⟨rfl, rfl⟩) rg0 ?_
          refine rg_read (i := 7) (a1 := _) rfl (by kernel_rfl) rfl (by first | (simp; done) | (simp [Act.put]; done)) (by intro wq hwq; go_wp2; exact ⟨rfl, rfl⟩) rg0 ?_
          refine rg_read (i := 8) (a1 := _) rfl (by kernel_rfl) rfl (by first | (simp; done) | (simp [Act.put]; done)) (by intro wq hwq; go_wp2; exact ⟨rfl, rfl⟩) rg0 ?_
          refine rg_read (i := 9) (a1 := _) rfl (by kernel_rfl) rfl (by first | (simp; done) | (simp [Act.put]; done)) (by intro wq hwq; go_wp2; exact ⟨rfl, rfl⟩) rg0 ?_
          refine rg_read (i := 10) (a1 := _) rfl (by kernel_rfl) rfl (by first | (simp; done) | (simp [Act.put]; done)) (by intro wq hwq; go_wp2; exact ⟨rfl, rfl⟩) rg0 ?_
          refine rg_read (i := 11) (a1 := _) rfl (by kernel_rfl) rfl (by first | (simp; done) | (simp [Act.put]; done)) (by intro wq hwq; go_wp2; exact ⟨rfl, rfl⟩) rg0 ?_
          refine rg_eff (i := 12) rfl (by kernel_rfl) ?_
          simp only [List.getElem_toArray, List.getElem_cons_succ, List.getElem_cons_zero]
          go_wp2_with fail
          with_reducible refine Calls.mono (hGk.out _ inferInstance inferInstance) ?_
          rintro e w12 ⟨ao, co, l, rfl, hll, hli, ownl, cu12, st12⟩
          go_wp2_with fail
          refine ⟨mkStepX, ?_⟩
          refine rg_read (i := 13) (a1 := _) rfl (by kernel_rfl) rfl (by first | (simp; done) | (simp [Act.put]; done)) (by intro wq hwq; go_wp2; exact ⟨rfl, rfl⟩) mkStepX ?_
          refine rg_read (i := 14) (a1 := _) rfl (by kernel_rfl) rfl (by first | (simp; done) | (simp [Act.put]; done)) (by intro wq hwq; go_wp2; exact ⟨rfl, rfl⟩) mkStepX ?_
          refine rg_eff (i := 15) rfl (by kernel_rfl) ?_
          simp only [List.getElem_toArray, List.getElem_cons_succ, List.getElem_cons_zero]
          go_wp2_with fail
          refine ⟨mkStepX, ?_⟩
          refine rg_done (by kernel_rfl) ?_
          go_wp2
          have inv12 := invE.out.fr (w' := w12) (FrX.fr (S := [p])) (fun x hx b hb hm => by rw [List.mem_singleton] at hm; have := (invB.out x hx b hb).1; omega)
          have own12 : w12.ownsRow A.heap.size 39 3 (.slice (some ⟨g, 0, none⟩) fs.length cf) fs.length (gs.flatMap fbVs) := ownsRow_fr ownE (FrX.fr (S := [p])) (by intro b hb; simp only [blk, List.mem_singleton] at hb; subst hb; exact ngp.ne)
          have hao : ∀ b ∈ blk ao, E.heap.size ≤ b := fun b hb => (ownsRow_blk ownl b hb).1
          obtain ⟨y, hy⟩ : ∃ y : FB, y = ⟨gs[k].sig, gs[k].loc, ao, co, l⟩ := ⟨_, rfl⟩
          have frg : Fr [g] w12 (w12.setCell ⟨g, k * 3 + 2, none⟩ (.slice ao l.length co)) := (Fr.refl [g] _).setCell (.inl (List.mem_singleton_self _)) _
          have own13 := own_setN (k * 3 + 2) (.slice ao l.length co) own12
          have e13 : (gs.flatMap fbVs).set (k * 3 + 2) (.slice ao l.length co) = (gs.set k y).flatMap fbVs := by
            have := flat_setB gs k y (by omega) (fun x hx => by rw [List.getElem?_eq_getElem (by omega)] at hx; rw [← Option.some.inj hx, hy]; exact ⟨rfl, rfl⟩)
            rw [hy] at this ⊢
            exact this
          rw [e13] at own13
          have inv13 : FbInv (w12.setCell ⟨g, k * 3 + 2, none⟩ (.slice ao l.length co)) A.heap.size (some ⟨g, 0, none⟩) (gs.set k y) := by
            have i0 := inv12.fr frg (fun x hx b hb hm => inv12.apart x hx b hb (by simpa [blk] using hm))
            refine i0.set ?_ ?_ ?_
            · rw [hy]
              exact ⟨((RowO.of_own ownl).weak (show A.heap.size ≤ E.heap.size by omega)).fr frg (fun b hb hm => by rw [List.mem_singleton] at hm; have := hao b hb; omega), hll, hli.out, hiB.out.sg, hiB.out.lo⟩
            · rw [hy]
              intro b hb hm
              simp only [blk, List.mem_singleton] at hm
              have := hao b hb
              omega
            · intro j hj _
              rw [hy]
              intro b hb hm
              have h1 := hao b hb
              have h2 := (inv2.out.lt _ (List.getElem_mem hj) b hm).2
              omega
          replace inv13 := hid inv13
          have bm12 : BoxL w12 (w.heap.size + 1 + 1) #[.slice (some ⟨w.heap.size + 1, 0, none⟩) 3 3, .slice (some ⟨w.heap.size + 1 + 1 + 1, 0, none⟩) 2 2, (.slice (some ⟨g, 0, none⟩) fs.length cf), .int .i64 1, .int .i64 (-1), .slice (some ⟨w.heap.size + 1 + 1 + 1 + 1, 0, none⟩) 2 2, .slice none 0 0, .slice none 0 0] := boxOf
          have neg2 : NeB g (w.heap.size + 1 + 1) := ⟨by omega⟩
          have gtg : Gt p g := ⟨by omega⟩
          have sbg : SubX D [p, g] (p :: blk (some ⟨g, 0, none⟩)) := ⟨fun b hb => .inl hb⟩
          have sbp : SubX D [p] (p :: blk (some ⟨g, 0, none⟩)) := ⟨fun b hb => .inl (by rw [List.mem_singleton.1 hb]; simp)⟩
          have mbg : MemB g (p :: blk (some ⟨g, 0, none⟩)) := ⟨by simp [blk]⟩
          go_roundw
          case rel => exact ⟨k + 1, gs.set k y, by omega, by rw [List.length_set]; exact hgl, by go_num, boxOf, own13, inv13, inferInstance, mkStepX⟩
          case measure => simp [intOf]; omega
        · have hkf : fs.length ≤ k := by omega
          have ga : ∀ b ∈ blk af, A.heap.size ≤ b ∧ b < wr.heap.size := ownsRow_blk own2
          have nga : NotIn (w.heap.size + 1 + 1) (p :: blk af) := ⟨fun hb => by rcases List.mem_cons.1 hb with h | h; omega; have := (ga _ h).1; omega⟩
          have ngb : NotIn w.heap.size (p :: blk af) := ⟨fun hb => by rcases List.mem_cons.1 hb with h | h; omega; have := (ga _ h).1; omega⟩
          have ngc : NotIn w.heap.size [p, w.heap.size + 1 + 1] := ⟨by simp; omega⟩
          have bt2 : BoxL wr w.heap.size #[.slice none 0 0, .slice none 0 0, .slice none 0 0, .int .i64 0, .int .i64 0, .slice none 0 0, .slice none 0 0, .slice none 0 0] := boxOf
          have ot2 := bt2.old
          have n1 : ¬ w.heap.size = w.heap.size + 1 + 1 := by omega
          have n2 : ¬ w.heap.size + 1 + 1 = w.heap.size := by omega
          go_wp2
          refine bodyPost_ret (v := .agg #[.slice (some ⟨w.heap.size + 1, 0, none⟩) 3 3, .slice (some ⟨w.heap.size + 1 + 1 + 1, 0, none⟩) 2 2, .slice af fs.length cf, .int .i64 1, .int .i64 (-1), .slice (some ⟨w.heap.size + 1 + 1 + 1 + 1, 0, none⟩) 2 2, .slice (some ⟨wr.heap.size, 0, none⟩) 2 2, .slice (some ⟨wr.heap.size + 1 + 1, 0, none⟩) 1 1]) (by simp [results, Tryd.results18, go_sem]) rfl ?_
          have zw : A.heap.size ≤ wr.heap.size := by have := st.fr.size; have := sD.fr.size; have := stx.fr.size; omega
          have hfin : ∀ X, Fr [w.heap.size + 1 + 1, w.heap.size] wr X → X.ownsRow A.heap.size 63 3 (.slice (some ⟨wr.heap.size, 0, none⟩) expsM.length 2) expsM.length (expsM.flatMap exVs) → Box X (wr.heap.size + 1) #[.int .u8 1, .int .u8 2, .int .u8 3, .int .u8 4] → Box X (wr.heap.size + 1 + 1) #[.int .i64 8, .slice (some ⟨wr.heap.size + 1, 0, none⟩) 4 4] → DrM X A.heap.size p (w.heap.size + 1) (w.heap.size + 1 + 1 + 1) (w.heap.size + 1 + 1 + 1 + 1) wr.heap.size (wr.heap.size + 1 + 1) (wr.heap.size + 1) af cf gs := by
            intro X fX be bh bd
            have hnl : ∀ x ∈ gs, ∀ b ∈ blk x.a, b ∉ [w.heap.size + 1 + 1, w.heap.size] := fun x hx b hb hm => by
              have := (inv2.out.lt x hx b hb).1
              simp only [List.mem_cons, List.not_mem_nil, or_false] at hm
              omega
            have hnf : ∀ b ∈ blk af, b ∉ [w.heap.size + 1 + 1, w.heap.size] := fun b hb hm => by
              have := (ga b hb).1
              simp only [List.mem_cons, List.not_mem_nil, or_false] at hm
              omega
            have tow : ∀ {q : Nat} {C : Array Value}, Box A q C → q ≠ p → q ≠ w.heap.size + 1 + 1 → q ≠ w.heap.size → q < A.heap.size → Box X q C := fun {q C} hb h1 h2 h3 h4 =>
              (((hb.fr st.fr (by simp; omega)).fr sD.fr (by simp)).fr stx.fr (fun hm => by rcases List.mem_cons.1 hm with h | h; exact h1 h; have := (ga _ h).1; omega)).fr fX (by simp; omega)
            refine ⟨tow hb1.out (by omega) (by omega) (by omega) (by omega), tow b3.is (by omega) (by omega) (by omega) (by omega), tow b4.is (by omega) (by omega) (by omega) (by omega), be, bd, bh, ?_, inv2.out.fr fX hnl, by omega, by omega, ?_, by omega⟩
            · rw [hgl]; exact ownsRow_fr own2 fX hnf
            · intro g hg
              simp only [List.mem_cons, List.not_mem_nil, or_false] at hg
              refine ⟨by omega, fun hb => by have := (ga g hb).2; omega, fun x hx hb => by have := (inv2.out.lt x hx g hb).2; omega⟩
          refine ⟨A.heap.size, w.heap.size + 1, w.heap.size + 1 + 1 + 1, w.heap.size + 1 + 1 + 1 + 1, wr.heap.size, wr.heap.size + 1 + 1, wr.heap.size + 1, af, cf, gs, by rw [hgl], by omega, by omega, hid (hfin _ ?_ ?_ ?_ ?_), ?_, ?_⟩
          · exact FrX.fr (S := [w.heap.size + 1 + 1, w.heap.size])
          · refine ownsRow_fr (own_litAt (n := 2) (C := #[.string ⟨#[109, 97, 105, 110]⟩, .int .i64 0, .int .i64 2, .string ⟨#[109, 101, 109]⟩, .int .i64 2, .int .i64 0]) (by simp) rfl (by simp; omega) (by decide) rfl) (((Fr.refl [] _).alloc _).alloc _) (by simp)
          · with_reducible repeat (first | assumption | (apply Box.newAt; simp; done) | apply Box.alloc | apply Box.drew | apply Box.set | (apply Box.other; focus omega))
          · with_reducible repeat (first | assumption | (apply Box.newAt; simp; done) | apply Box.alloc | apply Box.drew | apply Box.set | (apply Box.other; focus omega))
          · exact cu2.fr (FrX.fr (S := [w.heap.size + 1 + 1, w.heap.size])) (by intro b hb; simp only [List.mem_cons, List.not_mem_nil, or_false] at hb; omega)
          · have hA : Fr [p] w A := (mkFr (a := w) (b := A)).mono (by simp)
            exact ⟨(((hA.trans st.fr (fun b hb => by simp only [List.mem_cons, List.not_mem_nil, or_false] at hb ⊢; omega)).trans sD.fr (by simp)).trans stx.fr (fun b hb => by rcases List.mem_cons.1 hb with h | h; exact .inl (by simp [h]); exact .inr (by have := (ga b h).1; omega))).trans (FrX.fr (S := [w.heap.size + 1 + 1, w.heap.size])) (fun b hb => by simp only [List.mem_cons, List.not_mem_nil, or_false] at hb ⊢; omega)⟩
end Go.Proofs.YtpaekgeopmifeaaDoor
