/- Draws of bodies: that they return, and how long they are at most. Contracts: letters, digits, words. -/
import Derived.Test.YtpaekgeopmifeaaDoorK08
import Derived.Test.YtpaekgeopmifeaaDoorK04
import Derived.Test.YtpaekgeopmifeaaDoorShelf
namespace Go.Proofs.YtpaekgeopmifeaaDoor
attribute [local go_sem ↓] Go.wp_at_zero Go.wp_at_succ
open Go.RowKit
open Rep (Is sz)

theorem sanyinsC {p : Nat} (w : World) [c : Cur w p] : Calls Tryd.prog 19 #[.pointer (some ⟨p, 0, none⟩)] w (DrIns p w) := by
  have ag : Arg p w := ⟨c.lt⟩
  have og : Old p w := ⟨c.lt⟩
  go_enter Tryd.func19, Tryd.ntmps19
  have bA : ∀ t, BoxL (w.alloc (Obj.cells #[Value.int IntKind.i64 0, Value.int IntKind.i64 0, Value.int IntKind.i64 0] t)) w.heap.size #[Value.int IntKind.i64 0, Value.int IntKind.i64 0, Value.int IntKind.i64 0] := fun t => ⟨Box.new _ _ t⟩
  go_wp2_with fail
  with_reducible refine Calls.mono (sinsC _) ?_
  rintro e w3 ⟨i, hi, rfl, cu3, st3⟩
  obtain ⟨i0, i1, i2⟩ := hi
  have bB : BoxL (w3.alloc (Obj.cells #[Value.int IntKind.i64 i.op, Value.int IntKind.i64 i.a, Value.int IntKind.i64 i.b] 50)) w3.heap.size #[Value.int IntKind.i64 i.op, Value.int IntKind.i64 i.a, Value.int IntKind.i64 i.b] := ⟨Box.new ..⟩
  have oB := bB.old
  have BA : ¬ w3.heap.size = w.heap.size := by
    have h2 := st3.fr.size
    rw [World.size_alloc] at h2
    omega
  have AB : ¬ w.heap.size = w3.heap.size := Ne.symm BA
  have nBA : NeB w3.heap.size w.heap.size := ⟨BA⟩
  go_wp2_with fail
  with_reducible refine Calls.mono (sbelowC _ _ (by omega)) ?_
  rintro e w4 ⟨k, hk, rfl, cu4, st4⟩
  by_cases k0 : k = 0
  · subst k0
    go_wp2_with fail
    with_reducible refine Calls.mono (srawC _) ?_
    rintro e w5 ⟨y, hy, rfl, cu5, st5⟩
    go_wp2
    refine ret_box w.heap.size 3 _ _ (box3 (C := #[Value.int IntKind.i64 0, Value.int IntKind.i64 0, Value.int IntKind.i64 0]) rfl) rfl rfl rfl Tryd.underlying50 rfl (by kernel_rfl) rfl rfl ?_
    exact ⟨⟨y, i.a, i.b⟩, ⟨hy, i1, i2⟩, rfl, inferInstance, mkStepX⟩
  by_cases k1 : k = 1
  · subst k1
    go_wp2_with fail
    with_reducible refine Calls.mono (srawC _) ?_
    rintro e w5 ⟨y, hy, rfl, cu5, st5⟩
    go_wp2
    refine ret_box w.heap.size 3 _ _ (box3 (C := #[Value.int IntKind.i64 0, Value.int IntKind.i64 0, Value.int IntKind.i64 0]) rfl) rfl rfl rfl Tryd.underlying50 rfl (by kernel_rfl) rfl rfl ?_
    exact ⟨⟨i.op, y, i.b⟩, ⟨i0, hy, i2⟩, rfl, inferInstance, mkStepX⟩
  by_cases k2 : k = 2
  · subst k2
    go_wp2_with fail
    with_reducible refine Calls.mono (sbelowC _ _ (by omega)) ?_
    rintro e w5 ⟨y, hy, rfl, cu5, st5⟩
    go_wp2
    refine ret_box w.heap.size 3 _ _ (box3 (C := #[Value.int IntKind.i64 0, Value.int IntKind.i64 0, Value.int IntKind.i64 0]) rfl) rfl rfl rfl Tryd.underlying50 rfl (by kernel_rfl) rfl rfl ?_
    exact ⟨⟨i.op, i.a, y⟩, ⟨i0, i1, by unfold In64; (try simp only []); omega⟩, rfl, inferInstance, mkStepX⟩
  · have x0 : ((k : Int) == 0) = false := by rw [beq_eq_false_iff_ne]; omega
    have x1 : ((k : Int) == 1) = false := by rw [beq_eq_false_iff_ne]; omega
    have x2 : ((k : Int) == 2) = false := by rw [beq_eq_false_iff_ne]; omega
    go_wp2
    refine ret_box w.heap.size 3 _ _ (box3 (C := #[Value.int IntKind.i64 0, Value.int IntKind.i64 0, Value.int IntKind.i64 0]) rfl) rfl rfl rfl Tryd.underlying50 rfl (by kernel_rfl) rfl rfl ?_
    exact ⟨⟨i.op, i.a, i.b⟩, ⟨i0, i1, i2⟩, rfl, inferInstance, mkStepX⟩

/-- What a drawn body is. -/
def DrBody (p : Nat) (w : World) (L : Nat) (e : Ending) (w' : World) : Prop :=
  ∃ (ao : Option Addr) (co : Nat) (l : List InsD), e = .returned (.slice ao l.length co) ∧ l.length ≤ L ∧ Hid (∀ i ∈ l, In3 i) ∧ w'.ownsRow w.heap.size 50 3 (.slice ao l.length co) l.length (l.flatMap insVs) ∧ Cur w' p ∧ StepX [p] w w'
/-- A row of one's own behind steps that moved the cursor. -/
theorem own_px (p : Nat) {w m W : World} {e : TypeId} {sz n cap : Nat} {ao : Option Addr} {xs : List Value} (h : m.ownsRow w.heap.size e sz (.slice ao n cap) n xs) [ag : Arg p w] [f : FrX [p] m W] : W.ownsRow w.heap.size e sz (.slice ao n cap) n xs :=
  ownsRow_fr h f.fr (fun x hx hm => by rw [List.mem_singleton] at hm; have := (ownsRow_blk h x hx).1; have := ag.lt; omega)
theorem abv_own {p : Nat} {w m : World} {e : TypeId} {sz n cap : Nat} {ao : Option Addr} {xs : List Value} (h : m.ownsRow w.heap.size e sz (.slice ao n cap) n xs) [ag : Arg p w] : Abv p (blk ao) := ⟨fun b hb => by have := (ownsRow_blk h b hb).1; have := ag.lt; omega⟩
theorem sub_own {S : List Nat} {w m : World} {e : TypeId} {sz n cap : Nat} {ao : Option Addr} {xs : List Value} (h : m.ownsRow w.heap.size e sz (.slice ao n cap) n xs) : SubX w (blk ao) S := ⟨fun b hb => .inr (ownsRow_blk h b hb).1⟩
theorem insVs_allD (l : List InsD) : ∀ u ∈ l.flatMap insVs, u.oneCell' = true := by
  intro u hu
  obtain ⟨i, _, h⟩ := List.mem_flatMap.1 hu
  exact insVs_one i u h
/-- append(s, x...): rows of instructions. -/
theorem app_ins {P : Program} {W : World} {ops : Array Oper} {rest : List Oper} {o : Oper} {a : Act} {Q : Exit → Act → World → Prop} (hgd : o.guard = none) (s x : Operand) (t : TypeId)
    (ho : o.op = .call { callee := .builtin .append, args := #[s, x], argTypes := #[t, t] })
    (e : TypeId) (htab : P.underlying t = some (.slice e) ∧ (P.info? e).map (fun i => (i.zero, i.size, i.bytes)) = some (some (.agg #[.int .i64 0, .int .i64 0, .int .i64 0]), 3, 24) ∧ (.agg #[.int .i64 0, .int .i64 0, .int .i64 0] : Value).cells.size = 3 ∧ 0 < 3 ∧ 0 < 24)
    (B : Nat) (ao : Option Addr) (cap : Nat) (l : List InsD) (hs : a.eval s = .slice ao l.length cap) (hown : W.ownsRow B e 3 (.slice ao l.length cap) l.length (l.flatMap insVs))
    (ax : Option Addr) (c : Nat) (y r : List InsD) (hx : a.eval x = .slice ax y.length c) (hv : View W ax 3 y.length (y.flatMap insVs)) (hr : l ++ y = r) (hb : l.length + y.length ≤ 1000000) (hB : B ≤ W.heap.size)
    (h : ∀ ao' cap' w', w'.ownsRow B e 3 (.slice ao' r.length cap') r.length (r.flatMap insVs) → StepX (blk ao) W w' → wpList P ops Q rest (a.put o.dst (.slice ao' r.length cap')) w') : wpList P ops Q (o :: rest) a W := by
  subst hr
  refine app_own W hgd s x t ho e _ 3 24 htab B ao l.length cap (l.flatMap insVs) hs hown ax y.length c (y.flatMap insVs) hx hv (insVs_allD y) (by omega) hB ?_
  intro ao' cap' w' h1 h2
  rw [← List.flatMap_append, ← List.length_append] at h1
  rw [← List.length_append]
  exact h ao' cap' w' h1 ⟨h2⟩
theorem in3_app {l y : List InsD} (h1 : ∀ i ∈ l, In3 i) (h2 : ∀ i ∈ y, In3 i) : ∀ i ∈ l ++ y, In3 i := fun i hi => by
  rcases List.mem_append.1 hi with h | h
  · exact h1 i h
  · exact h2 i h
theorem in3_one {i : InsD} (h : In3 i) : ∀ x ∈ [i], In3 x := fun x hx => by rw [List.mem_singleton.1 hx]; exact h
set_option maxHeartbeats 4000000 in
/-- A drawn body of a right shape, so deep; the deeper ones are known. -/
theorem sdrawS {p : Nat} (deep : Nat) (M : Nat) (w : World) (hd : deep ≤ 3) (hM : M ≤ 10000) [c : Cur w p]
    (ih : deep < 3 → ∀ (m : World), Cur m p → Calls Tryd.prog 20 #[.pointer (some ⟨p, 0, none⟩), .int .i64 ((deep : Int) + 1)] m (DrBody p m M)) :
    Calls Tryd.prog 20 #[.pointer (some ⟨p, 0, none⟩), .int .i64 deep] w (DrBody p w (4 * (3 + 2 * M))) := by
  have ag : Arg p w := ⟨c.lt⟩
  have og : Old p w := ⟨c.lt⟩
  obtain ⟨K, hK⟩ : ∃ K, 3 + 2 * M = K := ⟨_, rfl⟩
  rw [hK]
  replace ih := hid ih
  go_enter Tryd.func20, Tryd.ntmps20
  go_wp2_with fail
  with_reducible refine Calls.mono (sbelowC _ _ (by omega)) ?_
  rintro e w3 ⟨n, hn, rfl, cu3, st3⟩
  replace hn : n ≤ 4 := by omega
  have own0 : w3.ownsRow w.heap.size 50 3 (.slice (some ⟨w.heap.size, 0, none⟩) ([] : List InsD).length 0) ([] : List InsD).length (([] : List InsD).flatMap insVs) := own_px p (own_lit w #[] _ 3 0 _ (Nat.le_refl _) (by unfold maxLen; omega) rfl)
  have hKb : K ≤ 20003 := by omega
  have hn4 := hid (show ([] : List InsD).length + n * K ≤ 4 * K by rw [List.length_nil, Nat.zero_add]; exact Nat.mul_le_mul_right _ hn)
  go_wp2_with fail
  go_loopw [5, 6] (fun o i wr => ∃ (j : Nat) (ao : Option Addr) (co : Nat) (l : List InsD), j ≤ 4 ∧ i = .int .i64 j ∧ o = .slice ao l.length co ∧ Hid (l.length + j * K ≤ 4 * K) ∧ Hid (∀ i ∈ l, In3 i) ∧ wr.ownsRow w.heap.size 50 3 (.slice ao l.length co) l.length (l.flatMap insVs) ∧ Cur wr p ∧ StepX [p] w wr) (fun _ i _ => (intOf i).toNat)
  case atStart => exact ⟨n, _, 0, [], hn, rfl, rfl, hn4, hid (by simp), own0, inferInstance, mkStepX⟩
  case round =>
    clear own0 hn4
    obtain ⟨j, ao, co, l, hj, rfl, rfl, hjl, hji, own, cu, st⟩ := hrel
    have gw := st.fr.size
    by_cases hlt : 0 < j
    · obtain ⟨i, rfl⟩ : ∃ i, j = i + 1 := ⟨j - 1, by omega⟩
      have hjl2 : l.length + i * K + K ≤ 4 * K := by have := hjl.out; rw [Nat.succ_mul] at this; omega
      have hll : l.length ≤ 80012 := by omega
      replace hjl2 := hid hjl2
      have ab : Abv p (blk ao) := abv_own own
      have sb : SubX w (blk ao) [p] := sub_own own
      go_wp2_with fail
      with_reducible refine Calls.mono (sbelowC _ _ (by omega)) ?_
      rintro e w5 ⟨k, hk, rfl, cu5, st5⟩
      by_cases hk2 : k < 2 ∧ deep < 3
      · obtain ⟨hk2, hd3⟩ := hk2
        have ih2 := hid (ih.out hd3)
        go_wp2_with fail
        with_reducible refine Calls.mono (sbelowC _ _ (by omega)) ?_
        rintro e w6 ⟨x, hx, rfl, cu6, st6⟩
        replace hx : x < 3 := by omega
        obtain ⟨op, hop, hop2⟩ : ∃ op : Int, ([Value.int .i64 2, .int .i64 3, .int .i64 4] : List Value)[x]'(by simpa using hx) = .int .i64 op ∧ (op = 2 ∨ op = 3 ∨ op = 4) := by
          rcases (show x = 0 ∨ x = 1 ∨ x = 2 by omega) with rfl | rfl | rfl
          · exact ⟨2, rfl, .inl rfl⟩
          · exact ⟨3, rfl, .inr (.inl rfl)⟩
          · exact ⟨4, rfl, .inr (.inr rfl)⟩
        have hop9 : In64 op := by unfold In64; omega
        replace hop2 := hid hop2
        have bL : BoxL (w5.alloc (Obj.cells #[Value.int .i64 2, .int .i64 3, .int .i64 4] 3)) w5.heap.size #[Value.int .i64 2, .int .i64 3, .int .i64 4] := ⟨Box.new ..⟩
        have oL := bL.old
        have nL : NewB w w5.heap.size := inferInstance
        have hx3 : (x : Int) < 3 := by omega
        go_wp2_with fail
        with_reducible refine Calls.mono (sbelowC _ _ (by omega)) ?_
        rintro e w7 ⟨y, hy, rfl, cu7, st7⟩
        replace hy : y < 2 := by omega
        have hiy : In3 ⟨op, y, 0⟩ := ⟨hop9, by unfold In64; (try simp only []); omega, by unfold In64; (try simp only []); omega⟩
        obtain ⟨r1, hr1⟩ : ∃ r1, l ++ [⟨op, (y : Int), 0⟩] = r1 := ⟨_, rfl⟩
        have hlr1 : r1.length ≤ l.length + 1 := by rw [← hr1]; simp
        have hir1 := hid (show ∀ i ∈ r1, In3 i by rw [← hr1]; exact in3_app hji.out (in3_one hiy))
        go_wp2_with (at_builtin; go_must (refine app_ins rfl (.tmp 30) (.tmp 35) 37 rfl 50 Tryd.inss_tab w.heap.size ao co l rfl (own_px p own) _ 1 [⟨op, (y : Int), 0⟩] r1 rfl (view_lit _ _ _ _ _ rfl) hr1 (by simp; omega) (FrX.fr (S := [p]) (a := w)).size ?_); intro ar1 cr1 wr1 ownr1 sxr1)
        have abr1 : Abv p (blk ar1) := abv_own ownr1
        have sbr1 : SubX w (blk ar1) [p] := sub_own ownr1
        with_reducible refine Calls.mono (ih2.out _ inferInstance) ?_
        rintro e wD ⟨aD, cD, lD, rfl, hlD, hiD, ownD, cuD, stD⟩
        by_cases op4 : op = 4
        · subst op4
          obtain ⟨r2, hr2⟩ : ∃ r2, r1 ++ lD = r2 := ⟨_, rfl⟩
          have hlr2 : r2.length ≤ r1.length + lD.length := by rw [← hr2, List.length_append]; omega
          have hir2 := hid (show ∀ i ∈ r2, In3 i by rw [← hr2]; exact in3_app hir1.out hiD.out)
          go_wp2_with (at_builtin; go_must (refine app_ins rfl (.tmp 36) (.tmp 40) 37 rfl 50 Tryd.inss_tab w.heap.size ar1 cr1 r1 rfl (own_px p ownr1) _ cD lD r2 rfl (ownsRow_view ownD) hr2 (by omega) (FrX.fr (S := [p]) (a := w)).size ?_); intro ar2 cr2 wr2 ownr2 sxr2)
          have abr2 : Abv p (blk ar2) := abv_own ownr2
          have sbr2 : SubX w (blk ar2) [p] := sub_own ownr2
          with_reducible refine Calls.mono (sbelowC _ _ (by omega)) ?_
          rintro e wz ⟨z, hz, rfl, cuz, stz⟩
          by_cases hz0 : z = 0
          · subst hz0
            obtain ⟨r3, hr3⟩ : ∃ r3, r2 ++ [⟨5, 0, 0⟩] = r3 := ⟨_, rfl⟩
            have hlr3 : r3.length ≤ r2.length + 1 := by rw [← hr3]; simp
            have hir3 := hid (show ∀ i ∈ r3, In3 i by rw [← hr3]; exact in3_app hir2.out (in3_one (show In3 ⟨5, 0, 0⟩ from ⟨by unfold In64; (try simp only []); omega, by unfold In64; (try simp only []); omega, by unfold In64; (try simp only []); omega⟩)))
            go_wp2_with (at_builtin; go_must (refine app_ins rfl (.tmp 49) (.tmp 51) 37 rfl 50 Tryd.inss_tab w.heap.size ar2 cr2 r2 rfl (own_px p ownr2) _ 1 [⟨5, 0, 0⟩] r3 rfl (view_lit _ _ _ _ _ rfl) hr3 (by simp; omega) (FrX.fr (S := [p]) (a := w)).size ?_); intro ar3 cr3 wr3 ownr3 sxr3)
            have abr3 : Abv p (blk ar3) := abv_own ownr3
            have sbr3 : SubX w (blk ar3) [p] := sub_own ownr3
            with_reducible refine Calls.mono (ih2.out _ inferInstance) ?_
            rintro e wE ⟨aE, cE, lE, rfl, hlE, hiE, ownE, cuE, stE⟩
            obtain ⟨r4, hr4⟩ : ∃ r4, r3 ++ lE = r4 := ⟨_, rfl⟩
            have hlr4 : r4.length ≤ r3.length + lE.length := by rw [← hr4, List.length_append]; omega
            have hir4 := hid (show ∀ i ∈ r4, In3 i by rw [← hr4]; exact in3_app hir3.out hiE.out)
            obtain ⟨rF, hrF⟩ : ∃ rF, r4 ++ [⟨11, 0, 0⟩] = rF := ⟨_, rfl⟩
            have hlrF : rF.length ≤ r4.length + 1 := by rw [← hrF]; simp
            have hirF := hid (show ∀ i ∈ rF, In3 i by rw [← hrF]; exact in3_app hir4.out (in3_one (show In3 ⟨11, 0, 0⟩ from ⟨by unfold In64; (try simp only []); omega, by unfold In64; (try simp only []); omega, by unfold In64; (try simp only []); omega⟩)))
            go_wp2_with (first | (at_builtin; (refine app_ins rfl (.tmp 52) (.tmp 56) 37 rfl 50 Tryd.inss_tab w.heap.size ar3 cr3 r3 rfl (own_px p ownr3) _ cE lE r4 rfl (ownsRow_view ownE) hr4 (by omega) (FrX.fr (S := [p]) (a := w)).size ?_); intro ar4 cr4 wr4 ownr4 sxr4) | (at_builtin; (refine app_ins rfl (.tmp 58) (.tmp 60) 37 rfl 50 Tryd.inss_tab w.heap.size ar4 cr4 r4 rfl (own_px p ownr4) _ 1 [⟨11, 0, 0⟩] rF rfl (view_lit _ _ _ _ _ rfl) hrF (by simp; omega) (FrX.fr (S := [p]) (a := w)).size ?_); intro arF crF wrF ownrF sxrF))
            have abr4 : Abv p (blk ar4) := abv_own ownr4
            have sbr4 : SubX w (blk ar4) [p] := sub_own ownr4
            have abrF : Abv p (blk arF) := abv_own ownrF
            have sbrF : SubX w (blk arF) [p] := sub_own ownrF
            go_roundw
            case rel => exact ⟨i, arF, crF, rF, by omega, by go_num, rfl, hid (by have := hjl2.out; omega), hirF, ownrF, inferInstance, mkStepX⟩
            case measure => simp [intOf]
          · have hz1 : ((z : Int) == 0) = false := by rw [beq_eq_false_iff_ne]; omega
            obtain ⟨rF, hrF⟩ : ∃ rF, r2 ++ [⟨11, 0, 0⟩] = rF := ⟨_, rfl⟩
            have hlrF : rF.length ≤ r2.length + 1 := by rw [← hrF]; simp
            have hirF := hid (show ∀ i ∈ rF, In3 i by rw [← hrF]; exact in3_app hir2.out (in3_one (show In3 ⟨11, 0, 0⟩ from ⟨by unfold In64; (try simp only []); omega, by unfold In64; (try simp only []); omega, by unfold In64; (try simp only []); omega⟩)))
            go_wp2_with (at_builtin; go_must (refine app_ins rfl (.tmp 58) (.tmp 60) 37 rfl 50 Tryd.inss_tab w.heap.size ar2 cr2 r2 rfl (own_px p ownr2) _ 1 [⟨11, 0, 0⟩] rF rfl (view_lit _ _ _ _ _ rfl) hrF (by simp; omega) (FrX.fr (S := [p]) (a := w)).size ?_); intro arF crF wrF ownrF sxrF)
            have abrF : Abv p (blk arF) := abv_own ownrF
            have sbrF : SubX w (blk arF) [p] := sub_own ownrF
            go_roundw
            case rel => exact ⟨i, arF, crF, rF, by omega, by go_num, rfl, hid (by have := hjl2.out; omega), hirF, ownrF, inferInstance, mkStepX⟩
            case measure => simp [intOf]
        · have op5 : (op == 4) = false := beq_eq_false_iff_ne.2 op4
          obtain ⟨r2, hr2⟩ : ∃ r2, r1 ++ lD = r2 := ⟨_, rfl⟩
          have hlr2 : r2.length ≤ r1.length + lD.length := by rw [← hr2, List.length_append]; omega
          have hir2 := hid (show ∀ i ∈ r2, In3 i by rw [← hr2]; exact in3_app hir1.out hiD.out)
          obtain ⟨rF, hrF⟩ : ∃ rF, r2 ++ [⟨11, 0, 0⟩] = rF := ⟨_, rfl⟩
          have hlrF : rF.length ≤ r2.length + 1 := by rw [← hrF]; simp
          have hirF := hid (show ∀ i ∈ rF, In3 i by rw [← hrF]; exact in3_app hir2.out (in3_one (show In3 ⟨11, 0, 0⟩ from ⟨by unfold In64; (try simp only []); omega, by unfold In64; (try simp only []); omega, by unfold In64; (try simp only []); omega⟩)))
          go_wp2_with (first | (at_builtin; (refine app_ins rfl (.tmp 36) (.tmp 40) 37 rfl 50 Tryd.inss_tab w.heap.size ar1 cr1 r1 rfl (own_px p ownr1) _ cD lD r2 rfl (ownsRow_view ownD) hr2 (by omega) (FrX.fr (S := [p]) (a := w)).size ?_); intro ar2 cr2 wr2 ownr2 sxr2) | (at_builtin; (refine app_ins rfl (.tmp 58) (.tmp 60) 37 rfl 50 Tryd.inss_tab w.heap.size ar2 cr2 r2 rfl (own_px p ownr2) _ 1 [⟨11, 0, 0⟩] rF rfl (view_lit _ _ _ _ _ rfl) hrF (by simp; omega) (FrX.fr (S := [p]) (a := w)).size ?_); intro arF crF wrF ownrF sxrF))
          have abr2 : Abv p (blk ar2) := abv_own ownr2
          have sbr2 : SubX w (blk ar2) [p] := sub_own ownr2
          have abrF : Abv p (blk arF) := abv_own ownrF
          have sbrF : SubX w (blk arF) [p] := sub_own ownrF
          go_roundw
          case rel => exact ⟨i, arF, crF, rF, by omega, by go_num, rfl, hid (by have := hjl2.out; omega), hirF, ownrF, inferInstance, mkStepX⟩
          case measure => simp [intOf]
      · have hb : ¬ k < 2 ∨ ¬ deep < 3 := by omega
        by_cases hk3 : k < 2
        all_goals
          first | (have hd4 : ¬ deep < 3 := by omega) | skip
          replace hb := hid hb
          go_wp2_with fail
          with_reducible refine Calls.mono (sinsC _) ?_
          rintro e w6 ⟨q, hq, rfl, cu6, st6⟩
          obtain ⟨q0, q1, q2⟩ := id hq
          have bQ : BoxL (w6.alloc (Obj.cells #[Value.int IntKind.i64 q.op, Value.int IntKind.i64 q.a, Value.int IntKind.i64 q.b] 50)) w6.heap.size #[Value.int IntKind.i64 q.op, Value.int IntKind.i64 q.a, Value.int IntKind.i64 q.b] := ⟨Box.new ..⟩
          have oQ := bQ.old
          go_wp2_with fail
          with_reducible refine Calls.mono (sbegins ..) ?_
          rintro e w7 ⟨rfl, st7⟩
          by_cases b1 : kindOf q.op = 1
          · rw [decide_eq_true b1]
            replace b1 := hid b1
            go_wp2
            go_roundw
            case rel => exact ⟨i, ao, co, l, by omega, by go_num, rfl, hid (by have := hjl2.out; omega), hji, own_px p own, inferInstance, mkStepX⟩
            case measure => simp [intOf]
          rw [decide_eq_false b1]
          replace b1 := hid b1
          by_cases b2 : q.op = 5
          · have b3 : (q.op != 5) = false := by simp [b2]
            replace b2 := hid b2
            go_wp2
            go_roundw
            case rel => exact ⟨i, ao, co, l, by omega, by go_num, rfl, hid (by have := hjl2.out; omega), hji, own_px p own, inferInstance, mkStepX⟩
            case measure => simp [intOf]
          have b4 : (q.op != 5) = true := by simp [b2]
          by_cases b5 : q.op = 11
          · have b6 : (q.op != 11) = false := by simp [b5]
            replace b5 := hid b5
            go_wp2
            go_roundw
            case rel => exact ⟨i, ao, co, l, by omega, by go_num, rfl, hid (by have := hjl2.out; omega), hji, own_px p own, inferInstance, mkStepX⟩
            case measure => simp [intOf]
          · have b7 : (q.op != 11) = true := by simp [b5]
            obtain ⟨rQ, hrQ⟩ : ∃ rQ, l ++ [q] = rQ := ⟨_, rfl⟩
            have hlrQ : rQ.length ≤ l.length + 1 := by rw [← hrQ]; simp
            have hirQ := hid (show ∀ i ∈ rQ, In3 i by rw [← hrQ]; exact in3_app hji.out (in3_one hq))
            go_wp2_with (at_builtin; go_must (refine app_ins rfl (.tmp 78) (.tmp 80) 37 rfl 50 Tryd.inss_tab w.heap.size ao co l rfl (own_px p own) _ 1 [q] rQ rfl (view_lit _ _ _ _ _ rfl) hrQ (by simp; omega) (FrX.fr (S := [p]) (a := w)).size ?_); intro arQ crQ wrQ ownrQ sxrQ)
            have abrQ : Abv p (blk arQ) := abv_own ownrQ
            have sbrQ : SubX w (blk arQ) [p] := sub_own ownrQ
            go_roundw
            case rel => exact ⟨i, arQ, crQ, rQ, by omega, by go_num, rfl, hid (by have := hjl2.out; omega), hirQ, ownrQ, inferInstance, mkStepX⟩
            case measure => simp [intOf]
    · obtain rfl : j = 0 := by omega
      go_wp2
      go_ret
      exact ⟨ao, co, l, rfl, by have := hjl.out; omega, hji, own, inferInstance, mkStepX⟩
end Go.Proofs.YtpaekgeopmifeaaDoor
namespace Go.Proofs.YtpaekgeopmifeaaDoor
attribute [local go_sem ↓] Go.wp_at_zero Go.wp_at_succ
open Go.RowKit
open Rep (Is sz)

def small (c : UInt8) : Bool := decide (97 ≤ (c.toNat : Int) ∧ (c.toNat : Int) ≤ 122)
def dig (c : UInt8) : Bool := decide (48 ≤ (c.toNat : Int) ∧ (c.toNat : Int) ≤ 57)
def part (c : UInt8) : Bool := decide (97 ≤ (c.toNat : Int) ∧ (c.toNat : Int) ≤ 122) || decide (65 ≤ (c.toNat : Int) ∧ (c.toNat : Int) ≤ 90) || decide (48 ≤ (c.toNat : Int) ∧ (c.toNat : Int) ≤ 57) || ((c.toNat : Int) == 95)



/-- Every byte of a text. -/
def allB (p : UInt8 → Bool) (s : ByteArray) : Bool := s.data.toList.all p

theorem byte_at (s : ByteArray) (k : Nat) (hk : k < s.size) : s.data.toList[k]? = some s[k] := at_eq s k hk _ rfl

def wordS (s : ByteArray) : Bool := match s.data.toList with
  | [] => false
  | c :: r => small c && (c :: r).all part

theorem wordS_no {s : ByteArray} {k : Nat} (hk : k < s.size) (h : part s[k] = false) : wordS s = false := by
  have hm : s[k] ∈ s.data.toList := List.mem_of_getElem? (byte_at s k hk)
  unfold wordS
  cases e : s.data.toList with
  | nil => rfl
  | cons c r =>
    rw [e] at hm
    simp only [Bool.and_eq_false_iff]
    right
    rw [Bool.eq_false_iff, ne_eq, List.all_eq_true]
    intro ha
    rw [ha _ hm] at h
    cases h
theorem wordS_all {s : ByteArray} {k : Nat} (h0 : 0 < s.size) (hk : s.size ≤ k) (h : ∀ j : Nat, j < k → ∀ c, s.data.toList[j]? = some c → part c = true) : wordS s = small s[0] := by
  have h1 := byte_at s 0 h0
  unfold wordS
  cases e : s.data.toList with
  | nil => rw [e] at h1; cases h1
  | cons c r =>
    rw [e] at h1
    obtain rfl := Option.some.inj h1
    have ha : (s[0] :: r).all part = true := by
      rw [List.all_eq_true]
      intro x hx
      obtain ⟨j, hj⟩ := List.mem_iff_getElem?.1 hx
      rw [← e] at hj
      have hl := (List.getElem?_eq_some_iff.1 hj).1
      rw [bsz] at hl
      exact h j (by omega) x hj
    simp [ha]
theorem wordS_nil {s : ByteArray} (h : s.size = 0) : wordS s = false := by
  have e : s.data.toList = [] := List.eq_nil_of_length_eq_zero (by rw [bsz]; exact h)
  unfold wordS
  rw [e]

theorem upto_all1 {p : UInt8 → Bool} {s : ByteArray} {k : Nat} (hk : k < s.size) (hp : p s[k] = true) (h : ∀ j : Nat, j < k → ∀ c, s.data.toList[j]? = some c → p c = true) : ∀ j : Nat, j < k + 1 → ∀ c, s.data.toList[j]? = some c → p c = true := by
  intro j hj c hc
  rcases Nat.lt_or_ge j k with h1 | h1
  · exact h j h1 c hc
  · obtain rfl : j = k := by omega
    rw [byte_at s j hk] at hc
    rw [← Option.some.inj hc]
    exact hp


def runTo (p : UInt8 → Bool) : List UInt8 → Nat
  | [] => 0
  | c :: r => if p c then runTo p r + 1 else 0

theorem runTo_yes {p : UInt8 → Bool} {s : ByteArray} {n : Nat} (h : n < s.size) (hp : p s[n] = true) : runTo p (s.data.toList.drop n) = runTo p (s.data.toList.drop (n + 1)) + 1 := by
  have e : s.data.toList.drop n = s[n] :: s.data.toList.drop (n + 1) := by
    rw [List.drop_eq_getElem_cons (by rw [bsz]; exact h)]; rfl
  rw [e, runTo, if_pos hp]
theorem runTo_no {p : UInt8 → Bool} {s : ByteArray} {n : Nat} (h : n < s.size) (hp : p s[n] = false) : runTo p (s.data.toList.drop n) = 0 := by
  have e : s.data.toList.drop n = s[n] :: s.data.toList.drop (n + 1) := by
    rw [List.drop_eq_getElem_cons (by rw [bsz]; exact h)]; rfl
  rw [e, runTo, if_neg (by simp [hp])]
theorem runTo_end {p : UInt8 → Bool} {s : ByteArray} {n : Nat} (h : s.size ≤ n) : runTo p (s.data.toList.drop n) = 0 := by
  rw [List.drop_of_length_le (by rw [bsz]; exact h)]; rfl
theorem runTo_le (p : UInt8 → Bool) : ∀ l : List UInt8, runTo p l ≤ l.length
  | [] => Nat.le_refl _
  | c :: r => by
    have := runTo_le p r
    unfold runTo
    split
    · simp; omega
    · simp
theorem runTo_all (p : UInt8 → Bool) : ∀ l : List UInt8, runTo p l = l.length ↔ l.all p = true
  | [] => by simp [runTo]
  | c :: r => by
    have h1 := runTo_all p r
    unfold runTo
    by_cases hc : p c = true
    · simp [hc, h1]
    · simp [hc]



def wordsL : List ByteArray := [⟨#[105, 110, 116]⟩, ⟨#[118, 97, 114]⟩, ⟨#[102, 117, 110, 99]⟩, ⟨#[105, 102]⟩, ⟨#[101, 108, 115, 101]⟩, ⟨#[119, 104, 105, 108, 101]⟩, ⟨#[114, 101, 116, 117, 114, 110]⟩]
def signsL : List ByteArray := [⟨#[124, 124]⟩, ⟨#[38, 38]⟩, ⟨#[61, 61]⟩, ⟨#[33, 61]⟩, ⟨#[60, 61]⟩, ⟨#[62, 61]⟩, ⟨#[60, 60]⟩, ⟨#[62, 62]⟩, ⟨#[40]⟩, ⟨#[41]⟩, ⟨#[123]⟩, ⟨#[125]⟩, ⟨#[91]⟩, ⟨#[93]⟩, ⟨#[44]⟩, ⟨#[59]⟩, ⟨#[61]⟩, ⟨#[60]⟩, ⟨#[62]⟩, ⟨#[43]⟩, ⟨#[45]⟩, ⟨#[42]⟩, ⟨#[47]⟩, ⟨#[37]⟩, ⟨#[38]⟩, ⟨#[124]⟩, ⟨#[94]⟩, ⟨#[33]⟩, ⟨#[126]⟩]

theorem signs_fields : (Lib.fields ([105, 110, 116, 32, 118, 97, 114, 32, 102, 117, 110, 99, 32, 105, 102, 32, 101, 108, 115, 101, 32, 119, 104, 105, 108, 101, 32, 114, 101, 116, 117, 114, 110, 32, 124, 124, 32, 38, 38, 32, 61, 61, 32, 33, 61, 32, 60, 61, 32, 62, 61, 32, 60, 60, 32, 62, 62, 32, 40, 32, 41, 32, 123, 32, 125, 32, 91, 32, 93, 32, 44, 32, 59, 32, 61, 32, 60, 32, 62, 32, 43, 32, 45, 32, 42, 32, 47, 32, 37, 32, 38, 32, 124, 32, 94, 32, 33, 32, 126] : List UInt8)).map (fun x => (⟨x.toArray⟩ : ByteArray)) = wordsL ++ signsL := by decide +kernel
def signB (s : ByteArray) : Bool := memS (wordsL ++ signsL) s
theorem wordS_eq {s : ByteArray} (h : 0 < s.size) : wordS s = (small s[0] && decide (runTo part s.data.toList = s.size)) := by
  have h1 := byte_at s 0 h
  have h2 := runTo_all part s.data.toList
  rw [bsz] at h2
  have h3 : decide (runTo part s.data.toList = s.size) = s.data.toList.all part := by
    rw [Bool.eq_iff_iff, decide_eq_true_iff]; exact h2
  rw [h3]
  unfold wordS
  cases e : s.data.toList with
  | nil => rw [e] at h1; cases h1
  | cons c r =>
    rw [e] at h1
    rw [Option.some.inj h1]


theorem memS_append (a b : List ByteArray) (s : ByteArray) : memS (a ++ b) s = (memS a s || memS b s) := by simp [memS]
theorem words_word : ∀ s ∈ signsL, wordS s = false := by decide +kernel

end Go.Proofs.YtpaekgeopmifeaaDoor
