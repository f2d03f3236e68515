/- Contracts: StackAt and MaxStack, both sides. Contracts: StackAt and MaxStack, spec's side. Contracts: MaxStack, spec's side. The walk of FnExactMaxStack. -/
import Derived.Test.YtfddmelikahfbaaGreatDoorKd
import Derived.MakeChecks
namespace Go.Proofs.YtfddmelikahfbaaGreatDoor
attribute [local go_sem ↓] Go.wp_at_zero Go.wp_at_succ
open Go.RowKit
open Rep (Is sz)

theorem heights_in {m : ModuleD} {loc R : Int} (hm : ∀ x ∈ m.sigs, SigP x) : ∀ (l : List InsD) (s : ChkS) (sh : List Bool) (K : Nat), Inv R K sh s → (∀ x ∈ l, insOk x = true) → shGo sh l = true → ∀ n ∈ heightsGo m loc R s l, -1 ≤ n ∧ n ≤ (K : Int) + l.length
  | [], _, _, _, _, _, _, n, hn => by cases hn
  | i :: r, s, sh, K, v, hi, hs, n, hn => by
    have hv := v.nums
    rcases List.mem_cons.1 hn with rfl | hn
    · unfold htC
      split
      · simp only [List.length_cons]; omega
      · simp only [List.length_cons]; omega
    · unfold shGo at hs
      cases hq : shStep sh i.op with
      | none => rw [hq] at hs; cases hs
      | some t =>
        rw [hq] at hs
        have := heights_in hm r _ t (K + 1) (Inv.step (loc := loc) v hm (hi i List.mem_cons_self) hq) (fun x hx => hi x (List.mem_cons_of_mem _ hx)) hs n hn
        simp only [List.length_cons]
        omega
theorem heights_len {m : ModuleD} {loc R : Int} : ∀ (l : List InsD) (s : ChkS), (heightsGo m loc R s l).length = l.length
  | [], _ => rfl
  | _ :: r, _ => by
    show (heightsGo m loc R _ r).length + 1 = r.length + 1
    rw [heights_len r]
theorem sg_ok {m : ModuleD} (pa : PartsP m) {i : Nat} (hi : i < m.funcs.length) : SigP (sgC m i) := by
  have pf := pa.fns _ (List.getElem_mem hi)
  unfold sgC
  rw [fnC_at hi]
  have := pf.s0
  have := pf.s1
  rw [getD_in _ (show m.funcs[i].sig.toNat < m.sigs.length by omega)]
  exact pa.sigs _ (List.getElem_mem _)
theorem heightsF_in {m : ModuleD} (pa : PartsP m) {i : Nat} (hi : i < m.funcs.length) : (∀ n ∈ heightsF m i, -1 ≤ n ∧ n ≤ 1500) ∧ (heightsF m i).length ≤ 1500 := by
  have pf := pa.fns _ (List.getElem_mem hi)
  have hb := bodyB_at pf.bd
  have ef := fnC_at hi
  have ps := sg_ok pa hi
  refine ⟨fun n hn => ?_, ?_⟩
  · unfold heightsF at hn
    rw [ef] at hn
    have := heights_in pa.sigs m.funcs[i].body _ [] 0 (Inv.start ⟨ps.r0, ps.r1⟩) (fun x hx => by obtain ⟨k, hk, rfl⟩ := List.getElem_of_mem hx; exact hb.1 k hk) hb.2.2 n hn
    omega
  · unfold heightsF
    rw [heights_len, ef]
    exact hb.2.1

noncomputable def stackL (m : ModuleD) (i : Int) : List Int := if faultAt m i = -1 then heightsF m i.toNat else []
noncomputable def stackB (m : ModuleD) (i : Int) : Bool := decide (faultAt m i = -1)
theorem stack_no {m : ModuleD} {i : Int} (h : ¬ faultAt m i = -1) : stackL m i = [] ∧ stackB m i = false := ⟨if_neg h, decide_eq_false h⟩
theorem fault_in {m : ModuleD} {i : Int} (h : faultAt m i = -1) : ∃ k : Nat, i = (k : Int) ∧ FormP m ∧ k < m.funcs.length ∧ faultF m k = -1 ∧ stackL m i = heightsF m k ∧ stackB m i = true := by
  by_cases hc : ¬ FormP m ∨ i < 0 ∨ (m.funcs.length : Int) ≤ i
  · rw [faultAt_no hc] at h; cases h
  · have fo : FormP m := Classical.not_not.1 (fun h => hc (.inl h))
    obtain ⟨k, rfl⟩ := Int.eq_ofNat_of_zero_le (a := i) (by omega)
    have hk : k < m.funcs.length := by omega
    have h2 := h
    rw [faultAt_yes fo hk] at h2
    exact ⟨k, rfl, fo, hk, h2, by unfold stackL; rw [if_pos h, Int.toNat_natCast], decide_eq_true h⟩
theorem stack_in {m : ModuleD} {i : Int} : (∀ n ∈ stackL m i, -1 ≤ n ∧ n ≤ 1500) ∧ (stackL m i).length ≤ 1500 := by
  by_cases h : faultAt m i = -1
  · obtain ⟨k, rfl, fo, hk, -, e, -⟩ := fault_in h
    rw [e]; exact heightsF_in fo.pa hk
  · rw [(stack_no h).1]; simp

set_option maxRecDepth 10000 in
set_option maxHeartbeats 2000000 in
theorem istack {F : List Nat} {cs : List Value} (m : ModuleD) (i : Int) (w : World) (hz : moduleCost m ≤ 1048576) [hm : Shows w F m cs] [hU : HasU8 w] :
    Calls Tryz.prog 17 #[.agg cs.toArray, .int .i64 i] w fun e w' => ∃ a c G, e = .returned (.tuple #[.slice a (stackL m i).length c, .bool (stackB m i)]) ∧ Known w' G (stackL m i) [.slice a (stackL m i).length c] ∧ NewF w G ∧ Step w w' := by
  have kk := hm.known
  have ku := hU.known
  have hH0 := fun (pa : PartsP m) (g0 : -1 ≤ m.pages) (i0 : Nat) (h : i0 < m.funcs.length) (w' : World) (hh : Shows w' F m cs) => iheights m i0 w' pa g0 h (hm := hh)
  obtain ⟨a1, k1, a2, k2, a3, k3, a4, k4, a5, k5, a6, k6, F1, F2, F3, F4, F5, F6, rfl, rfl, h1, h2, h3, h4, h5, h6, i3, i4⟩ := module_open hm.is
  clear hm hU
  by_cases hf : faultAt m i = -1
  · obtain ⟨k, rfl, fo, hk, hff, e1, e2⟩ := fault_in hf
    have hin := heightsF_in fo.pa hk
    rw [e1, e2]
    have hn : ((-1 : Int) != -1) = false := rfl
    have hH := hH0 fo.pa fo.g0 k hk
    replace e1 := hid e1
    replace e2 := hid e2
    go_enter Tryz.func17, Tryz.ntmps17
    go_wp2_with fail
    with_reducible refine Calls.mono (ifault m (k : Int) _ hz) ?_
    rintro e w1 ⟨rfl, st1⟩
    rw [hf]
    replace hf := hid hf
    go_wp2_with fail
    with_reducible refine Calls.mono (hH _ inferInstance) ?_
    rintro e w2 ⟨v, rfl, st2, hv2⟩
    obtain ⟨a, c, rfl, own⟩ := hv2 hff
    replace hff := hid hff
    have kb : Known w2 (if heightsF m k = [] then [] else blk a) (heightsF m k) [.slice a (heightsF m k).length c] := ⟨ints_shut (ownsRow_view own) (fun n hn => by have := hin.1 n hn; unfold In64; omega) (ownsRow_cap own)⟩
    have hgr := st1.fr.size
    have nbk : NewF w (if heightsF m k = [] then [] else blk a) := ⟨by
      split
      · exact New.nil _
      · refine ⟨?_, fun b hb => by have := (ownsRow_blk own b hb).1; simp at hgr; omega⟩
        cases a <;> simp [blk]⟩
    replace own := hid own
    go_wp2
    go_ret2
    exact ⟨a, c, _, rfl, kb, nbk, mkStep⟩
  · obtain ⟨e1, e2⟩ := stack_no hf
    have hn : (faultAt m i != -1) = true := by simpa using hf
    rw [e1, e2]
    go_enter Tryz.func17, Tryz.ntmps17
    go_wp2_with fail
    with_reducible refine Calls.mono (ifault m i _ hz) ?_
    rintro e w1 ⟨rfl, st1⟩
    replace hf := hid hf
    replace e1 := hid e1
    replace e2 := hid e2
    go_wp2
    go_ret2
    exact ⟨none, 0, [], rfl, ⟨ints_shut (l := []) (View.nil _ _ _) (by simp) (by simp)⟩, newf_nil _, mkStep⟩

def maxL (l : List Int) : Int := l.foldl max 0
theorem maxL_snoc (l : List Int) (k : Nat) (h : k < l.length) : maxL (l.take (k + 1)) = max (maxL (l.take k)) l[k] := by
  unfold maxL
  rw [List.take_succ_eq_append_getElem h, List.foldl_append]
  rfl
theorem maxL_in (l : List Int) (hl : ∀ n ∈ l, -1 ≤ n ∧ n ≤ 1500) : 0 ≤ maxL l ∧ maxL l ≤ 1500 := by
  have : ∀ (l : List Int) (x : Int), 0 ≤ x → x ≤ 1500 → (∀ n ∈ l, -1 ≤ n ∧ n ≤ 1500) → 0 ≤ l.foldl max x ∧ l.foldl max x ≤ 1500 := by
    intro l
    induction l with
    | nil => intro x h0 h1 _; exact ⟨h0, h1⟩
    | cons y l ih =>
      intro x h0 h1 h2
      have := h2 y List.mem_cons_self
      exact ih (max x y) (by omega) (by omega) (fun n hn => h2 n (List.mem_cons_of_mem _ hn))
  exact this l 0 (by omega) (by omega) hl
noncomputable def maxS (m : ModuleD) (i : Int) : Int := if stackB m i = true then maxL (stackL m i) else -1

set_option maxRecDepth 10000 in
set_option maxHeartbeats 2000000 in
theorem imax {F : List Nat} {cs : List Value} (m : ModuleD) (i : Int) (w : World) (hz : moduleCost m ≤ 1048576) [hm : Shows w F m cs] [hU : HasU8 w] :
    Calls Tryz.prog 13 #[.agg cs.toArray, .int .i64 i] w fun e w' => e = .returned (.int .i64 (maxS m i)) ∧ Step w w' := by
  have kk := hm.known
  have ku := hU.known
  obtain ⟨a1, k1, a2, k2, a3, k3, a4, k4, a5, k5, a6, k6, F1, F2, F3, F4, F5, F6, rfl, rfl, h1, h2, h3, h4, h5, h6, i3, i4⟩ := module_open hm.is
  clear hm hU
  have hin := stack_in (m := m) (i := i)
  go_enter Tryz.func13, Tryz.ntmps13
  go_wp2_with fail
  with_reducible refine Calls.mono (istack m i _ hz) ?_
  rintro e w1 ⟨a, c, G, rfl, kn, nw, st1⟩
  cases hb : stackB m i
  · have r := hid (show maxS m i = -1 by unfold maxS; rw [hb]; rfl)
    go_wp2
    go_ret
    exact ⟨by rw [r.out]; rfl, mkStep⟩
  · obtain ⟨l, hl⟩ : ∃ l, stackL m i = l := ⟨_, rfl⟩
    have r := hid (show maxS m i = maxL l by unfold maxS; rw [hb, hl]; rfl)
    rw [hl] at hin kn
    simp only [hl]
    replace hl := hid hl
    obtain ⟨_, _, hv, _, hvw, hIn, hml⟩ := ints_open kn.is
    cases hv
    unfold maxLen at hml
    go_wp2_with fail
    refine wp_name ?_
    intro A sA
    go_loopw [7, 20] (fun x i wr => ∃ (k : Nat) (y : Int), k ≤ l.length ∧ i = .int .i64 k ∧ x = .int .i64 y ∧ 0 ≤ y ∧ y ≤ 1500 ∧ Hid (y = maxL (l.take k)) ∧ Step A wr) (fun _ i _ => l.length - (intOf i).toNat)
    case atStart => exact ⟨0, 0, by omega, rfl, rfl, by omega, by omega, rfl, mkStep⟩
    case round =>
      obtain ⟨k, y, hk, rfl, rfl, hy0, hy1, hy, st⟩ := hrel
      by_cases hlt : k < l.length
      · obtain ⟨b, o, rfl, hc, _, ho⟩ := hvw.get k hlt (.int .i64 l[k]) (by simp [intVs, hlt])
        have hxb := hin.1 _ (List.getElem_mem hlt)
        have hq := hid (show max y l[k] = maxL (l.take (k + 1)) by rw [maxL_snoc l k hlt, hy.out])
        go_wp2
        go_roundw
        case rel => exact ⟨k + 1, max y l[k], by omega, by go_num, rfl, by omega, by omega, hq, mkStep⟩
        case measure => simp [intOf]; omega
      · have hq := hid (show y = maxL l by rw [hy.out, List.take_of_length_le (by omega)])
        go_wp2
        go_ret
        exact ⟨by rw [r.out, ← hq.out]; rfl, mkStep⟩
end Go.Proofs.YtfddmelikahfbaaGreatDoor
namespace Go.Proofs.YtfddmelikahfbaaGreatDoor
attribute [local go_sem ↓] Go.wp_at_zero Go.wp_at_succ
open Go.RowKit
open Rep (Is sz)

set_option maxRecDepth 10000 in
set_option maxHeartbeats 4000000 in
theorem sstack {F : List Nat} {cs : List Value} (m : ModuleD) (i : Int) (w : World) (hz : moduleCost m ≤ 1048576) [hm : Shows w F m cs] :
    Calls Tryz.prog 16 #[.agg cs.toArray, .int .i64 i] w fun e w' => ∃ a c G, e = .returned (.tuple #[.slice a (stackL m i).length c, .bool (stackB m i)]) ∧ Known w' G (stackL m i) [.slice a (stackL m i).length c] ∧ NewF w G ∧ Step w w' := by
  have kk := hm.known
  have hB0 := fun (pa : PartsP m) (i0 : Nat) (h : i0 < m.funcs.length) (w' : World) (hh : Shows w' F m cs) => sbegin m i0 w' pa h (hm := hh)
  obtain ⟨a1, k1, a2, k2, a3, k3, a4, k4, a5, k5, a6, k6, F1, F2, F3, F4, F5, F6, rfl, rfl, h1, h2, h3, h4, h5, h6, i3, i4⟩ := module_open hm.is
  clear hm
  by_cases hf : faultAt m i = -1
  rotate_left
  · obtain ⟨e1, e2⟩ := stack_no hf
    have hn : (faultAt m i != -1) = true := by simpa using hf
    rw [e1, e2]
    go_enter Tryz.func16, Tryz.ntmps16
    go_wp2_with fail
    with_reducible refine Calls.mono (sfault m i _ hz) ?_
    rintro e w1 ⟨rfl, st1⟩
    replace hf := hid hf
    replace e1 := hid e1
    replace e2 := hid e2
    go_wp2
    go_ret2
    exact ⟨none, 0, [], rfl, ⟨ints_shut (l := []) (View.nil _ _ _) (by simp) (by simp)⟩, newf_nil _, mkStep⟩
  obtain ⟨i0, rfl, fo, hi2, hff, e1, e2⟩ := fault_in hf
  have pa := fo.pa
  have hin := heightsF_in pa hi2
  rw [e1, e2]
  obtain ⟨_, _, cl3, FF3, hv, _, hvw3, hr3, hml3⟩ := list_open h3
  cases hv
  unfold maxLen at hml3
  have pf := pa.fns _ (List.getElem_mem hi2)
  have ef := fnC_at hi2
  have hb := bodyB_at pf.bd
  have ps := sg_ok pa hi2
  obtain ⟨be, oe, Ge, cse, rfl, hGe, hIe, hce, hoe⟩ := hvw3.row hr3 rfl (by decide) i0 hi2
  have hI0e := hIe
  obtain ⟨a1e, k1e, F1e, rfl, rfl, h1e, i0e, i1e⟩ := func_open hI0e
  have kee : Known w _ m.funcs[i0] _ := ⟨hIe⟩
  have c0e := (hce 0 _ rfl).1
  replace c0e : w.cell? ⟨be, oe + i0 * 3, none⟩ = _ := c0e
  have c1e := (hce 1 _ rfl).1
  replace c1e : w.cell? ⟨be, oe + i0 * 3 + 1, none⟩ = _ := c1e
  have c2e := (hce 2 _ rfl).1
  replace c2e : w.cell? ⟨be, oe + i0 * 3 + 2, none⟩ = _ := c2e
  clear hce
  have kb : Known w F1e m.funcs[i0].body [.slice a1e m.funcs[i0].body.length k1e] := ⟨h1e⟩
  obtain ⟨_, _, cl, FF, hv, _, hvw, hr, hml⟩ := list_open h1e
  cases hv
  unfold maxLen at hml
  obtain ⟨l, hl⟩ : ∃ l, m.funcs[i0].body = l := ⟨_, rfl⟩
  obtain ⟨hF, hhF⟩ : ∃ x, heightsF m i0 = x := ⟨_, rfl⟩
  have hrun : faultF m i0 = faultGo m (locC m i0) (sgC m i0).results (startC (sgC m i0).results) l 0 := by unfold faultF; rw [ef, hl]
  have hrun2 : hF = heightsGo m (locC m i0) (sgC m i0).results (startC (sgC m i0).results) l := by rw [← hhF]; unfold heightsF; rw [ef, hl]
  rw [hhF] at hin ⊢
  rw [hl] at hb c2e kb hvw hr hml
  clear hl ef pf h1e hIe hI0e kee
  obtain ⟨loc, hloc⟩ : ∃ loc, locC m i0 = loc := ⟨_, rfl⟩
  obtain ⟨R, hR⟩ : ∃ R, (sgC m i0).results = R := ⟨_, rfl⟩
  have hR1 : 0 ≤ R ∧ R ≤ 1 := by rw [← hR]; exact ⟨ps.r0, ps.r1⟩
  have hB := hB0 pa i0 hi2
  rw [hloc, hR] at hrun hrun2 hB
  replace hrun := hid (hrun.symm.trans hff)
  replace hrun2 := hid hrun2
  replace e1 := hid e1
  replace e2 := hid e2
  replace hff := hid hff
  replace hhF := hid hhF
  clear ps hR hloc hB0
  have hn : ((-1 : Int) != -1) = false := rfl
  go_enter Tryz.func16, Tryz.ntmps16
  go_wp2_with fail
  with_reducible refine Calls.mono (sfault m (i0 : Int) _ hz) ?_
  rintro e w1 ⟨rfl, st1⟩
  rw [hf]
  replace hf := hid hf
  go_wp2_with fail
  with_reducible refine Calls.mono (hB _ inferInstance) ?_
  rintro e w2 ⟨p, g, M, rfl, hM0, hS2, st2⟩
  have hM := hid hM0
  clear hM0
  have hp2 := hS2.bp
  have hg2 := hS2.lt
  have hgr := st1.fr.size
  have hgr2 := st2.fr.size
  have np : NewB w p := ⟨by simp at hgr; omega⟩
  have hgw : w.heap.size + 1 ≤ g := by simp at hgr; omega
  have nbx : NeB w.heap.size p := ⟨by simp at hgr; omega⟩
  have nby : NeB w.heap.size g := ⟨by omega⟩
  have nbe : NeB be p := ⟨by have := hoe.lt; have := np.le; omega⟩
  have hpw : w.heap.size + 1 ≤ p := by simp at hgr; omega
  rw [hM.out] at kk
  have aF : Apart (F1 ++ F2 ++ F3 ++ F4 ++ F5 ++ F6) [p] := ⟨fun x hx => by have := Rep.lt kk.is x hx; have := np.le; simp; omega⟩
  clear hB hp2
  simp at hgr
  go_wp2_with fail
  refine wp_name ?_
  intro A sA
  have hA := sA.fr.size
  simp at hA
  have own0 : A.ownsRow w.heap.size 3 1 (.slice (some ⟨w2.heap.size, 0, none⟩) 0 0) 0 ([].map fun n => .int .i64 n) := ownsRow_fr (own_litAt rfl rfl (by omega) (by decide) rfl) sA.fr (by simp)
  have sbA : SB A p w1.heap.size g M loc (startC R) false := inferInstance
  have swA : Step w A := mkStep
  have hgA : w2.heap.size < A.heap.size := by omega
  clear sA
  go_loopw [7, 25] (fun o i wr => ∃ (k : Nat) (sh : List Bool) (s : ChkS) (g' : Nat) (hs : List Int) (ao : Option Addr) (co : Nat), k ≤ l.length ∧ i = .int .i64 k ∧ o = .slice ao hs.length co ∧ hs.length ≤ k ∧ Inv R k sh s ∧ Hid (shGo sh (l.drop k) = true) ∧ SB wr p w1.heap.size g' M loc s false ∧ wr.ownsRow w.heap.size 3 1 (.slice ao hs.length co) hs.length (hs.map fun n => .int .i64 n) ∧ (∀ x ∈ blk ao, x ≠ p ∧ x ≠ g' ∧ w.heap.size + 1 ≤ x) ∧ w.heap.size + 1 ≤ g' ∧ Step w wr ∧ Hid (faultGo m loc R s (l.drop k) k = -1) ∧ Hid (hF = hs ++ heightsGo m loc R s (l.drop k))) (fun _ i _ => l.length - (intOf i).toNat)
  case atStart => exact ⟨0, [], startC R, g, [], _, 0, by omega, rfl, rfl, by simp, Inv.start hR1, hid hb.2.2, sbA, own0, (fun x hx => by simp [blk] at hx; omega), hgw, swA, hrun, hrun2⟩
  case round =>
    obtain ⟨k, sh, s, g', hs, ao, co, hk, rfl, rfl, hsl, v, hsh, hS, hown, hbl, hgg, st, heq, heq2⟩ := hrel
    have hlt9 := hS.lt
    have ng' : NewB w g' := ⟨by omega⟩
    have og' : Old g' wr := ⟨hlt9.2.1⟩
    have opr : Old p wr := ⟨hlt9.1⟩
    have ap9 : Arg p wr := ⟨hlt9.1⟩
    have hv := v.nums
    have hown9 := ownsRow_blk hown
    by_cases hlt : k < l.length
    · have hi := hb.1 k hlt
      obtain ⟨sh', hs1, hs2⟩ := shGo_step hlt hsh.out
      obtain ⟨hok, hrest⟩ := fault_right hlt heq.out
      replace hs2 := hid hs2
      have v3 := Inv.step (loc := loc) v pa.sigs hi hs1
      obtain ⟨bx, ox, Gx, csx, rfl, hGx, hIx, hcx, hox⟩ := hvw.row hr rfl (by decide) k hlt
      have hI0x := hIx
      obtain ⟨rfl, rfl, i0x, i1x, i2x⟩ := ins_open hI0x
      have kex : Known w _ l[k] _ := ⟨hIx⟩
      have c0x := (hcx 0 _ rfl).1
      replace c0x : w.cell? ⟨bx, ox + k * 3, none⟩ = _ := c0x
      have c1x := (hcx 1 _ rfl).1
      replace c1x : w.cell? ⟨bx, ox + k * 3 + 1, none⟩ = _ := c1x
      have c2x := (hcx 2 _ rfl).1
      replace c2x : w.cell? ⟨bx, ox + k * 3 + 2, none⟩ = _ := c2x
      clear hcx
      obtain ⟨⟨cap, bx, own⟩, hne, hbp⟩ := id hS
      obtain ⟨⟨c0, c1, c2, c3⟩, -⟩ := sb_top own
      have hcap := sb_size own
      clear c0 c1 c2
      replace own := hid own
      have nbx1 : NotIn p (blk ao) := ⟨fun hx => (hbl p hx).1 rfl⟩
      have nby1 : NotIn g' (blk ao) := ⟨fun hx => (hbl g' hx).2.1 rfl⟩
      have nbi : NotIn wr.heap.size (blk ao) := ⟨fun hx => by have := (hown9 _ hx).2; omega⟩
      have sub1 : SubX w (blk ao) [] := ⟨fun x hx => .inr (by have := (hbl x hx).2.2; omega)⟩
      have hb9 : w.heap.size ≤ wr.heap.size := st.fr.size
      obtain ⟨x, hx⟩ : ∃ x, htC s = x := ⟨_, rfl⟩
      have el : (hs ++ [x]).length = hs.length + 1 := by simp
      cases hd : s.t.dead
      · skip
        have ex : htC s = s.h := by unfold htC; rw [hd]; rfl
        rw [ex] at hx
        subst hx
        replace ex := hid ex
        rw [hd] at c3
        replace hd := hid hd
        go_wp2_with fail
        refine rg_begin0 (n := 13) (by kernel_rfl) rfl fun rg0 => ?_
        refine rg_read (i := 0) (a1 := _) rfl (by kernel_rfl) rfl (by simp) (by intro wq hwq; go_wp2; exact ⟨rfl, rfl⟩) mkStep ?_
        refine rg_read (i := 1) (a1 := _) rfl (by kernel_rfl) rfl (by simp) (by intro wq hwq; go_wp2; exact ⟨rfl, rfl⟩) mkStep ?_
        refine rg_read (i := 2) (a1 := _) rfl (by kernel_rfl) rfl (by simp) (by intro wq hwq; go_wp2; exact ⟨rfl, rfl⟩) mkStep ?_
        refine rg_read (i := 3) (a1 := _) rfl (by kernel_rfl) rfl (by simp) (by intro wq hwq; go_wp2; exact ⟨rfl, rfl⟩) mkStep ?_
        refine rg_read (i := 4) (a1 := _) rfl (by kernel_rfl) rfl (by simp) (by intro wq hwq; go_wp2; exact ⟨rfl, rfl⟩) mkStep ?_
        refine rg_read (i := 5) (a1 := _) rfl (by kernel_rfl) rfl (by simp) (by intro wq hwq; go_wp2; exact ⟨rfl, rfl⟩) mkStep ?_
        refine rg_read (i := 6) (a1 := _) rfl (by kernel_rfl) rfl (by simp) (by intro wq hwq; go_wp2; exact ⟨rfl, rfl⟩) mkStep ?_
        refine rg_read (i := 7) (a1 := _) rfl (by kernel_rfl) rfl (by simp) (by intro wq hwq; go_wp2; exact ⟨rfl, rfl⟩) mkStep ?_
        refine rg_read (i := 8) (a1 := _) rfl (by kernel_rfl) rfl (by simp) (by intro wq hwq; go_wp2; exact ⟨rfl, rfl⟩) mkStep ?_
        refine rg_read (i := 9) (a1 := _) rfl (by kernel_rfl) rfl (by simp) (by intro wq hwq; go_wp2; exact ⟨rfl, rfl⟩) mkStep ?_
        refine rg_read (i := 10) (a1 := _) rfl (by kernel_rfl) rfl (by simp) (by intro wq hwq; go_wp2; exact ⟨rfl, rfl⟩) mkStep ?_
        refine rg_read (i := 11) (a1 := _) rfl (by kernel_rfl) rfl (by simp) (by intro wq hwq; go_wp2; exact ⟨rfl, rfl⟩) mkStep ?_
        refine rg_read (i := 12) (a1 := _) rfl (by kernel_rfl) rfl (by simp) (by intro wq hwq; go_wp2; exact ⟨rfl, rfl⟩) mkStep ?_
        refine rg_done (by kernel_rfl) ?_
        go_wp2_with (at_builtin; go_must (refine app_rowsB iv1 1 (fun _ => rfl) iv1_one rfl (.tmp 45) (.tmp 50) 45 rfl 3 (.int .i64 0) 8 Tryz.ints_tab w.heap.size ao hs.length co hs s.h rfl (iv1_own (own_keep hown)) (by simp; omega) (wr.heap.size + 1) 1 rfl (fun j u hj => by obtain ⟨rfl, rfl⟩ := iv1_at hj; exact ⟨by go_simp, by go_simp⟩) (by omega) ?_); intro ao1 co1 w3 hown1 sx1 hb1)
        have hg8 := sx1.fr.size
        simp at hg8
        have hown8 := ownsRow_blk hown1
        have hbl1 : ∀ y ∈ blk ao1, y ≠ p ∧ y ≠ g' ∧ w.heap.size + 1 ≤ y := fun y hy => by
          rcases hb1 y hy with h1 | h1
          · exact hbl y h1
          · simp at h1; exact ⟨by omega, by omega, by omega⟩
        have op3 : Old p w3 := ⟨by omega⟩
        with_reducible refine Calls.mono (sstep (s := s) m l[k] _ pa v (by omega) hR1 hi hs1) ?_
        rintro e w4 ⟨rfl, g3, b3, s3, e3, hS3, hg3, st3⟩
        rw [e3] at v3 hok hrest
        simp only at hok hrest
        subst hok
        have hS4 : SB w4 p w1.heap.size g3 M loc s3 false := hS3
        clear hS3
        have hz := hid hrest
        have hz2 := hid (heq2.out.trans (show _ = (hs ++ [s.h]) ++ heightsGo m loc R s3 (l.drop (k + 1)) by rw [heights_on hlt, e3, ex.out]; simp))
        replace e3 := hid e3
        clear hrest
        have own4 := hid (ownsRow_fr hown1 st3.fr (fun y hy => by have := hbl1 y hy; simp; omega))
        replace hown1 := hid hown1
        go_wp2
        go_roundw
        case rel =>
          refine ⟨k + 1, sh', s3, g3, hs ++ [s.h], ao1, co1, by omega, by go_num, by rw [el], by rw [el]; omega, v3, hs2, inferInstance, ?_, ?_, by omega, mkStep, hz, hz2⟩
          · rw [el, ← iv1_map]; exact own4.out
          · intro y hy
            have h1 := hbl1 y hy
            have h2 := (hown8 y hy).2
            exact ⟨h1.1, by omega, h1.2.2⟩
        case measure => simp [intOf]; omega
      · skip
        have ex : htC s = (-1) := by unfold htC; rw [hd]; rfl
        rw [ex] at hx
        subst hx
        replace ex := hid ex
        rw [hd] at c3
        replace hd := hid hd
        go_wp2_with fail
        refine rg_begin0 (n := 13) (by kernel_rfl) rfl fun rg0 => ?_
        refine rg_read (i := 0) (a1 := _) rfl (by kernel_rfl) rfl (by simp) (by intro wq hwq; go_wp2; exact ⟨rfl, rfl⟩) mkStep ?_
        refine rg_read (i := 1) (a1 := _) rfl (by kernel_rfl) rfl (by simp) (by intro wq hwq; go_wp2; exact ⟨rfl, rfl⟩) mkStep ?_
        refine rg_read (i := 2) (a1 := _) rfl (by kernel_rfl) rfl (by simp) (by intro wq hwq; go_wp2; exact ⟨rfl, rfl⟩) mkStep ?_
        refine rg_read (i := 3) (a1 := _) rfl (by kernel_rfl) rfl (by simp) (by intro wq hwq; go_wp2; exact ⟨rfl, rfl⟩) mkStep ?_
        refine rg_read (i := 4) (a1 := _) rfl (by kernel_rfl) rfl (by simp) (by intro wq hwq; go_wp2; exact ⟨rfl, rfl⟩) mkStep ?_
        refine rg_read (i := 5) (a1 := _) rfl (by kernel_rfl) rfl (by simp) (by intro wq hwq; go_wp2; exact ⟨rfl, rfl⟩) mkStep ?_
        refine rg_read (i := 6) (a1 := _) rfl (by kernel_rfl) rfl (by simp) (by intro wq hwq; go_wp2; exact ⟨rfl, rfl⟩) mkStep ?_
        refine rg_read (i := 7) (a1 := _) rfl (by kernel_rfl) rfl (by simp) (by intro wq hwq; go_wp2; exact ⟨rfl, rfl⟩) mkStep ?_
        refine rg_read (i := 8) (a1 := _) rfl (by kernel_rfl) rfl (by simp) (by intro wq hwq; go_wp2; exact ⟨rfl, rfl⟩) mkStep ?_
        refine rg_read (i := 9) (a1 := _) rfl (by kernel_rfl) rfl (by simp) (by intro wq hwq; go_wp2; exact ⟨rfl, rfl⟩) mkStep ?_
        refine rg_read (i := 10) (a1 := _) rfl (by kernel_rfl) rfl (by simp) (by intro wq hwq; go_wp2; exact ⟨rfl, rfl⟩) mkStep ?_
        refine rg_read (i := 11) (a1 := _) rfl (by kernel_rfl) rfl (by simp) (by intro wq hwq; go_wp2; exact ⟨rfl, rfl⟩) mkStep ?_
        refine rg_read (i := 12) (a1 := _) rfl (by kernel_rfl) rfl (by simp) (by intro wq hwq; go_wp2; exact ⟨rfl, rfl⟩) mkStep ?_
        refine rg_done (by kernel_rfl) ?_
        go_wp2_with (at_builtin; go_must (refine app_rowsB iv1 1 (fun _ => rfl) iv1_one rfl (.tmp 42) (.tmp 43) 45 rfl 3 (.int .i64 0) 8 Tryz.ints_tab w.heap.size ao hs.length co hs (-1) rfl (iv1_own (own_keep hown)) (by simp; omega) (wr.heap.size + 1) 1 rfl (fun j u hj => by obtain ⟨rfl, rfl⟩ := iv1_at hj; exact ⟨by go_simp, by go_simp⟩) (by omega) ?_); intro ao1 co1 w3 hown1 sx1 hb1)
        have hg8 := sx1.fr.size
        simp at hg8
        have hown8 := ownsRow_blk hown1
        have hbl1 : ∀ y ∈ blk ao1, y ≠ p ∧ y ≠ g' ∧ w.heap.size + 1 ≤ y := fun y hy => by
          rcases hb1 y hy with h1 | h1
          · exact hbl y h1
          · simp at h1; exact ⟨by omega, by omega, by omega⟩
        have op3 : Old p w3 := ⟨by omega⟩
        with_reducible refine Calls.mono (sstep (s := s) m l[k] _ pa v (by omega) hR1 hi hs1) ?_
        rintro e w4 ⟨rfl, g3, b3, s3, e3, hS3, hg3, st3⟩
        rw [e3] at v3 hok hrest
        simp only at hok hrest
        subst hok
        have hS4 : SB w4 p w1.heap.size g3 M loc s3 false := hS3
        clear hS3
        have hz := hid hrest
        have hz2 := hid (heq2.out.trans (show _ = (hs ++ [(-1)]) ++ heightsGo m loc R s3 (l.drop (k + 1)) by rw [heights_on hlt, e3, ex.out]; simp))
        replace e3 := hid e3
        clear hrest
        have own4 := hid (ownsRow_fr hown1 st3.fr (fun y hy => by have := hbl1 y hy; simp; omega))
        replace hown1 := hid hown1
        go_wp2
        go_roundw
        case rel =>
          refine ⟨k + 1, sh', s3, g3, hs ++ [(-1)], ao1, co1, by omega, by go_num, by rw [el], by rw [el]; omega, v3, hs2, inferInstance, ?_, ?_, by omega, mkStep, hz, hz2⟩
          · rw [el, ← iv1_map]; exact own4.out
          · intro y hy
            have h1 := hbl1 y hy
            have h2 := (hown8 y hy).2
            exact ⟨h1.1, by omega, h1.2.2⟩
        case measure => simp [intOf]; omega
    · have hz2 := hid (heq2.out.trans (show _ = hs by rw [List.drop_of_length_le (by omega)]; exact List.append_nil _))
      have kb1 : Known wr (if hs = [] then [] else blk ao) hs [.slice ao hs.length co] := ⟨ints_shut (ownsRow_view hown) (fun n hn => by have := hin.1 n (by rw [hz2.out]; exact hn); unfold In64; omega) (ownsRow_cap hown)⟩
      have nbk : NewF w (if hs = [] then [] else blk ao) := ⟨by
        split
        · exact New.nil _
        · refine ⟨?_, fun b hb => by have := (hbl b hb).2.2; omega⟩
          cases ao <;> simp [blk]⟩
      replace hown := hid hown
      go_wp2
      go_ret2
      rw [hz2.out]
      exact ⟨ao, co, _, rfl, kb1, nbk, mkStep⟩
end Go.Proofs.YtfddmelikahfbaaGreatDoor
namespace Go.Proofs.YtfddmelikahfbaaGreatDoor
attribute [local go_sem ↓] Go.wp_at_zero Go.wp_at_succ
open Go.RowKit
open Rep (Is sz)

set_option maxRecDepth 10000 in
set_option maxHeartbeats 2000000 in
theorem smax {F : List Nat} {cs : List Value} (m : ModuleD) (i : Int) (w : World) (hz : moduleCost m ≤ 1048576) [hm : Shows w F m cs] :
    Calls Tryz.prog 12 #[.agg cs.toArray, .int .i64 i] w fun e w' => e = .returned (.int .i64 (maxS m i)) ∧ Step w w' := by
  have kk := hm.known
  obtain ⟨a1, k1, a2, k2, a3, k3, a4, k4, a5, k5, a6, k6, F1, F2, F3, F4, F5, F6, rfl, rfl, h1, h2, h3, h4, h5, h6, i3, i4⟩ := module_open hm.is
  clear hm
  have hin := stack_in (m := m) (i := i)
  go_enter Tryz.func12, Tryz.ntmps12
  go_wp2_with fail
  with_reducible refine Calls.mono (sstack m i _ hz) ?_
  rintro e w1 ⟨a, c, G, rfl, kn, nw, st1⟩
  cases hb : stackB m i
  · have r := hid (show maxS m i = -1 by unfold maxS; rw [hb]; rfl)
    go_wp2
    go_ret
    exact ⟨by rw [r.out]; rfl, mkStep⟩
  · obtain ⟨l, hl⟩ : ∃ l, stackL m i = l := ⟨_, rfl⟩
    have r := hid (show maxS m i = maxL l by unfold maxS; rw [hb, hl]; rfl)
    rw [hl] at hin kn
    simp only [hl]
    replace hl := hid hl
    obtain ⟨_, _, hv, _, hvw, hIn, hml⟩ := ints_open kn.is
    cases hv
    unfold maxLen at hml
    go_wp2_with fail
    refine wp_name ?_
    intro A sA
    go_loopw [7, 20] (fun x i wr => ∃ (k : Nat) (y : Int), k ≤ l.length ∧ i = .int .i64 k ∧ x = .int .i64 y ∧ 0 ≤ y ∧ y ≤ 1500 ∧ Hid (y = maxL (l.take k)) ∧ Step A wr) (fun _ i _ => l.length - (intOf i).toNat)
    case atStart => exact ⟨0, 0, by omega, rfl, rfl, by omega, by omega, rfl, mkStep⟩
    case round =>
      obtain ⟨k, y, hk, rfl, rfl, hy0, hy1, hy, st⟩ := hrel
      by_cases hlt : k < l.length
      · obtain ⟨b, o, rfl, hc, _, ho⟩ := hvw.get k hlt (.int .i64 l[k]) (by simp [intVs, hlt])
        have hxb := hin.1 _ (List.getElem_mem hlt)
        have hq := hid (show max y l[k] = maxL (l.take (k + 1)) by rw [maxL_snoc l k hlt, hy.out])
        by_cases hg : y < l[k]
        · have hq2 := hid (show l[k] = maxL (l.take (k + 1)) by rw [← hq.out]; omega)
          go_wp2
          go_roundw
          case rel => exact ⟨k + 1, l[k], by omega, by go_num, rfl, by omega, by omega, hq2, mkStep⟩
          case measure => simp [intOf]; omega
        · have hq2 := hid (show y = maxL (l.take (k + 1)) by rw [← hq.out]; omega)
          go_wp2
          go_roundw
          case rel => exact ⟨k + 1, y, by omega, by go_num, rfl, by omega, by omega, hq2, mkStep⟩
          case measure => simp [intOf]; omega
      · have hq := hid (show y = maxL l by rw [hy.out, List.take_of_length_le (by omega)])
        go_wp2
        go_ret
        exact ⟨by rw [r.out, ← hq.out]; rfl, mkStep⟩
end Go.Proofs.YtfddmelikahfbaaGreatDoor
namespace Go.Proofs.YtfddmelikahfbaaGreatDoor
attribute [local go_sem ↓] Go.wp_at_zero Go.wp_at_succ
open Go.RowKit Go.ChangeShapes Go.WideShapes
open Rep (Is sz)

set_option maxRecDepth 100000 in
theorem FnExactMaxStack_u8 {W : World} (h : laidMetH Tryz.prog Rows.fnExactMaxStackRow.laid W) : U8 W := by
  rw [MakeChecks.laidMetH_plain _ _ _ (by kernel_rfl)] at h
  have e1 : Rows.laid_unicode_utf8_first = Lib.firstData := by kernel_rfl
  have e2 : Rows.laid_unicode_utf8_acceptRanges = Lib.acceptData := by kernel_rfl
  exact u8_of (e1 ▸ Lib.laidMet.reads h (d := Rows.laid_unicode_utf8_first) (.tail _ (.head _))) (e2 ▸ Lib.laidMet.reads h (d := Rows.laid_unicode_utf8_acceptRanges) (.head _))
set_option maxRecDepth 10000 in
set_option maxHeartbeats 4000000 in
theorem FnExactMaxStack_walk {H : Type} {enc : TypeId × Value → H} (W : World) (base : Nat) {d0 : DataW H} {p0 : List MemPlace} {d1 : DataW H} {p1 : List MemPlace} (v0 : Value)
    (k0 : Value.okWide Tryz.prog W .any base 29 v0) (h0 : DataW.Trod enc Tryz.prog W 0 (fun _ => true) true 29 v0 d0 p0) (n0 : W.noneFrozen p0)
    (v1 : Value) (k1 : Value.okWide Tryz.prog W .any base 3 v1) (h1 : DataW.Trod enc Tryz.prog W 0 (fun _ => true) true 3 v1 d1 p1)
    (hL : laidMetH Tryz.prog Rows.fnExactMaxStackRow.laid W) :
    Calls Tryz.prog 4 #[v0, v1] W fun e W' => e = .returned (.bool true) ∧ Fr [] W W' := by
  obtain ⟨m, F, cs, rfl, hI⟩ := opens_module.argR Tryz.underlying29 k0 h0 n0
  obtain ⟨op, rfl, rfl, rfl, hop⟩ := open_int Tryz.underlying3 k1 h1
  have kr : Known W F m cs := ⟨hI⟩
  have kU : KnownU8 W := ⟨FnExactMaxStack_u8 hL⟩
  clear k0 h0 n0 k1 h1 hL
  obtain ⟨a1, k1, a2, k2, a3, k3, a4, k4, a5, k5, a6, k6, F1, F2, F3, F4, F5, F6, rfl, rfl, h1, h2, h3, h4, h5, h6, i3, i4⟩ := module_open hI
  clear hI
  go_enter Tryz.func4, Tryz.ntmps4
  by_cases s1 : (1048576 : Int) - (moduleCost m : Nat) < 0
  · have l1 := left0_neg s1
    go_wp2_with (first | (go_at_call 7; (with_reducible refine Calls.mono (szModule _ _ _ (by omega) (by omega)) ?_); rintro e wk ⟨rfl, st⟩))
    go_ret
    exact ⟨rfl, mkFr⟩
  have l1 := left0_pos s1
  have z : moduleCost m ≤ 1048576 := by omega
  go_wp2_with (first | (go_at_call 7; (with_reducible refine Calls.mono (szModule _ _ _ (by omega) (by omega)) ?_); rintro e wk ⟨rfl, st⟩) | (go_at_call 9; (with_reducible refine Calls.mono (toModule _ _ (by assumption)) ?_); rintro e wk ⟨b1, m1, b2, m2, b3, m3, b4, m4, b5, m5, b6, m6, G, rfl, kn, nw, st⟩) | (go_at_call 12; (with_reducible refine Calls.mono (smax _ _ _ (by assumption)) ?_); rintro e wk ⟨rfl, st⟩) | (go_at_call 13; (with_reducible refine Calls.mono (imax _ _ _ (by assumption)) ?_); rintro e wk ⟨rfl, st⟩))
  refine rg_begin0 (n := 5) (by kernel_rfl) rfl fun rg0 => ?_
  refine rg_read (i := 0) (a1 := _) rfl (by kernel_rfl) rfl (by simp) (by intro wq hwq; go_wp2; exact ⟨rfl, rfl⟩) mkStep ?_
  refine rg_read (i := 1) (a1 := _) rfl (by kernel_rfl) rfl (by simp) (by intro wq hwq; go_wp2; exact ⟨rfl, rfl⟩) mkStep ?_
  refine rg_eff (i := 2) rfl (by kernel_rfl) ?_
  simp only [List.getElem_toArray, List.getElem_cons_succ, List.getElem_cons_zero]
  go_wp2_with (first | (go_at_call 9; (with_reducible refine Calls.mono (toModule _ _ (by assumption)) ?_); rintro e wk ⟨b1, m1, b2, m2, b3, m3, b4, m4, b5, m5, b6, m6, G, rfl, kn, nw, st⟩) | (go_at_call 11; (with_reducible refine Calls.mono (eqModule ..) ?_); rintro e wk ⟨rfl, st⟩))
  refine ⟨mkStep, ?_⟩
  refine rg_eff (i := 3) rfl (by kernel_rfl) ?_
  simp only [List.getElem_toArray, List.getElem_cons_succ, List.getElem_cons_zero]
  go_wp2_with (first | (go_at_call 9; (with_reducible refine Calls.mono (toModule _ _ (by assumption)) ?_); rintro e wk ⟨b1, m1, b2, m2, b3, m3, b4, m4, b5, m5, b6, m6, G, rfl, kn, nw, st⟩) | (go_at_call 11; (with_reducible refine Calls.mono (eqModule ..) ?_); rintro e wk ⟨rfl, st⟩))
  refine ⟨mkStep, ?_⟩
  refine rg_read (i := 4) (a1 := _) rfl (by kernel_rfl) rfl (by simp) (by intro wq hwq; go_wp2; exact ⟨rfl, rfl⟩) mkStep ?_
  refine rg_done (by kernel_rfl) ?_
  go_wp2_with (first | (go_at_call 11; (with_reducible refine Calls.mono (eqModule ..) ?_); rintro e wk ⟨rfl, st⟩))
  go_ret
  exact ⟨rfl, mkFr⟩
end Go.Proofs.YtfddmelikahfbaaGreatDoor
