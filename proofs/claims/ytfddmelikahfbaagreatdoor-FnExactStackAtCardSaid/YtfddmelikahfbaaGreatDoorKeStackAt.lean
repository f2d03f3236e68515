/- Contracts: StackAt and MaxStack, both sides. Contracts: StackAt and MaxStack, spec's side. Contracts: a module's parts written over by the laws' marks: that they return, and what they write. Footprints apart, for the laws' walks. Contracts: a module written over by the laws' marks; rows of numbers marked and held. The walk of FnExactStackAt. -/
import Derived.Test.YtfddmelikahfbaaGreatDoorKd
import Derived.Test.YtfddmelikahfbaaGreatDoorGModule
import Derived.Test.YtfddmelikahfbaaGreatDoorInsS
import Derived.Test.YtfddmelikahfbaaGreatDoorBytes
import Derived.Test.YtfddmelikahfbaaGreatDoorNum
import Derived.Test.YtfddmelikahfbaaGreatDoorMut
import Derived.MakeChecks
namespace Go.Proofs.YtfddmelikahfbaaGreatDoor
attribute [local go_sem ↓] Go.wp_at_zero Go.wp_at_succ
open Go.RowKit
open Rep (Is sz)

theorem heights_in {m : ModuleD} {loc R : Int} (hm : ∀ x ∈ m.sigs, SigP x) : ∀ (l : List InsD) (s : ChkS) (sh : List Bool) (K : Nat), Inv R K sh s → (∀ x ∈ l, insOk x = true) → shGo sh l = true → ∀ n ∈ heightsGo m loc R s l, -1 ≤ n ∧ n ≤ (K : Int) + l.length
  | [], _, _, _, _, _, _, n, hn => by cases hn
  | i :: r, s, sh, K, v, hi, hs, n, hn => by
    have hv := v.nums
    rcases List.mem_cons.1 hn with rfl | hn
    · unfold htC
      split
      · simp only [List.length_cons]; omega
      · simp only [List.length_cons]; omega
    · unfold shGo at hs
      cases hq : shStep sh i.op with
      | none => rw [hq] at hs; cases hs
      | some t =>
        rw [hq] at hs
        have := heights_in hm r _ t (K + 1) (Inv.step (loc := loc) v hm (hi i List.mem_cons_self) hq) (fun x hx => hi x (List.mem_cons_of_mem _ hx)) hs n hn
        simp only [List.length_cons]
        omega
theorem heights_len {m : ModuleD} {loc R : Int} : ∀ (l : List InsD) (s : ChkS), (heightsGo m loc R s l).length = l.length
  | [], _ => rfl
  | _ :: r, _ => by
    show (heightsGo m loc R _ r).length + 1 = r.length + 1
    rw [heights_len r]
theorem sg_ok {m : ModuleD} (pa : PartsP m) {i : Nat} (hi : i < m.funcs.length) : SigP (sgC m i) := by
  have pf := pa.fns _ (List.getElem_mem hi)
  unfold sgC
  rw [fnC_at hi]
  have := pf.s0
  have := pf.s1
  rw [getD_in _ (show m.funcs[i].sig.toNat < m.sigs.length by omega)]
  exact pa.sigs _ (List.getElem_mem _)
theorem heightsF_in {m : ModuleD} (pa : PartsP m) {i : Nat} (hi : i < m.funcs.length) : (∀ n ∈ heightsF m i, -1 ≤ n ∧ n ≤ 1500) ∧ (heightsF m i).length ≤ 1500 := by
  have pf := pa.fns _ (List.getElem_mem hi)
  have hb := bodyB_at pf.bd
  have ef := fnC_at hi
  have ps := sg_ok pa hi
  refine ⟨fun n hn => ?_, ?_⟩
  · unfold heightsF at hn
    rw [ef] at hn
    have := heights_in pa.sigs m.funcs[i].body _ [] 0 (Inv.start ⟨ps.r0, ps.r1⟩) (fun x hx => by obtain ⟨k, hk, rfl⟩ := List.getElem_of_mem hx; exact hb.1 k hk) hb.2.2 n hn
    omega
  · unfold heightsF
    rw [heights_len, ef]
    exact hb.2.1

noncomputable def stackL (m : ModuleD) (i : Int) : List Int := if faultAt m i = -1 then heightsF m i.toNat else []
noncomputable def stackB (m : ModuleD) (i : Int) : Bool := decide (faultAt m i = -1)
theorem stack_no {m : ModuleD} {i : Int} (h : ¬ faultAt m i = -1) : stackL m i = [] ∧ stackB m i = false := ⟨if_neg h, decide_eq_false h⟩
theorem fault_in {m : ModuleD} {i : Int} (h : faultAt m i = -1) : ∃ k : Nat, i = (k : Int) ∧ FormP m ∧ k < m.funcs.length ∧ faultF m k = -1 ∧ stackL m i = heightsF m k ∧ stackB m i = true := by
  by_cases hc : ¬ FormP m ∨ i < 0 ∨ (m.funcs.length : Int) ≤ i
  · rw [faultAt_no hc] at h; cases h
  · have fo : FormP m := Classical.not_not.1 (fun h => hc (.inl h))
    obtain ⟨k, rfl⟩ := Int.eq_ofNat_of_zero_le (a := i) (by omega)
    have hk : k < m.funcs.length := by omega
    have h2 := h
    rw [faultAt_yes fo hk] at h2
    exact ⟨k, rfl, fo, hk, h2, by unfold stackL; rw [if_pos h, Int.toNat_natCast], decide_eq_true h⟩
theorem stack_in {m : ModuleD} {i : Int} : (∀ n ∈ stackL m i, -1 ≤ n ∧ n ≤ 1500) ∧ (stackL m i).length ≤ 1500 := by
  by_cases h : faultAt m i = -1
  · obtain ⟨k, rfl, fo, hk, -, e, -⟩ := fault_in h
    rw [e]; exact heightsF_in fo.pa hk
  · rw [(stack_no h).1]; simp

set_option maxRecDepth 10000 in
set_option maxHeartbeats 2000000 in
theorem istack {F : List Nat} {cs : List Value} (m : ModuleD) (i : Int) (w : World) (hz : moduleCost m ≤ 1048576) [hm : Shows w F m cs] [hU : HasU8 w] :
    Calls Tryz.prog 17 #[.agg cs.toArray, .int .i64 i] w fun e w' => ∃ a c G, e = .returned (.tuple #[.slice a (stackL m i).length c, .bool (stackB m i)]) ∧ Known w' G (stackL m i) [.slice a (stackL m i).length c] ∧ NewF w G ∧ Step w w' := by
  have kk := hm.known
  have ku := hU.known
  have hH0 := fun (pa : PartsP m) (g0 : -1 ≤ m.pages) (i0 : Nat) (h : i0 < m.funcs.length) (w' : World) (hh : Shows w' F m cs) => iheights m i0 w' pa g0 h (hm := hh)
  obtain ⟨a1, k1, a2, k2, a3, k3, a4, k4, a5, k5, a6, k6, F1, F2, F3, F4, F5, F6, rfl, rfl, h1, h2, h3, h4, h5, h6, i3, i4⟩ := module_open hm.is
  clear hm hU
  by_cases hf : faultAt m i = -1
  · obtain ⟨k, rfl, fo, hk, hff, e1, e2⟩ := fault_in hf
    have hin := heightsF_in fo.pa hk
    rw [e1, e2]
    have hn : ((-1 : Int) != -1) = false := rfl
    have hH := hH0 fo.pa fo.g0 k hk
    replace e1 := hid e1
    replace e2 := hid e2
    go_enter Tryz.func17, Tryz.ntmps17
    go_wp2_with fail
    with_reducible refine Calls.mono (ifault m (k : Int) _ hz) ?_
    rintro e w1 ⟨rfl, st1⟩
    rw [hf]
    replace hf := hid hf
    go_wp2_with fail
    with_reducible refine Calls.mono (hH _ inferInstance) ?_
    rintro e w2 ⟨v, rfl, st2, hv2⟩
    obtain ⟨a, c, rfl, own⟩ := hv2 hff
    replace hff := hid hff
    have kb : Known w2 (if heightsF m k = [] then [] else blk a) (heightsF m k) [.slice a (heightsF m k).length c] := ⟨ints_shut (ownsRow_view own) (fun n hn => by have := hin.1 n hn; unfold In64; omega) (ownsRow_cap own)⟩
    have hgr := st1.fr.size
    have nbk : NewF w (if heightsF m k = [] then [] else blk a) := ⟨by
      split
      · exact New.nil _
      · refine ⟨?_, fun b hb => by have := (ownsRow_blk own b hb).1; simp at hgr; omega⟩
        cases a <;> simp [blk]⟩
    replace own := hid own
    go_wp2
    go_ret2
    exact ⟨a, c, _, rfl, kb, nbk, mkStep⟩
  · obtain ⟨e1, e2⟩ := stack_no hf
    have hn : (faultAt m i != -1) = true := by simpa using hf
    rw [e1, e2]
    go_enter Tryz.func17, Tryz.ntmps17
    go_wp2_with fail
    with_reducible refine Calls.mono (ifault m i _ hz) ?_
    rintro e w1 ⟨rfl, st1⟩
    replace hf := hid hf
    replace e1 := hid e1
    replace e2 := hid e2
    go_wp2
    go_ret2
    exact ⟨none, 0, [], rfl, ⟨ints_shut (l := []) (View.nil _ _ _) (by simp) (by simp)⟩, newf_nil _, mkStep⟩

def maxL (l : List Int) : Int := l.foldl max 0
theorem maxL_snoc (l : List Int) (k : Nat) (h : k < l.length) : maxL (l.take (k + 1)) = max (maxL (l.take k)) l[k] := by
  unfold maxL
  rw [List.take_succ_eq_append_getElem h, List.foldl_append]
  rfl
theorem maxL_in (l : List Int) (hl : ∀ n ∈ l, -1 ≤ n ∧ n ≤ 1500) : 0 ≤ maxL l ∧ maxL l ≤ 1500 := by
  have : ∀ (l : List Int) (x : Int), 0 ≤ x → x ≤ 1500 → (∀ n ∈ l, -1 ≤ n ∧ n ≤ 1500) → 0 ≤ l.foldl max x ∧ l.foldl max x ≤ 1500 := by
    intro l
    induction l with
    | nil => intro x h0 h1 _; exact ⟨h0, h1⟩
    | cons y l ih =>
      intro x h0 h1 h2
      have := h2 y List.mem_cons_self
      exact ih (max x y) (by omega) (by omega) (fun n hn => h2 n (List.mem_cons_of_mem _ hn))
  exact this l 0 (by omega) (by omega) hl
noncomputable def maxS (m : ModuleD) (i : Int) : Int := if stackB m i = true then maxL (stackL m i) else -1

set_option maxRecDepth 10000 in
set_option maxHeartbeats 2000000 in
theorem imax {F : List Nat} {cs : List Value} (m : ModuleD) (i : Int) (w : World) (hz : moduleCost m ≤ 1048576) [hm : Shows w F m cs] [hU : HasU8 w] :
    Calls Tryz.prog 13 #[.agg cs.toArray, .int .i64 i] w fun e w' => e = .returned (.int .i64 (maxS m i)) ∧ Step w w' := by
  have kk := hm.known
  have ku := hU.known
  obtain ⟨a1, k1, a2, k2, a3, k3, a4, k4, a5, k5, a6, k6, F1, F2, F3, F4, F5, F6, rfl, rfl, h1, h2, h3, h4, h5, h6, i3, i4⟩ := module_open hm.is
  clear hm hU
  have hin := stack_in (m := m) (i := i)
  go_enter Tryz.func13, Tryz.ntmps13
  go_wp2_with fail
  with_reducible refine Calls.mono (istack m i _ hz) ?_
  rintro e w1 ⟨a, c, G, rfl, kn, nw, st1⟩
  cases hb : stackB m i
  · have r := hid (show maxS m i = -1 by unfold maxS; rw [hb]; rfl)
    go_wp2
    go_ret
    exact ⟨by rw [r.out]; rfl, mkStep⟩
  · obtain ⟨l, hl⟩ : ∃ l, stackL m i = l := ⟨_, rfl⟩
    have r := hid (show maxS m i = maxL l by unfold maxS; rw [hb, hl]; rfl)
    rw [hl] at hin kn
    simp only [hl]
    replace hl := hid hl
    obtain ⟨_, _, hv, _, hvw, hIn, hml⟩ := ints_open kn.is
    cases hv
    unfold maxLen at hml
    go_wp2_with fail
    refine wp_name ?_
    intro A sA
    go_loopw [7, 20] (fun x i wr => ∃ (k : Nat) (y : Int), k ≤ l.length ∧ i = .int .i64 k ∧ x = .int .i64 y ∧ 0 ≤ y ∧ y ≤ 1500 ∧ Hid (y = maxL (l.take k)) ∧ Step A wr) (fun _ i _ => l.length - (intOf i).toNat)
    case atStart => exact ⟨0, 0, by omega, rfl, rfl, by omega, by omega, rfl, mkStep⟩
    case round =>
      obtain ⟨k, y, hk, rfl, rfl, hy0, hy1, hy, st⟩ := hrel
      by_cases hlt : k < l.length
      · obtain ⟨b, o, rfl, hc, _, ho⟩ := hvw.get k hlt (.int .i64 l[k]) (by simp [intVs, hlt])
        have hxb := hin.1 _ (List.getElem_mem hlt)
        have hq := hid (show max y l[k] = maxL (l.take (k + 1)) by rw [maxL_snoc l k hlt, hy.out])
        go_wp2
        go_roundw
        case rel => exact ⟨k + 1, max y l[k], by omega, by go_num, rfl, by omega, by omega, hq, mkStep⟩
        case measure => simp [intOf]; omega
      · have hq := hid (show y = maxL l by rw [hy.out, List.take_of_length_le (by omega)])
        go_wp2
        go_ret
        exact ⟨by rw [r.out, ← hq.out]; rfl, mkStep⟩
end Go.Proofs.YtfddmelikahfbaaGreatDoor
namespace Go.Proofs.YtfddmelikahfbaaGreatDoor
attribute [local go_sem ↓] Go.wp_at_zero Go.wp_at_succ
open Go.RowKit
open Rep (Is sz)

set_option maxRecDepth 10000 in
set_option maxHeartbeats 4000000 in
theorem sstack {F : List Nat} {cs : List Value} (m : ModuleD) (i : Int) (w : World) (hz : moduleCost m ≤ 1048576) [hm : Shows w F m cs] :
    Calls Tryz.prog 16 #[.agg cs.toArray, .int .i64 i] w fun e w' => ∃ a c G, e = .returned (.tuple #[.slice a (stackL m i).length c, .bool (stackB m i)]) ∧ Known w' G (stackL m i) [.slice a (stackL m i).length c] ∧ NewF w G ∧ Step w w' := by
  have kk := hm.known
  have hB0 := fun (pa : PartsP m) (i0 : Nat) (h : i0 < m.funcs.length) (w' : World) (hh : Shows w' F m cs) => sbegin m i0 w' pa h (hm := hh)
  obtain ⟨a1, k1, a2, k2, a3, k3, a4, k4, a5, k5, a6, k6, F1, F2, F3, F4, F5, F6, rfl, rfl, h1, h2, h3, h4, h5, h6, i3, i4⟩ := module_open hm.is
  clear hm
  by_cases hf : faultAt m i = -1
  rotate_left
  · obtain ⟨e1, e2⟩ := stack_no hf
    have hn : (faultAt m i != -1) = true := by simpa using hf
    rw [e1, e2]
    go_enter Tryz.func16, Tryz.ntmps16
    go_wp2_with fail
    with_reducible refine Calls.mono (sfault m i _ hz) ?_
    rintro e w1 ⟨rfl, st1⟩
    replace hf := hid hf
    replace e1 := hid e1
    replace e2 := hid e2
    go_wp2
    go_ret2
    exact ⟨none, 0, [], rfl, ⟨ints_shut (l := []) (View.nil _ _ _) (by simp) (by simp)⟩, newf_nil _, mkStep⟩
  obtain ⟨i0, rfl, fo, hi2, hff, e1, e2⟩ := fault_in hf
  have pa := fo.pa
  have hin := heightsF_in pa hi2
  rw [e1, e2]
  obtain ⟨_, _, cl3, FF3, hv, _, hvw3, hr3, hml3⟩ := list_open h3
  cases hv
  unfold maxLen at hml3
  have pf := pa.fns _ (List.getElem_mem hi2)
  have ef := fnC_at hi2
  have hb := bodyB_at pf.bd
  have ps := sg_ok pa hi2
  obtain ⟨be, oe, Ge, cse, rfl, hGe, hIe, hce, hoe⟩ := hvw3.row hr3 rfl (by decide) i0 hi2
  have hI0e := hIe
  obtain ⟨a1e, k1e, F1e, rfl, rfl, h1e, i0e, i1e⟩ := func_open hI0e
  have kee : Known w _ m.funcs[i0] _ := ⟨hIe⟩
  have c0e := (hce 0 _ rfl).1
  replace c0e : w.cell? ⟨be, oe + i0 * 3, none⟩ = _ := c0e
  have c1e := (hce 1 _ rfl).1
  replace c1e : w.cell? ⟨be, oe + i0 * 3 + 1, none⟩ = _ := c1e
  have c2e := (hce 2 _ rfl).1
  replace c2e : w.cell? ⟨be, oe + i0 * 3 + 2, none⟩ = _ := c2e
  clear hce
  have kb : Known w F1e m.funcs[i0].body [.slice a1e m.funcs[i0].body.length k1e] := ⟨h1e⟩
  obtain ⟨_, _, cl, FF, hv, _, hvw, hr, hml⟩ := list_open h1e
  cases hv
  unfold maxLen at hml
  obtain ⟨l, hl⟩ : ∃ l, m.funcs[i0].body = l := ⟨_, rfl⟩
  obtain ⟨hF, hhF⟩ : ∃ x, heightsF m i0 = x := ⟨_, rfl⟩
  have hrun : faultF m i0 = faultGo m (locC m i0) (sgC m i0).results (startC (sgC m i0).results) l 0 := by unfold faultF; rw [ef, hl]
  have hrun2 : hF = heightsGo m (locC m i0) (sgC m i0).results (startC (sgC m i0).results) l := by rw [← hhF]; unfold heightsF; rw [ef, hl]
  rw [hhF] at hin ⊢
  rw [hl] at hb c2e kb hvw hr hml
  clear hl ef pf h1e hIe hI0e kee
  obtain ⟨loc, hloc⟩ : ∃ loc, locC m i0 = loc := ⟨_, rfl⟩
  obtain ⟨R, hR⟩ : ∃ R, (sgC m i0).results = R := ⟨_, rfl⟩
  have hR1 : 0 ≤ R ∧ R ≤ 1 := by rw [← hR]; exact ⟨ps.r0, ps.r1⟩
  have hB := hB0 pa i0 hi2
  rw [hloc, hR] at hrun hrun2 hB
  replace hrun := hid (hrun.symm.trans hff)
  replace hrun2 := hid hrun2
  replace e1 := hid e1
  replace e2 := hid e2
  replace hff := hid hff
  replace hhF := hid hhF
  clear ps hR hloc hB0
  have hn : ((-1 : Int) != -1) = false := rfl
  go_enter Tryz.func16, Tryz.ntmps16
  go_wp2_with fail
  with_reducible refine Calls.mono (sfault m (i0 : Int) _ hz) ?_
  rintro e w1 ⟨rfl, st1⟩
  rw [hf]
  replace hf := hid hf
  go_wp2_with fail
  with_reducible refine Calls.mono (hB _ inferInstance) ?_
  rintro e w2 ⟨p, g, M, rfl, hM0, hS2, st2⟩
  have hM := hid hM0
  clear hM0
  have hp2 := hS2.bp
  have hg2 := hS2.lt
  have hgr := st1.fr.size
  have hgr2 := st2.fr.size
  have np : NewB w p := ⟨by simp at hgr; omega⟩
  have hgw : w.heap.size + 1 ≤ g := by simp at hgr; omega
  have nbx : NeB w.heap.size p := ⟨by simp at hgr; omega⟩
  have nby : NeB w.heap.size g := ⟨by omega⟩
  have nbe : NeB be p := ⟨by have := hoe.lt; have := np.le; omega⟩
  have hpw : w.heap.size + 1 ≤ p := by simp at hgr; omega
  rw [hM.out] at kk
  have aF : Apart (F1 ++ F2 ++ F3 ++ F4 ++ F5 ++ F6) [p] := ⟨fun x hx => by have := Rep.lt kk.is x hx; have := np.le; simp; omega⟩
  clear hB hp2
  simp at hgr
  go_wp2_with fail
  refine wp_name ?_
  intro A sA
  have hA := sA.fr.size
  simp at hA
  have own0 : A.ownsRow w.heap.size 3 1 (.slice (some ⟨w2.heap.size, 0, none⟩) 0 0) 0 ([].map fun n => .int .i64 n) := ownsRow_fr (own_litAt rfl rfl (by omega) (by decide) rfl) sA.fr (by simp)
  have sbA : SB A p w1.heap.size g M loc (startC R) false := inferInstance
  have swA : Step w A := mkStep
  have hgA : w2.heap.size < A.heap.size := by omega
  clear sA
  go_loopw [7, 25] (fun o i wr => ∃ (k : Nat) (sh : List Bool) (s : ChkS) (g' : Nat) (hs : List Int) (ao : Option Addr) (co : Nat), k ≤ l.length ∧ i = .int .i64 k ∧ o = .slice ao hs.length co ∧ hs.length ≤ k ∧ Inv R k sh s ∧ Hid (shGo sh (l.drop k) = true) ∧ SB wr p w1.heap.size g' M loc s false ∧ wr.ownsRow w.heap.size 3 1 (.slice ao hs.length co) hs.length (hs.map fun n => .int .i64 n) ∧ (∀ x ∈ blk ao, x ≠ p ∧ x ≠ g' ∧ w.heap.size + 1 ≤ x) ∧ w.heap.size + 1 ≤ g' ∧ Step w wr ∧ Hid (faultGo m loc R s (l.drop k) k = -1) ∧ Hid (hF = hs ++ heightsGo m loc R s (l.drop k))) (fun _ i _ => l.length - (intOf i).toNat)
  case atStart => exact ⟨0, [], startC R, g, [], _, 0, by omega, rfl, rfl, by simp, Inv.start hR1, hid hb.2.2, sbA, own0, (fun x hx => by simp [blk] at hx; omega), hgw, swA, hrun, hrun2⟩
  case round =>
    obtain ⟨k, sh, s, g', hs, ao, co, hk, rfl, rfl, hsl, v, hsh, hS, hown, hbl, hgg, st, heq, heq2⟩ := hrel
    have hlt9 := hS.lt
    have ng' : NewB w g' := ⟨by omega⟩
    have og' : Old g' wr := ⟨hlt9.2.1⟩
    have opr : Old p wr := ⟨hlt9.1⟩
    have ap9 : Arg p wr := ⟨hlt9.1⟩
    have hv := v.nums
    have hown9 := ownsRow_blk hown
    by_cases hlt : k < l.length
    · have hi := hb.1 k hlt
      obtain ⟨sh', hs1, hs2⟩ := shGo_step hlt hsh.out
      obtain ⟨hok, hrest⟩ := fault_right hlt heq.out
      replace hs2 := hid hs2
      have v3 := Inv.step (loc := loc) v pa.sigs hi hs1
      obtain ⟨bx, ox, Gx, csx, rfl, hGx, hIx, hcx, hox⟩ := hvw.row hr rfl (by decide) k hlt
      have hI0x := hIx
      obtain ⟨rfl, rfl, i0x, i1x, i2x⟩ := ins_open hI0x
      have kex : Known w _ l[k] _ := ⟨hIx⟩
      have c0x := (hcx 0 _ rfl).1
      replace c0x : w.cell? ⟨bx, ox + k * 3, none⟩ = _ := c0x
      have c1x := (hcx 1 _ rfl).1
      replace c1x : w.cell? ⟨bx, ox + k * 3 + 1, none⟩ = _ := c1x
      have c2x := (hcx 2 _ rfl).1
      replace c2x : w.cell? ⟨bx, ox + k * 3 + 2, none⟩ = _ := c2x
      clear hcx
      obtain ⟨⟨cap, bx, own⟩, hne, hbp⟩ := id hS
      obtain ⟨⟨c0, c1, c2, c3⟩, -⟩ := sb_top own
      have hcap := sb_size own
      clear c0 c1 c2
      replace own := hid own
      have nbx1 : NotIn p (blk ao) := ⟨fun hx => (hbl p hx).1 rfl⟩
      have nby1 : NotIn g' (blk ao) := ⟨fun hx => (hbl g' hx).2.1 rfl⟩
      have nbi : NotIn wr.heap.size (blk ao) := ⟨fun hx => by have := (hown9 _ hx).2; omega⟩
      have sub1 : SubX w (blk ao) [] := ⟨fun x hx => .inr (by have := (hbl x hx).2.2; omega)⟩
      have hb9 : w.heap.size ≤ wr.heap.size := st.fr.size
      obtain ⟨x, hx⟩ : ∃ x, htC s = x := ⟨_, rfl⟩
      have el : (hs ++ [x]).length = hs.length + 1 := by simp
      cases hd : s.t.dead
      · skip
        have ex : htC s = s.h := by unfold htC; rw [hd]; rfl
        rw [ex] at hx
        subst hx
        replace ex := hid ex
        rw [hd] at c3
        replace hd := hid hd
        go_wp2_with fail
        refine rg_begin0 (n := 13) (by kernel_rfl) rfl fun rg0 => ?_
        refine rg_read (i := 0) (a1 := _) rfl (by kernel_rfl) rfl (by simp) (by intro wq hwq; go_wp2; exact ⟨rfl, rfl⟩) mkStep ?_
        refine rg_read (i := 1) (a1 := _) rfl (by kernel_rfl) rfl (by simp) (by intro wq hwq; go_wp2; exact ⟨rfl, rfl⟩) mkStep ?_
        refine rg_read (i := 2) (a1 := _) rfl (by kernel_rfl) rfl (by simp) (by intro wq hwq; go_wp2; exact ⟨rfl, rfl⟩) mkStep ?_
        refine rg_read (i := 3) (a1 := _) rfl (by kernel_rfl) rfl (by simp) (by intro wq hwq; go_wp2; exact ⟨rfl, rfl⟩) mkStep ?_
        refine rg_read (i := 4) (a1 := _) rfl (by kernel_rfl) rfl (by simp) (by intro wq hwq; go_wp2; exact ⟨rfl, rfl⟩) mkStep ?_
        refine rg_read (i := 5) (a1 := _) rfl (by kernel_rfl) rfl (by simp) (by intro wq hwq; go_wp2; exact ⟨rfl, rfl⟩) mkStep ?_
        refine rg_read (i := 6) (a1 := _) rfl (by kernel_rfl) rfl (by simp) (by intro wq hwq; go_wp2; exact ⟨rfl, rfl⟩) mkStep ?_
        refine rg_read (i := 7) (a1 := _) rfl (by kernel_rfl) rfl (by simp) (by intro wq hwq; go_wp2; exact ⟨rfl, rfl⟩) mkStep ?_
        refine rg_read (i := 8) (a1 := _) rfl (by kernel_rfl) rfl (by simp) (by intro wq hwq; go_wp2; exact ⟨rfl, rfl⟩) mkStep ?_
        refine rg_read (i := 9) (a1 := _) rfl (by kernel_rfl) rfl (by simp) (by intro wq hwq; go_wp2; exact ⟨rfl, rfl⟩) mkStep ?_
        refine rg_read (i := 10) (a1 := _) rfl (by kernel_rfl) rfl (by simp) (by intro wq hwq; go_wp2; exact ⟨rfl, rfl⟩) mkStep ?_
        refine rg_read (i := 11) (a1 := _) rfl (by kernel_rfl) rfl (by simp) (by intro wq hwq; go_wp2; exact ⟨rfl, rfl⟩) mkStep ?_
        refine rg_read (i := 12) (a1 := _) rfl (by kernel_rfl) rfl (by simp) (by intro wq hwq; go_wp2; exact ⟨rfl, rfl⟩) mkStep ?_
        refine rg_done (by kernel_rfl) ?_
        go_wp2_with (at_builtin; go_must (refine app_rowsB iv1 1 (fun _ => rfl) iv1_one rfl (.tmp 45) (.tmp 50) 45 rfl 3 (.int .i64 0) 8 Tryz.ints_tab w.heap.size ao hs.length co hs s.h rfl (iv1_own (own_keep hown)) (by simp; omega) (wr.heap.size + 1) 1 rfl (fun j u hj => by obtain ⟨rfl, rfl⟩ := iv1_at hj; exact ⟨by go_simp, by go_simp⟩) (by omega) ?_); intro ao1 co1 w3 hown1 sx1 hb1)
        have hg8 := sx1.fr.size
        simp at hg8
        have hown8 := ownsRow_blk hown1
        have hbl1 : ∀ y ∈ blk ao1, y ≠ p ∧ y ≠ g' ∧ w.heap.size + 1 ≤ y := fun y hy => by
          rcases hb1 y hy with h1 | h1
          · exact hbl y h1
          · simp at h1; exact ⟨by omega, by omega, by omega⟩
        have op3 : Old p w3 := ⟨by omega⟩
        with_reducible refine Calls.mono (sstep (s := s) m l[k] _ pa v (by omega) hR1 hi hs1) ?_
        rintro e w4 ⟨rfl, g3, b3, s3, e3, hS3, hg3, st3⟩
        rw [e3] at v3 hok hrest
        simp only at hok hrest
        subst hok
        have hS4 : SB w4 p w1.heap.size g3 M loc s3 false := hS3
        clear hS3
        have hz := hid hrest
        have hz2 := hid (heq2.out.trans (show _ = (hs ++ [s.h]) ++ heightsGo m loc R s3 (l.drop (k + 1)) by rw [heights_on hlt, e3, ex.out]; simp))
        replace e3 := hid e3
        clear hrest
        have own4 := hid (ownsRow_fr hown1 st3.fr (fun y hy => by have := hbl1 y hy; simp; omega))
        replace hown1 := hid hown1
        go_wp2
        go_roundw
        case rel =>
          refine ⟨k + 1, sh', s3, g3, hs ++ [s.h], ao1, co1, by omega, by go_num, by rw [el], by rw [el]; omega, v3, hs2, inferInstance, ?_, ?_, by omega, mkStep, hz, hz2⟩
          · rw [el, ← iv1_map]; exact own4.out
          · intro y hy
            have h1 := hbl1 y hy
            have h2 := (hown8 y hy).2
            exact ⟨h1.1, by omega, h1.2.2⟩
        case measure => simp [intOf]; omega
      · skip
        have ex : htC s = (-1) := by unfold htC; rw [hd]; rfl
        rw [ex] at hx
        subst hx
        replace ex := hid ex
        rw [hd] at c3
        replace hd := hid hd
        go_wp2_with fail
        refine rg_begin0 (n := 13) (by kernel_rfl) rfl fun rg0 => ?_
        refine rg_read (i := 0) (a1 := _) rfl (by kernel_rfl) rfl (by simp) (by intro wq hwq; go_wp2; exact ⟨rfl, rfl⟩) mkStep ?_
        refine rg_read (i := 1) (a1 := _) rfl (by kernel_rfl) rfl (by simp) (by intro wq hwq; go_wp2; exact ⟨rfl, rfl⟩) mkStep ?_
        refine rg_read (i := 2) (a1 := _) rfl (by kernel_rfl) rfl (by simp) (by intro wq hwq; go_wp2; exact ⟨rfl, rfl⟩) mkStep ?_
        refine rg_read (i := 3) (a1 := _) rfl (by kernel_rfl) rfl (by simp) (by intro wq hwq; go_wp2; exact ⟨rfl, rfl⟩) mkStep ?_
        refine rg_read (i := 4) (a1 := _) rfl (by kernel_rfl) rfl (by simp) (by intro wq hwq; go_wp2; exact ⟨rfl, rfl⟩) mkStep ?_
        refine rg_read (i := 5) (a1 := _) rfl (by kernel_rfl) rfl (by simp) (by intro wq hwq; go_wp2; exact ⟨rfl, rfl⟩) mkStep ?_
        refine rg_read (i := 6) (a1 := _) rfl (by kernel_rfl) rfl (by simp) (by intro wq hwq; go_wp2; exact ⟨rfl, rfl⟩) mkStep ?_
        refine rg_read (i := 7) (a1 := _) rfl (by kernel_rfl) rfl (by simp) (by intro wq hwq; go_wp2; exact ⟨rfl, rfl⟩) mkStep ?_
        refine rg_read (i := 8) (a1 := _) rfl (by kernel_rfl) rfl (by simp) (by intro wq hwq; go_wp2; exact ⟨rfl, rfl⟩) mkStep ?_
        refine rg_read (i := 9) (a1 := _) rfl (by kernel_rfl) rfl (by simp) (by intro wq hwq; go_wp2; exact ⟨rfl, rfl⟩) mkStep ?_
        refine rg_read (i := 10) (a1 := _) rfl (by kernel_rfl) rfl (by simp) (by intro wq hwq; go_wp2; exact ⟨rfl, rfl⟩) mkStep ?_
        refine rg_read (i := 11) (a1 := _) rfl (by kernel_rfl) rfl (by simp) (by intro wq hwq; go_wp2; exact ⟨rfl, rfl⟩) mkStep ?_
        refine rg_read (i := 12) (a1 := _) rfl (by kernel_rfl) rfl (by simp) (by intro wq hwq; go_wp2; exact ⟨rfl, rfl⟩) mkStep ?_
        refine rg_done (by kernel_rfl) ?_
        go_wp2_with (at_builtin; go_must (refine app_rowsB iv1 1 (fun _ => rfl) iv1_one rfl (.tmp 42) (.tmp 43) 45 rfl 3 (.int .i64 0) 8 Tryz.ints_tab w.heap.size ao hs.length co hs (-1) rfl (iv1_own (own_keep hown)) (by simp; omega) (wr.heap.size + 1) 1 rfl (fun j u hj => by obtain ⟨rfl, rfl⟩ := iv1_at hj; exact ⟨by go_simp, by go_simp⟩) (by omega) ?_); intro ao1 co1 w3 hown1 sx1 hb1)
        have hg8 := sx1.fr.size
        simp at hg8
        have hown8 := ownsRow_blk hown1
        have hbl1 : ∀ y ∈ blk ao1, y ≠ p ∧ y ≠ g' ∧ w.heap.size + 1 ≤ y := fun y hy => by
          rcases hb1 y hy with h1 | h1
          · exact hbl y h1
          · simp at h1; exact ⟨by omega, by omega, by omega⟩
        have op3 : Old p w3 := ⟨by omega⟩
        with_reducible refine Calls.mono (sstep (s := s) m l[k] _ pa v (by omega) hR1 hi hs1) ?_
        rintro e w4 ⟨rfl, g3, b3, s3, e3, hS3, hg3, st3⟩
        rw [e3] at v3 hok hrest
        simp only at hok hrest
        subst hok
        have hS4 : SB w4 p w1.heap.size g3 M loc s3 false := hS3
        clear hS3
        have hz := hid hrest
        have hz2 := hid (heq2.out.trans (show _ = (hs ++ [(-1)]) ++ heightsGo m loc R s3 (l.drop (k + 1)) by rw [heights_on hlt, e3, ex.out]; simp))
        replace e3 := hid e3
        clear hrest
        have own4 := hid (ownsRow_fr hown1 st3.fr (fun y hy => by have := hbl1 y hy; simp; omega))
        replace hown1 := hid hown1
        go_wp2
        go_roundw
        case rel =>
          refine ⟨k + 1, sh', s3, g3, hs ++ [(-1)], ao1, co1, by omega, by go_num, by rw [el], by rw [el]; omega, v3, hs2, inferInstance, ?_, ?_, by omega, mkStep, hz, hz2⟩
          · rw [el, ← iv1_map]; exact own4.out
          · intro y hy
            have h1 := hbl1 y hy
            have h2 := (hown8 y hy).2
            exact ⟨h1.1, by omega, h1.2.2⟩
        case measure => simp [intOf]; omega
    · have hz2 := hid (heq2.out.trans (show _ = hs by rw [List.drop_of_length_le (by omega)]; exact List.append_nil _))
      have kb1 : Known wr (if hs = [] then [] else blk ao) hs [.slice ao hs.length co] := ⟨ints_shut (ownsRow_view hown) (fun n hn => by have := hin.1 n (by rw [hz2.out]; exact hn); unfold In64; omega) (ownsRow_cap hown)⟩
      have nbk : NewF w (if hs = [] then [] else blk ao) := ⟨by
        split
        · exact New.nil _
        · refine ⟨?_, fun b hb => by have := (hbl b hb).2.2; omega⟩
          cases ao <;> simp [blk]⟩
      replace hown := hid hown
      go_wp2
      go_ret2
      rw [hz2.out]
      exact ⟨ao, co, _, rfl, kb1, nbk, mkStep⟩
end Go.Proofs.YtfddmelikahfbaaGreatDoor
namespace Go.Proofs.YtfddmelikahfbaaGreatDoor
attribute [local go_sem ↓] Go.wp_at_zero Go.wp_at_succ
open Go.RowKit
open Rep (Is sz)

theorem markText (k : Int) (w : World) (hk : 0 ≤ k ∧ k ≤ 9223372036854775807) : Calls Tryz.prog 87 #[.int .i64 k] w fun e w' => ∃ s, e = .returned (.string s) ∧ Step w w' := by
  go_enter Tryz.func87, Tryz.ntmps87
  by_cases h0 : k ≤ 0
  · go_wp2
    go_ret
    exact ⟨_, rfl, mkStep⟩
  go_wp2
  go_loopw [0, 3] (fun x o wr => ∃ (f n : Nat) (s : ByteArray), x = .int .i64 n ∧ o = .string s ∧ n < 10 ^ f ∧ f ≤ 19 ∧ s.size + f ≤ 19 ∧ Step w wr) (fun x _ _ => (intOf x).toNat)
  case atStart => exact ⟨19, k.toNat, _, by go_num, rfl, by omega, by omega, by decide, mkStep⟩
  case round =>
    obtain ⟨f, n, s, rfl, rfl, hn, hf, hs, st⟩ := hrel
    by_cases hp : 0 < n
    · cases f with
      | zero => simp at hn; omega
      | succ f =>
        have hn2 : n / 10 < 10 ^ f := by rw [Nat.pow_succ] at hn; omega
        obtain ⟨b, hbq⟩ : ∃ b, b = UInt8.ofNat (48 + n % 10) := ⟨_, rfl⟩
        have hx : ((48 : Int) + (n : Int) % 10) = b.toNat := by rw [hbq, digit_byte _ (by omega)]; omega
        have hu : IntKind.u8.wrap (48 + (n : Int) % 10) = 48 + (n : Int) % 10 := u8_wrap (by omega) (by omega)
        have hst := lit1 wr (48 + (n : Int) % 10) b hx
        have hn3 : n ≤ 9999999999999999999 := by
          have : (10 : Nat) ^ (f + 1) ≤ 10 ^ 19 := Nat.pow_le_pow_right (by omega) hf
          omega
        have hsz : ((⟨#[b]⟩ : ByteArray) ++ s).size ≤ s.size + 1 := by rw [ByteArray.size_append]; show 1 + _ ≤ _; omega
        replace hx := hid hx
        clear hbq hn
        go_wp2
        go_roundw
        case rel => exact ⟨f, n / 10, _, by go_num, rfl, hn2, by omega, by omega, mkStep⟩
        case measure => simp [intOf]; omega
    · go_wp2
      go_ret
      exact ⟨_, rfl, mkStep⟩

theorem View.set1 {w : World} {b off s n : Nat} {xs : List Value} (h : View w (some ⟨b, off, none⟩) s n xs) (j : Nat) (hj : j < xs.length) (u : Value) : View (w.setCell ⟨b, off + j, none⟩ u) (some ⟨b, off, none⟩) s n (xs.set j u) := h.store j hj u

theorem markSigS {F : List Nat} {v : Value} {l : List SigD} (k0 : Int) (w : World) (hk0 : 0 ≤ k0 ∧ k0 ≤ 1099511627776) (hl : l.length ≤ 1048576) [h : Shows w F l [v]] :
    Calls Tryz.prog 49 #[v, .int .i64 k0] w fun e w' => e = .returned (.int .i64 (k0 + 2 * l.length)) ∧ StepX F w w' := by
  obtain ⟨a, cap, cl, FF, hv, hF, hvw, hr, hml⟩ := list_open h.is
  cases hv
  unfold maxLen at hml
  clear h
  have hsz : sz SigD = 2 := rfl
  rw [hsz] at hvw
  go_enter Tryz.func49, Tryz.ntmps49
  go_wp2
  go_loopw [1, 5] (fun c i wr => ∃ (k : Nat) (xs : List Value), k ≤ l.length ∧ i = .int .i64 k ∧ c = .int .i64 (k0 + 2 * k) ∧ StepX F w wr ∧ View wr a 2 l.length xs) (fun _ i _ => l.length - (intOf i).toNat)
  case atStart => exact ⟨0, _, by omega, rfl, by simp, ⟨Fr.refl _ _⟩, hvw⟩
  case round =>
    obtain ⟨k, xs, hk, rfl, rfl, st, hvr⟩ := hrel
    by_cases hlt : k < l.length
    · have hne : l ≠ [] := by intro e; subst e; simp at hlt
      have hxl : xs.length = l.length * 2 := hvr.len
      obtain ⟨b, o, rfl, hc⟩ := hvr.slot (by omega)
      have mb : MemB b F := ⟨by rw [hF, if_neg hne]; simp [blk]⟩
      obtain ⟨c0, f0⟩ := hc (k * 2) (by omega)
      obtain ⟨c1, f1⟩ := hc (k * 2 + 1) (by omega)
      rw [← Nat.add_assoc] at c1 f1
      have hS := (hvr.set1 (k * 2) (by omega) (.int .i64 (k0 + 2 * k))).set1 (k * 2 + 1) (by rw [List.length_set]; omega) (.int .i64 (k0 + 2 * k + 1))
      rw [← Nat.add_assoc] at hS
      replace hS := hid hS
      clear hc hvr hF
      go_wp2
      go_roundw
      case rel => exact ⟨k + 1, _, by omega, by go_num, by go_num, mkStepX, hS.out⟩
      case measure => simp [intOf]; omega
    · obtain rfl : k = l.length := by omega
      go_wp2
      go_ret
      exact ⟨rfl, mkStepX⟩
/-! The rest is printed by gens mark. -/

theorem markImportS {F : List Nat} {v : Value} {l : List ImportD} (k0 : Int) (w : World) (hk0 : 0 ≤ k0 ∧ k0 ≤ 1099511627776) (hl : l.length ≤ 1048576) [h : Shows w F l [v]] :
    Calls Tryz.prog 50 #[v, .int .i64 k0] w fun e w' => e = .returned (.int .i64 (k0 + 3 * l.length)) ∧ StepX F w w' := by
  obtain ⟨a, cap, cl, FF, hv, hF, hvw, hr, hml⟩ := list_open h.is
  cases hv
  unfold maxLen at hml
  clear h
  have hsz : sz ImportD = 3 := rfl
  rw [hsz] at hvw
  go_enter Tryz.func50, Tryz.ntmps50
  go_wp2
  go_loopw [1, 5] (fun c i wr => ∃ (k : Nat) (xs : List Value), k ≤ l.length ∧ i = .int .i64 k ∧ c = .int .i64 (k0 + 3 * k) ∧ StepX F w wr ∧ View wr a 3 l.length xs) (fun _ i _ => l.length - (intOf i).toNat)
  case atStart => exact ⟨0, _, by omega, rfl, by simp, ⟨Fr.refl _ _⟩, hvw⟩
  case round =>
    obtain ⟨k, xs, hk, rfl, rfl, st, hvr⟩ := hrel
    by_cases hlt : k < l.length
    · have hne : l ≠ [] := by intro e; subst e; simp at hlt
      have hxl : xs.length = l.length * 3 := hvr.len
      obtain ⟨b, o, rfl, hc⟩ := hvr.slot (by omega)
      have mb : MemB b F := ⟨by rw [hF, if_neg hne]; simp [blk]⟩
      obtain ⟨c0, f0⟩ := hc (k * 3) (by omega)
      obtain ⟨c1, f1⟩ := hc (k * 3 + 1) (by omega)
      obtain ⟨c2, f2⟩ := hc (k * 3 + 2) (by omega)
      rw [← Nat.add_assoc] at c1 f1 c2 f2
      have ob : Old b wr := ⟨block_lt_of_cell c0⟩
      clear hc hF
      go_wp2_with fail
      with_reducible refine Calls.mono (markText _ _ (by omega)) ?_
      rintro e w0 ⟨s0, rfl, st0⟩
      go_wp2_with fail
      with_reducible refine Calls.mono (markText _ _ (by omega)) ?_
      rintro e w1 ⟨s1, rfl, st1⟩
      have hS := (((((hvr.fr0 st0.fr).set1 (k * 3) (by (try simp only [List.length_set]); omega) (.string s0)).fr0 st1.fr).set1 (k * 3 + 1) (by (try simp only [List.length_set]); omega) (.string s1)).set1 (k * 3 + 2) (by (try simp only [List.length_set]); omega) (.int .i64 (k0 + 3 * k + 1 + 1)))
      simp only [← Nat.add_assoc] at hS
      replace hS := hid hS
      clear hvr
      go_wp2
      go_roundw
      case rel => exact ⟨k + 1, _, by omega, by go_num, by go_num, mkStepX, hS.out⟩
      case measure => simp [intOf]; omega
    · obtain rfl : k = l.length := by omega
      go_wp2
      go_ret
      exact ⟨rfl, mkStepX⟩

theorem markExportS {F : List Nat} {v : Value} {l : List ExportD} (k0 : Int) (w : World) (hk0 : 0 ≤ k0 ∧ k0 ≤ 1099511627776) (hl : l.length ≤ 1048576) [h : Shows w F l [v]] :
    Calls Tryz.prog 53 #[v, .int .i64 k0] w fun e w' => e = .returned (.int .i64 (k0 + 3 * l.length)) ∧ StepX F w w' := by
  obtain ⟨a, cap, cl, FF, hv, hF, hvw, hr, hml⟩ := list_open h.is
  cases hv
  unfold maxLen at hml
  clear h
  have hsz : sz ExportD = 3 := rfl
  rw [hsz] at hvw
  go_enter Tryz.func53, Tryz.ntmps53
  go_wp2
  go_loopw [1, 5] (fun c i wr => ∃ (k : Nat) (xs : List Value), k ≤ l.length ∧ i = .int .i64 k ∧ c = .int .i64 (k0 + 3 * k) ∧ StepX F w wr ∧ View wr a 3 l.length xs) (fun _ i _ => l.length - (intOf i).toNat)
  case atStart => exact ⟨0, _, by omega, rfl, by simp, ⟨Fr.refl _ _⟩, hvw⟩
  case round =>
    obtain ⟨k, xs, hk, rfl, rfl, st, hvr⟩ := hrel
    by_cases hlt : k < l.length
    · have hne : l ≠ [] := by intro e; subst e; simp at hlt
      have hxl : xs.length = l.length * 3 := hvr.len
      obtain ⟨b, o, rfl, hc⟩ := hvr.slot (by omega)
      have mb : MemB b F := ⟨by rw [hF, if_neg hne]; simp [blk]⟩
      obtain ⟨c0, f0⟩ := hc (k * 3) (by omega)
      obtain ⟨c1, f1⟩ := hc (k * 3 + 1) (by omega)
      obtain ⟨c2, f2⟩ := hc (k * 3 + 2) (by omega)
      rw [← Nat.add_assoc] at c1 f1 c2 f2
      have ob : Old b wr := ⟨block_lt_of_cell c0⟩
      clear hc hF
      go_wp2_with fail
      with_reducible refine Calls.mono (markText _ _ (by omega)) ?_
      rintro e w0 ⟨s0, rfl, st0⟩
      have hS := ((((hvr.fr0 st0.fr).set1 (k * 3) (by (try simp only [List.length_set]); omega) (.string s0)).set1 (k * 3 + 1) (by (try simp only [List.length_set]); omega) (.int .i64 (k0 + 3 * k + 1))).set1 (k * 3 + 2) (by (try simp only [List.length_set]); omega) (.int .i64 (k0 + 3 * k + 1 + 1)))
      simp only [← Nat.add_assoc] at hS
      replace hS := hid hS
      clear hvr
      go_wp2
      go_roundw
      case rel => exact ⟨k + 1, _, by omega, by go_num, by go_num, mkStepX, hS.out⟩
      case measure => simp [intOf]; omega
    · obtain rfl : k = l.length := by omega
      go_wp2
      go_ret
      exact ⟨rfl, mkStepX⟩

theorem markGlobalS {F : List Nat} {v : Value} {l : List GlobalD} (k0 : Int) (w : World) (hk0 : 0 ≤ k0 ∧ k0 ≤ 1099511627776) (hl : l.length ≤ 1048576) [h : Shows w F l [v]] :
    Calls Tryz.prog 52 #[v, .int .i64 k0] w fun e w' => e = .returned (.int .i64 (k0 + 2 * l.length)) ∧ StepX F w w' := by
  obtain ⟨a, cap, cl, FF, hv, hF, hvw, hr, hml⟩ := list_open h.is
  cases hv
  unfold maxLen at hml
  clear h
  have hsz : sz GlobalD = 2 := rfl
  rw [hsz] at hvw
  go_enter Tryz.func52, Tryz.ntmps52
  go_wp2
  go_loopw [1, 5] (fun c i wr => ∃ (k : Nat) (xs : List Value), k ≤ l.length ∧ i = .int .i64 k ∧ c = .int .i64 (k0 + 2 * k) ∧ StepX F w wr ∧ View wr a 2 l.length xs) (fun _ i _ => l.length - (intOf i).toNat)
  case atStart => exact ⟨0, _, by omega, rfl, by simp, ⟨Fr.refl _ _⟩, hvw⟩
  case round =>
    obtain ⟨k, xs, hk, rfl, rfl, st, hvr⟩ := hrel
    by_cases hlt : k < l.length
    · have hne : l ≠ [] := by intro e; subst e; simp at hlt
      have hxl : xs.length = l.length * 2 := hvr.len
      obtain ⟨b, o, rfl, hc⟩ := hvr.slot (by omega)
      have mb : MemB b F := ⟨by rw [hF, if_neg hne]; simp [blk]⟩
      obtain ⟨c0, f0⟩ := hc (k * 2) (by omega)
      obtain ⟨c1, f1⟩ := hc (k * 2 + 1) (by omega)
      rw [← Nat.add_assoc] at c1 f1
      have ob : Old b wr := ⟨block_lt_of_cell c0⟩
      clear hc hF
      have hS := ((hvr.set1 (k * 2) (by (try simp only [List.length_set]); omega) (.bool ((k0 + 2 * (k : Int)) % 3 == 0))).set1 (k * 2 + 1) (by (try simp only [List.length_set]); omega) (.int .i64 (k0 + 2 * k + 1)))
      simp only [← Nat.add_assoc] at hS
      replace hS := hid hS
      clear hvr
      go_wp2
      go_roundw
      case rel => exact ⟨k + 1, _, by omega, by go_num, by go_num, mkStepX, hS.out⟩
      case measure => simp [intOf]; omega
    · obtain rfl : k = l.length := by omega
      go_wp2
      go_ret
      exact ⟨rfl, mkStepX⟩

set_option maxHeartbeats 1000000 in
theorem markFuncS {F : List Nat} {v : Value} {l : List FuncD} (k0 : Int) (w : World) (hk0 : 0 ≤ k0 ∧ k0 ≤ 1000000000) (hl : funcsCost l ≤ 1048576) (hN : F.Nodup) [h : Shows w F l [v]] :
    Calls Tryz.prog 51 #[v, .int .i64 k0] w fun e w' => ∃ k1, e = .returned (.int .i64 k1) ∧ k0 ≤ k1 ∧ k1 ≤ k0 + 10000000 ∧ StepX F w w' := by
  obtain ⟨a, cap, cl, FF, hv, hF, hvw, hr, hml⟩ := list_open h.is
  cases hv
  unfold maxLen at hml
  have hlw := Rep.lt h.is
  clear h
  have hsz : sz FuncD = 3 := rfl
  rw [hsz] at hvw
  have hl1 : l.length ≤ 1048576 := by unfold funcsCost at hl; omega
  have hl2 : (l.map funcCost).sum ≤ 1048576 := by unfold funcsCost at hl; omega
  go_enter Tryz.func51, Tryz.ntmps51
  go_wp2
  go_loopw [1, 5] (fun c i wr => ∃ (k : Nat) (xs : List Value) (G1 G2 : List Nat) (q : Int), k ≤ l.length ∧ i = .int .i64 k ∧ c = .int .i64 q ∧ k0 ≤ q ∧ q ≤ k0 + 3 * k + 3 * (((l.take k).map funcCost).sum : Nat) ∧ FF = G1 ++ G2 ∧ Hid (Row w G2 (l.drop k) (cl.drop (k * 3))) ∧ Fr ((if l = [] then [] else blk a) ++ G1) w wr ∧ View wr a 3 l.length xs ∧ Hid (∀ j, k * 3 ≤ j → xs[j]? = cl[j]?)) (fun _ i _ => l.length - (intOf i).toNat)
  case atStart => exact ⟨0, _, [], FF, k0, by omega, rfl, rfl, by omega, by simp, rfl, hid (by simpa using hr), Fr.refl _ _, hvw, hid (fun _ _ => rfl)⟩
  case round =>
    obtain ⟨k, xs, G1, G2, q, hk, rfl, rfl, hq0, hq1, hG, hR, hf, hvr, hx⟩ := hrel
    have hs2 := sum_take_le funcCost l k
    by_cases hlt : k < l.length
    · have hne : l ≠ [] := by intro e; subst e; simp at hlt
      have hs1 := sum_take funcCost l k hlt
      have hs3 := sum_take_le funcCost l (k + 1)
      have hxl : xs.length = l.length * 3 := hvr.len
      obtain ⟨b, o, rfl, hc⟩ := hvr.slot (by omega)
      have hR0 := hR.out
      rw [List.drop_eq_getElem_cons hlt] at hR0
      obtain ⟨F1, F2, c1, c2, hG2, hc12, hI, hR2⟩ := hR0
      obtain ⟨a1, kk1, F1x, hc1, hF1, hIb, _, _⟩ := func_open hI
      subst hF1
      have hcl : (cl.drop (k * 3)).length = (l.length - k) * 3 := by rw [List.length_drop, hvw.len, Nat.sub_mul]
      rw [if_neg hne] at hF hf
      rw [hF, hG, hG2] at hN hlw
      have hN1 := List.nodup_append.1 hN
      have hN2 := List.nodup_append.1 hN1.2.1
      have hbF1 : b ∉ F1x := fun hm => hN1.2.2 b (by simp [blk]) b (by simp [hm]) rfl
      have hdis : ∀ x ∈ F1x, x ∉ blk (some ⟨b, o, none⟩) ++ G1 := by
        intro x hx hm
        rcases List.mem_append.1 hm with h1 | h1
        · simp [blk] at h1; subst h1; exact hbF1 hx
        · exact hN2.2.2 x h1 x (by simp [hx]) rfl
      have ks : Shows wr F1x l[k].body [.slice a1 l[k].body.length kk1] := ⟨Rep.fr hIb hf hdis⟩
      have nbF : NotIn b F1x := ⟨hbF1⟩
      have hcell : cl[k * 3 + 2]? = some (.slice a1 l[k].body.length kk1) := by
        have h9 : (cl.drop (k * 3))[2]? = some (.slice a1 l[k].body.length kk1) := by rw [hc12, hc1]; rfl
        rw [List.getElem?_drop] at h9
        exact h9
      have hxc := (hx.out (k * 3 + 2) (by omega)).trans hcell
      have hlen1 : l[k].body.length ≤ funcCost l[k] := by unfold funcCost inssCost; omega
      have hb9 : l[k].body.length ≤ 1048576 := by omega
      obtain ⟨c0x, f0⟩ := hc (k * 3) (by omega)
      obtain ⟨c1x, f1⟩ := hc (k * 3 + 1) (by omega)
      obtain ⟨c2x, f2⟩ := hc (k * 3 + 2) (by omega)
      rw [List.getElem?_eq_getElem (by omega)] at hxc
      rw [Option.some.inj hxc] at c2x
      rw [← Nat.add_assoc] at c1x f1 c2x f2
      have ob : Old b wr := ⟨block_lt_of_cell c0x⟩
      have mbb : b ∈ blk (some ⟨b, o, none⟩) ++ G1 := by simp [blk]
      have hS := ((hvr.set1 (k * 3) (by (try simp only [List.length_set]); omega) (.int .i64 (q))).set1 (k * 3 + 1) (by (try simp only [List.length_set]); omega) (.int .i64 (q + 1)))
      have hfS := ((((hf).setCell (p := ⟨b, o + (k * 3), none⟩) (.inl mbb) (.int .i64 (q)))).setCell (p := ⟨b, o + (k * 3 + 1), none⟩) (.inl mbb) (.int .i64 (q + 1)))
      simp only [← Nat.add_assoc] at hS hfS
      have hx2 : Hid (∀ j, (k + 1) * 3 ≤ j → ((xs.set (k * 3) (.int .i64 (q))).set (k * 3 + 1) (.int .i64 (q + 1)))[j]? = cl[j]?) := fun j hj => by
        rw [List.getElem?_set_ne (by omega), List.getElem?_set_ne (by omega)]
        exact hx.out j (by omega)
      have hR3 : Hid (Row w F2 (l.drop (k + 1)) (cl.drop ((k + 1) * 3))) := by
        have : cl.drop ((k + 1) * 3) = c2 := by
          rw [show (k + 1) * 3 = k * 3 + 3 by omega, ← List.drop_drop, hc12, hc1]; rfl
        rw [this]; exact hR2
      have hGn : FF = (G1 ++ F1x) ++ F2 := by rw [hG, hG2, List.append_assoc]
      replace hS := hid hS
      replace hfS := hid hfS
      replace hs1 := hid hs1
      clear hc hvr hcl hN hN1 hN2 hdis hR2 hc12 hI hx hxc hcell hlw hR
      clear hc1
      go_wp2_with fail
      with_reducible refine Calls.mono (markInsS (F := F1x) (l := l[k].body) (q + 1 + 1) _ (by omega) (by omega) (by omega)) ?_
      rintro e w2 ⟨rfl, st2, -⟩
      have hS2 := hid (hS.out.fr st2.fr (by simpa [blk] using hbF1))
      have hf2 := hid (show Fr ((if l = [] then [] else blk (some ⟨b, o, none⟩)) ++ (G1 ++ F1x)) w w2 by
        rw [if_neg hne, ← List.append_assoc]
        exact (hfS.out.mono (fun x hx => .inl (List.mem_append_left _ hx))).trans st2.fr (fun x hx => .inl (List.mem_append_right _ hx)))
      replace hS := hid hS.out
      clear hS hfS hf
      go_wp2
      go_roundw
      case rel => exact ⟨k + 1, _, G1 ++ F1x, F2, _, by omega, by go_num, rfl, by omega, by rw [hs1.out]; omega, hGn, hR3, hf2.out, hS2.out, hx2⟩
      case measure => simp [intOf]; omega
    · have hsub : StepX F w wr := ⟨hf.mono (fun x hx => .inl (by rw [hF, hG]; rcases List.mem_append.1 hx with h1 | h1; exact List.mem_append_left _ h1; exact List.mem_append_right _ (List.mem_append_left _ h1)))⟩
      go_wp2
      go_ret
      exact ⟨_, rfl, hq0, by omega, hsub⟩

set_option maxHeartbeats 1000000 in
theorem markDataS {F : List Nat} {v : Value} {l : List DataD} (k0 : Int) (w : World) (hk0 : 0 ≤ k0 ∧ k0 ≤ 1000000000) (hl : datasCost l ≤ 1048576) (hN : F.Nodup) [h : Shows w F l [v]] :
    Calls Tryz.prog 54 #[v, .int .i64 k0] w fun e w' => ∃ k1, e = .returned (.int .i64 k1) ∧ k0 ≤ k1 ∧ k1 ≤ k0 + 10000000 ∧ StepX F w w' := by
  obtain ⟨a, cap, cl, FF, hv, hF, hvw, hr, hml⟩ := list_open h.is
  cases hv
  unfold maxLen at hml
  have hlw := Rep.lt h.is
  clear h
  have hsz : sz DataD = 2 := rfl
  rw [hsz] at hvw
  have hl1 : l.length ≤ 1048576 := by unfold datasCost at hl; omega
  have hl2 : (l.map dataCost).sum ≤ 1048576 := by unfold datasCost at hl; omega
  go_enter Tryz.func54, Tryz.ntmps54
  go_wp2
  go_loopw [1, 5] (fun c i wr => ∃ (k : Nat) (xs : List Value) (G1 G2 : List Nat) (q : Int), k ≤ l.length ∧ i = .int .i64 k ∧ c = .int .i64 q ∧ k0 ≤ q ∧ q ≤ k0 + 3 * k + 3 * (((l.take k).map dataCost).sum : Nat) ∧ FF = G1 ++ G2 ∧ Hid (Row w G2 (l.drop k) (cl.drop (k * 2))) ∧ Fr ((if l = [] then [] else blk a) ++ G1) w wr ∧ View wr a 2 l.length xs ∧ Hid (∀ j, k * 2 ≤ j → xs[j]? = cl[j]?)) (fun _ i _ => l.length - (intOf i).toNat)
  case atStart => exact ⟨0, _, [], FF, k0, by omega, rfl, rfl, by omega, by simp, rfl, hid (by simpa using hr), Fr.refl _ _, hvw, hid (fun _ _ => rfl)⟩
  case round =>
    obtain ⟨k, xs, G1, G2, q, hk, rfl, rfl, hq0, hq1, hG, hR, hf, hvr, hx⟩ := hrel
    have hs2 := sum_take_le dataCost l k
    by_cases hlt : k < l.length
    · have hne : l ≠ [] := by intro e; subst e; simp at hlt
      have hs1 := sum_take dataCost l k hlt
      have hs3 := sum_take_le dataCost l (k + 1)
      have hxl : xs.length = l.length * 2 := hvr.len
      obtain ⟨b, o, rfl, hc⟩ := hvr.slot (by omega)
      have hR0 := hR.out
      rw [List.drop_eq_getElem_cons hlt] at hR0
      obtain ⟨F1, F2, c1, c2, hG2, hc12, hI, hR2⟩ := hR0
      obtain ⟨a1, kk1, F1x, hc1, hF1, hIb, _⟩ := data_open hI
      subst hF1
      have hcl : (cl.drop (k * 2)).length = (l.length - k) * 2 := by rw [List.length_drop, hvw.len, Nat.sub_mul]
      rw [if_neg hne] at hF hf
      rw [hF, hG, hG2] at hN hlw
      have hN1 := List.nodup_append.1 hN
      have hN2 := List.nodup_append.1 hN1.2.1
      have hbF1 : b ∉ F1x := fun hm => hN1.2.2 b (by simp [blk]) b (by simp [hm]) rfl
      have hdis : ∀ x ∈ F1x, x ∉ blk (some ⟨b, o, none⟩) ++ G1 := by
        intro x hx hm
        rcases List.mem_append.1 hm with h1 | h1
        · simp [blk] at h1; subst h1; exact hbF1 hx
        · exact hN2.2.2 x h1 x (by simp [hx]) rfl
      have ks : Shows wr F1x l[k].bytes [.slice a1 l[k].bytes.length kk1] := ⟨Rep.fr hIb hf hdis⟩
      have nbF : NotIn b F1x := ⟨hbF1⟩
      have hcell : cl[k * 2 + 1]? = some (.slice a1 l[k].bytes.length kk1) := by
        have h9 : (cl.drop (k * 2))[1]? = some (.slice a1 l[k].bytes.length kk1) := by rw [hc12, hc1]; rfl
        rw [List.getElem?_drop] at h9
        exact h9
      have hxc := (hx.out (k * 2 + 1) (by omega)).trans hcell
      have hlen1 : l[k].bytes.length ≤ dataCost l[k] := by unfold dataCost; omega
      have hb9 : l[k].bytes.length ≤ 1048576 := by omega
      obtain ⟨c0x, f0⟩ := hc (k * 2) (by omega)
      obtain ⟨c1x, f1⟩ := hc (k * 2 + 1) (by omega)
      rw [List.getElem?_eq_getElem (by omega)] at hxc
      rw [Option.some.inj hxc] at c1x
      rw [← Nat.add_assoc] at c1x f1
      have ob : Old b wr := ⟨block_lt_of_cell c0x⟩
      have mbb : b ∈ blk (some ⟨b, o, none⟩) ++ G1 := by simp [blk]
      have hS := (hvr.set1 (k * 2) (by (try simp only [List.length_set]); omega) (.int .i64 (q)))
      have hfS := ((hf).setCell (p := ⟨b, o + (k * 2), none⟩) (.inl mbb) (.int .i64 (q)))
      have hx2 : Hid (∀ j, (k + 1) * 2 ≤ j → (xs.set (k * 2) (.int .i64 (q)))[j]? = cl[j]?) := fun j hj => by
        rw [List.getElem?_set_ne (by omega)]
        exact hx.out j (by omega)
      have hR3 : Hid (Row w F2 (l.drop (k + 1)) (cl.drop ((k + 1) * 2))) := by
        have : cl.drop ((k + 1) * 2) = c2 := by
          rw [show (k + 1) * 2 = k * 2 + 2 by omega, ← List.drop_drop, hc12, hc1]; rfl
        rw [this]; exact hR2
      have hGn : FF = (G1 ++ F1x) ++ F2 := by rw [hG, hG2, List.append_assoc]
      replace hS := hid hS
      replace hfS := hid hfS
      replace hs1 := hid hs1
      clear hc hvr hcl hN hN1 hN2 hdis hR2 hc12 hI hx hxc hcell hlw hR
      clear hc1
      go_wp2_with fail
      with_reducible refine Calls.mono (markBytes (F := F1x) (l := l[k].bytes) (q + 1) _ (by omega) (by omega) (by omega)) ?_
      rintro e w2 ⟨rfl, st2⟩
      have hS2 := hid (hS.out.fr st2.fr (by simpa [blk] using hbF1))
      have hf2 := hid (show Fr ((if l = [] then [] else blk (some ⟨b, o, none⟩)) ++ (G1 ++ F1x)) w w2 by
        rw [if_neg hne, ← List.append_assoc]
        exact (hfS.out.mono (fun x hx => .inl (List.mem_append_left _ hx))).trans st2.fr (fun x hx => .inl (List.mem_append_right _ hx)))
      replace hS := hid hS.out
      clear hS hfS hf
      go_wp2
      go_roundw
      case rel => exact ⟨k + 1, _, G1 ++ F1x, F2, _, by omega, by go_num, rfl, by omega, by rw [hs1.out]; omega, hGn, hR3, hf2.out, hS2.out, hx2⟩
      case measure => simp [intOf]; omega
    · have hsub : StepX F w wr := ⟨hf.mono (fun x hx => .inl (by rw [hF, hG]; rcases List.mem_append.1 hx with h1 | h1; exact List.mem_append_left _ h1; exact List.mem_append_right _ (List.mem_append_left _ h1)))⟩
      go_wp2
      go_ret
      exact ⟨_, rfl, hq0, by omega, hsub⟩
end Go.Proofs.YtfddmelikahfbaaGreatDoor
namespace Go.Proofs.YtfddmelikahfbaaGreatDoor
open Go.RowKit
open Rep (Is sz)

theorem apart_lo {α : Type} [Rep α] {m M : World} {F S : List Nat} {x : α} {cs : List Value} (k : Known m F x cs) (n : NewF M S) [g : Grew m M] : Apart F S := ⟨fun b hb hs => by have h1 := Rep.lt k.is b hb; have h2 := n.is.2 b hs; have h3 := g.le; omega⟩
theorem apart_hi {α : Type} [Rep α] {m M : World} {F S : List Nat} {x : α} {cs : List Value} (n : NewF M S) (k : Known m F x cs) [g : Grew m M] : Apart S F := ⟨fun b hb hs => (apart_lo k n).ne b hs hb⟩
theorem sub_of {W M : World} {S : List Nat} (n : NewF M S) [g : Grew W M] : SubX W S [] := ⟨fun b hb => .inr (Nat.le_trans g.le (n.is.2 b hb))⟩
end Go.Proofs.YtfddmelikahfbaaGreatDoor
namespace Go.Proofs.YtfddmelikahfbaaGreatDoor
attribute [local go_sem ↓] Go.wp_at_zero Go.wp_at_succ
open Go.RowKit
open Rep (Is sz)

theorem apart_sub {A B S : List Nat} (h : (A ++ B).Nodup) (hs : ∀ x ∈ S, x ∈ A) : Apart B S := ⟨fun b hb hm => (List.nodup_append.1 h).2.2 b (hs b hm) b hb rfl⟩

set_option maxHeartbeats 1000000 in
theorem markModule {F : List Nat} {cs : List Value} (m : ModuleD) (w : World) (hz : moduleCost m ≤ 1048576) (hN : F.Nodup) [h : Shows w F m cs] :
    Calls Tryz.prog 19 #[.agg cs.toArray, .int .i64 1] w fun e w' => ∃ k, e = .returned (.int .i64 k) ∧ 0 ≤ k ∧ StepX F w w' := by
  have hlt := Rep.lt h.is
  obtain ⟨a1, k1, a2, k2, a3, k3, a4, k4, a5, k5, a6, k6, F1, F2, F3, F4, F5, F6, rfl, rfl, h1, h2, h3, h4, h5, h6, i3, i4⟩ := module_open h.is
  clear h
  unfold moduleCost at hz
  have z3 : funcsCost m.funcs ≤ 1048576 := by omega
  have z6 : datasCost m.data ≤ 1048576 := by omega
  have l1 : m.sigs.length ≤ 1048576 := by unfold sigsCost at hz; omega
  have l2 : m.imports.length ≤ 1048576 := by unfold importsCost at hz; omega
  have l4 : m.globals.length ≤ 1048576 := by unfold globalsCost at hz; omega
  have l5 : m.exports.length ≤ 1048576 := by unfold exportsCost at hz; omega
  have N6 := hN
  have N5 := (List.nodup_append.1 N6).1
  have N4 := (List.nodup_append.1 N5).1
  have N3 := (List.nodup_append.1 N4).1
  have N2 := (List.nodup_append.1 N3).1
  have A21 : Apart F2 F1 := apart_sub N2 (fun x hx => hx)
  have A31 : Apart F3 F1 := apart_sub N3 (fun x hx => by simp [hx])
  have A32 : Apart F3 F2 := apart_sub N3 (fun x hx => by simp [hx])
  have A41 : Apart F4 F1 := apart_sub N4 (fun x hx => by simp [hx])
  have A42 : Apart F4 F2 := apart_sub N4 (fun x hx => by simp [hx])
  have A43 : Apart F4 F3 := apart_sub N4 (fun x hx => by simp [hx])
  have A51 : Apart F5 F1 := apart_sub N5 (fun x hx => by simp [hx])
  have A52 : Apart F5 F2 := apart_sub N5 (fun x hx => by simp [hx])
  have A53 : Apart F5 F3 := apart_sub N5 (fun x hx => by simp [hx])
  have A54 : Apart F5 F4 := apart_sub N5 (fun x hx => by simp [hx])
  have A61 : Apart F6 F1 := apart_sub N6 (fun x hx => by simp [hx])
  have A62 : Apart F6 F2 := apart_sub N6 (fun x hx => by simp [hx])
  have A63 : Apart F6 F3 := apart_sub N6 (fun x hx => by simp [hx])
  have A64 : Apart F6 F4 := apart_sub N6 (fun x hx => by simp [hx])
  have A65 : Apart F6 F5 := apart_sub N6 (fun x hx => by simp [hx])
  have n3 : F3.Nodup := (List.nodup_append.1 N3).2.1
  have n6 : F6.Nodup := (List.nodup_append.1 N6).2.1
  have b1 : NotIn w.heap.size F1 := ⟨fun hx => by have := hlt _ (by simp [hx] : w.heap.size ∈ F1 ++ F2 ++ F3 ++ F4 ++ F5 ++ F6); omega⟩
  have b2 : NotIn w.heap.size F2 := ⟨fun hx => by have := hlt _ (by simp [hx] : w.heap.size ∈ F1 ++ F2 ++ F3 ++ F4 ++ F5 ++ F6); omega⟩
  have b3 : NotIn w.heap.size F3 := ⟨fun hx => by have := hlt _ (by simp [hx] : w.heap.size ∈ F1 ++ F2 ++ F3 ++ F4 ++ F5 ++ F6); omega⟩
  have b4 : NotIn w.heap.size F4 := ⟨fun hx => by have := hlt _ (by simp [hx] : w.heap.size ∈ F1 ++ F2 ++ F3 ++ F4 ++ F5 ++ F6); omega⟩
  have b5 : NotIn w.heap.size F5 := ⟨fun hx => by have := hlt _ (by simp [hx] : w.heap.size ∈ F1 ++ F2 ++ F3 ++ F4 ++ F5 ++ F6); omega⟩
  have S1 : SubX w F1 (F1 ++ F2 ++ F3 ++ F4 ++ F5 ++ F6) := ⟨fun x hx => .inl (by simp [hx])⟩
  have S2 : SubX w F2 (F1 ++ F2 ++ F3 ++ F4 ++ F5 ++ F6) := ⟨fun x hx => .inl (by simp [hx])⟩
  have S3 : SubX w F3 (F1 ++ F2 ++ F3 ++ F4 ++ F5 ++ F6) := ⟨fun x hx => .inl (by simp [hx])⟩
  have S4 : SubX w F4 (F1 ++ F2 ++ F3 ++ F4 ++ F5 ++ F6) := ⟨fun x hx => .inl (by simp [hx])⟩
  have S5 : SubX w F5 (F1 ++ F2 ++ F3 ++ F4 ++ F5 ++ F6) := ⟨fun x hx => .inl (by simp [hx])⟩
  have S6 : SubX w F6 (F1 ++ F2 ++ F3 ++ F4 ++ F5 ++ F6) := ⟨fun x hx => .inl (by simp [hx])⟩
  have s1 : Shows w F1 m.sigs [.slice a1 m.sigs.length k1] := ⟨h1⟩
  have s2 : Shows w F2 m.imports [.slice a2 m.imports.length k2] := ⟨h2⟩
  have s3 : Shows w F3 m.funcs [.slice a3 m.funcs.length k3] := ⟨h3⟩
  have s4 : Shows w F4 m.globals [.slice a4 m.globals.length k4] := ⟨h4⟩
  have s5 : Shows w F5 m.exports [.slice a5 m.exports.length k5] := ⟨h5⟩
  have s6 : Shows w F6 m.data [.slice a6 m.data.length k6] := ⟨h6⟩
  clear N2 N3 N4 N5 N6 hN hz
  go_enter Tryz.func19, Tryz.ntmps19
  go_wp2_with fail
  with_reducible refine Calls.mono (markSigS (l := m.sigs) 1 _ (by omega) l1) ?_
  rintro e w1 ⟨rfl, st1⟩
  go_wp2_with fail
  with_reducible refine Calls.mono (markImportS (l := m.imports) _ _ (by omega) l2) ?_
  rintro e w2 ⟨rfl, st2⟩
  go_wp2_with fail
  with_reducible refine Calls.mono (markFuncS (l := m.funcs) _ _ (by omega) z3 n3) ?_
  rintro e w3 ⟨q3, rfl, hq0, hq1, st3⟩
  go_wp2_with fail
  with_reducible refine Calls.mono (markGlobalS (l := m.globals) _ _ (by omega) l4) ?_
  rintro e w4 ⟨rfl, st4⟩
  go_wp2_with fail
  with_reducible refine Calls.mono (markExportS (l := m.exports) _ _ (by omega) l5) ?_
  rintro e w5 ⟨rfl, st5⟩
  go_wp2_with fail
  with_reducible refine Calls.mono (markDataS (l := m.data) _ _ (by omega) z6 n6) ?_
  rintro e w6 ⟨q6, rfl, hq2, hq3, st6⟩
  go_wp2
  go_ret
  exact ⟨_, rfl, by omega, mkStepX⟩

theorem markInts {F : List Nat} {v : Value} {l : List Int} (k0 : Int) (w : World) (hk0 : In64 (k0 + l.length)) (hk1 : In64 k0) [h : Shows w F l [v]] :
    Calls Tryz.prog 20 #[v, .int .i64 k0] w fun e w' => e = .returned (.int .i64 (k0 + l.length)) ∧ StepX F w w' ∧ Known w' F (marks k0 l.length) [v] :=
  (markInts_any l v k0 w h.is hk0 hk1).mono fun _ _ ⟨h1, h2, h3⟩ => ⟨h1, ⟨h2⟩, ⟨h3⟩⟩
theorem heldInts {F : List Nat} {v : Value} {n : Nat} (k0 : Int) (w : World) (hk0 : In64 (k0 + n)) (hk1 : In64 k0) [h : Shows w F (marks k0 n) [v]] :
    Calls Tryz.prog 21 #[v, .int .i64 k0] w fun e w' => e = .returned (.int .i64 (k0 + n)) ∧ Step w w' := by
  have hl := marks_length k0 n
  refine (heldInts_any (marks k0 n) v k0 w h.is (by rw [hl]; exact hk0) hk1 (fun j hj => marks_at k0 n j (by omega))).mono ?_
  rintro e w' ⟨rfl, hf⟩
  exact ⟨by rw [hl], ⟨hf⟩⟩
end Go.Proofs.YtfddmelikahfbaaGreatDoor
namespace Go.Proofs.YtfddmelikahfbaaGreatDoor
attribute [local go_sem ↓] Go.wp_at_zero Go.wp_at_succ
open Go.RowKit Go.ChangeShapes Go.WideShapes
open Rep (Is sz)

set_option maxRecDepth 100000 in
theorem FnExactStackAt_u8 {W : World} (h : laidMetH Tryz.prog Rows.fnExactStackAtRow.laid W) : U8 W := by
  rw [MakeChecks.laidMetH_plain _ _ _ (by kernel_rfl)] at h
  have e1 : Rows.laid_unicode_utf8_first = Lib.firstData := by kernel_rfl
  have e2 : Rows.laid_unicode_utf8_acceptRanges = Lib.acceptData := by kernel_rfl
  exact u8_of (e1 ▸ Lib.laidMet.reads h (d := Rows.laid_unicode_utf8_first) (.tail _ (.head _))) (e2 ▸ Lib.laidMet.reads h (d := Rows.laid_unicode_utf8_acceptRanges) (.head _))
set_option maxRecDepth 10000 in
set_option maxHeartbeats 4000000 in
theorem FnExactStackAt_walk {H : Type} {enc : TypeId × Value → H} (W : World) (base : Nat) {d0 : DataW H} {p0 : List MemPlace} {d1 : DataW H} {p1 : List MemPlace} (v0 : Value)
    (k0 : Value.okWide Tryz.prog W .any base 29 v0) (h0 : DataW.Trod enc Tryz.prog W 0 (fun _ => true) true 29 v0 d0 p0) (n0 : W.noneFrozen p0)
    (v1 : Value) (k1 : Value.okWide Tryz.prog W .any base 3 v1) (h1 : DataW.Trod enc Tryz.prog W 0 (fun _ => true) true 3 v1 d1 p1)
    (hL : laidMetH Tryz.prog Rows.fnExactStackAtRow.laid W) :
    Calls Tryz.prog 6 #[v0, v1] W fun e W' => e = .returned (.bool true) ∧ Fr [] W W' := by
  obtain ⟨m, F, cs, rfl, hI⟩ := opens_module.argR Tryz.underlying29 k0 h0 n0
  obtain ⟨op, rfl, rfl, rfl, hop⟩ := open_int Tryz.underlying3 k1 h1
  have kr : Known W F m cs := ⟨hI⟩
  have kU : KnownU8 W := ⟨FnExactStackAt_u8 hL⟩
  clear k0 h0 n0 k1 h1 hL
  obtain ⟨a1, k1, a2, k2, a3, k3, a4, k4, a5, k5, a6, k6, F1, F2, F3, F4, F5, F6, rfl, rfl, h1, h2, h3, h4, h5, h6, i3, i4⟩ := module_open hI
  clear hI
  go_enter Tryz.func6, Tryz.ntmps6
  by_cases s1 : (1048576 : Int) - (moduleCost m : Nat) < 0
  · have l1 := left0_neg s1
    go_wp2_with (first | (go_at_call 7; (with_reducible refine Calls.mono (szModule _ _ _ (by omega) (by omega)) ?_); rintro e wk ⟨rfl, st⟩))
    go_ret
    exact ⟨rfl, mkFr⟩
  have l1 := left0_pos s1
  have z : moduleCost m ≤ 1048576 := by omega
  have hin := stack_in (m := m) (i := op)
  obtain ⟨L, hLe⟩ : ∃ L, stackL m op = L := ⟨_, rfl⟩
  obtain ⟨B, hBe⟩ : ∃ B, stackB m op = B := ⟨_, rfl⟩
  have hS := fun w9 F9 cs9 (h9 : Shows w9 F9 m cs9) => sstack m op w9 z (hm := h9)
  have hT := fun w9 F9 cs9 (h9 : Shows w9 F9 m cs9) (h8 : HasU8 w9) => istack m op w9 z (hm := h9) (hU := h8)
  rw [hLe, hBe] at hS hT
  rw [hLe] at hin
  replace hLe := hid hLe
  replace hBe := hid hBe
  go_wp2_with (first | (go_at_call 7; (with_reducible refine Calls.mono (szModule _ _ _ (by omega) (by omega)) ?_); rintro e wk ⟨rfl, st⟩) | (go_at_call 9; (with_reducible refine Calls.mono (toModule _ _ (by assumption)) ?_); rintro e wk ⟨b1, m1, b2, m2, b3, m3, b4, m4, b5, m5, b6, m6, G, rfl, kn, nw, st⟩))
  with_reducible refine Calls.mono (hS _ _ _ inferInstance) ?_
  rintro e w2 ⟨aD, cD, D, rfl, kD, nD, st2⟩
  go_wp2_with fail
  with_reducible refine Calls.mono (toModule m _ z) ?_
  rintro e w3 ⟨b1, m1, b2, m2, b3, m3, b4, m4, b5, m5, b6, m6, X, rfl, kx, nx, st3⟩
  go_wp2_with fail
  with_reducible refine Calls.mono (hT _ _ _ inferInstance inferInstance) ?_
  rintro e w4 ⟨aG, cG, GG, rfl, kG, nG, st4⟩
  have bG : (B != B) = false := by cases B <;> rfl
  go_wp2_with (first | (go_at_call 18; (with_reducible refine Calls.mono (eqInts ..) ?_); rintro e wk ⟨rfl, st⟩))
  refine rg_begin0 (n := 5) (by kernel_rfl) rfl fun rg0 => ?_
  refine rg_read (i := 0) (a1 := _) rfl (by kernel_rfl) rfl (by simp) (by intro wq hwq; go_wp2; exact ⟨rfl, rfl⟩) mkStep ?_
  refine rg_read (i := 1) (a1 := _) rfl (by kernel_rfl) rfl (by simp) (by intro wq hwq; go_wp2; exact ⟨rfl, rfl⟩) mkStep ?_
  refine rg_eff (i := 2) rfl (by kernel_rfl) ?_
  simp only [List.getElem_toArray, List.getElem_cons_succ, List.getElem_cons_zero]
  go_wp2_with (first | (go_at_call 9; (with_reducible refine Calls.mono (toModule _ _ (by assumption)) ?_); rintro e wk ⟨b1, m1, b2, m2, b3, m3, b4, m4, b5, m5, b6, m6, G, rfl, kn, nw, st⟩) | (go_at_call 11; (with_reducible refine Calls.mono (eqModule ..) ?_); rintro e wk ⟨rfl, st⟩))
  refine ⟨mkStep, ?_⟩
  refine rg_eff (i := 3) rfl (by kernel_rfl) ?_
  simp only [List.getElem_toArray, List.getElem_cons_succ, List.getElem_cons_zero]
  go_wp2_with (first | (go_at_call 9; (with_reducible refine Calls.mono (toModule _ _ (by assumption)) ?_); rintro e wk ⟨b1, m1, b2, m2, b3, m3, b4, m4, b5, m5, b6, m6, G, rfl, kn, nw, st⟩) | (go_at_call 11; (with_reducible refine Calls.mono (eqModule ..) ?_); rintro e wk ⟨rfl, st⟩))
  refine ⟨mkStep, ?_⟩
  refine rg_read (i := 4) (a1 := _) rfl (by kernel_rfl) rfl (by simp) (by intro wq hwq; go_wp2; exact ⟨rfl, rfl⟩) mkStep ?_
  refine rg_done (by kernel_rfl) ?_
  go_wp2_with fail
  have aDX : Apart D X := apart_lo kD nx
  have aGX : Apart GG X := apart_hi nG kx
  have sX : SubX W X [] := sub_of nx
  have hN : X.Nodup := nx.is.1
  have bX : NotIn w3.heap.size X := ⟨fun hx => by have := Rep.lt kx.is _ hx; omega⟩
  with_reducible refine Calls.mono (markModule m _ z hN) ?_
  rintro e w5 ⟨k, rfl, hk, st5⟩
  have k1 : ¬ k < 0 := by omega
  go_wp2_with (first | (go_at_call 18; (with_reducible refine Calls.mono (eqInts ..) ?_); rintro e wk ⟨rfl, st⟩))
  have sG : SubX W GG [] := sub_of nG
  have aDG : Apart D GG := apart_lo kD nG
  have i1 : In64 ((1 : Int) + L.length) := by unfold In64; omega
  have i2 : In64 (1 : Int) := by unfold In64; omega
  with_reducible refine Calls.mono (markInts (l := L) 1 _ i1 i2) ?_
  rintro e w6 ⟨rfl, st6, kM⟩
  have k2 : ¬ ((1 : Int) + L.length < 0) := by omega
  go_wp2_with fail
  with_reducible refine Calls.mono (heldInts (n := L.length) 1 _ i1 i2) ?_
  rintro e w7 ⟨rfl, st7⟩
  go_wp2_with fail
  with_reducible refine Calls.mono (toModule m _ z) ?_
  rintro e w8 ⟨b1, m1, b2, m2, b3, m3, b4, m4, b5, m5, b6, m6, X8, rfl, kx8, nx8, st8⟩
  go_wp2_with fail
  with_reducible refine Calls.mono (hT _ _ _ inferInstance inferInstance) ?_
  rintro e w9 ⟨aH, cH, H9, rfl, kH, nH, st9⟩
  go_wp2_with (first | (go_at_call 18; (with_reducible refine Calls.mono (eqInts ..) ?_); rintro e wk ⟨rfl, st⟩))
  with_reducible refine Calls.mono (heldInts (n := L.length) 1 _ i1 i2) ?_
  rintro e w10 ⟨rfl, st10⟩
  go_wp2
  go_ret
  exact ⟨rfl, mkFr⟩
end Go.Proofs.YtfddmelikahfbaaGreatDoor
