/- The type Global as plain data; contracts of the laws' own helpers for it. Written by gen.py. -/
import Derived.Test.YtociekeaiigpfaaGreatDoorRow
namespace Go.Proofs.YtociekeaiigpfaaGreatDoor
attribute [local go_sem ↓] Go.wp_at_zero Go.wp_at_succ
open Go.RowKit Go.ChangeShapes Go.WideShapes
open Rep (Is sz)

@[ext] structure GlobalD where
  isMut : Bool
  init : Int
  deriving DecidableEq

instance : Rep GlobalD := Rep.via fun r => (r.isMut, r.init)

theorem global_open {w : World} {F : List Nat} {r : GlobalD} {cs : List Value} (h : Is w F r cs) :
    cs = [.bool r.isMut, .int .i64 r.init] ∧ F = [] ∧ In64 r.init := by
  obtain ⟨_, _, _, _, rfl, rfl, ⟨rfl, rfl⟩, ⟨rfl, rfl, i1⟩⟩ := h
  exact ⟨rfl, by simp, i1⟩

theorem global_shut {w : World} {r : GlobalD}  (i1 : In64 r.init) : Is w ([]) r [.bool r.isMut, .int .i64 r.init] := by
  have h : Is w ([] ++ ([])) r [.bool r.isMut, .int .i64 r.init] := ⟨[], _, [_], _, rfl, rfl, ⟨rfl, rfl⟩, ⟨rfl, rfl, i1⟩⟩
  simpa using h

set_option maxRecDepth 10000 in
theorem opens_global : Opens Tryz.prog 132 GlobalD := by
  refine Opens.via _ (fun y => ⟨y.1, y.2⟩) (fun _ => rfl) ?_
  refine opens_struct Tryz.underlying132 (by kernel_rfl) ⟨_, rfl, rfl⟩ ?_
  exact fields_cons _ _ rfl rfl rfl (opens_bool Tryz.underlying4 (by kernel_rfl)) (fields_last _ rfl (opens_int Tryz.underlying3 (by kernel_rfl)))

def globalCost (_ : GlobalD) : Nat := 0
def globalsCost (l : List GlobalD) : Nat := l.length + (l.map globalCost).sum

set_option maxHeartbeats 1000000 in
theorem eqGlobal {F G : List Nat} {cs ds : List Value} (r q : GlobalD) (w : World) [h : Shows w F r cs] [h' : Shows w G q ds] :
    Calls Tryz.prog 97 #[.agg cs.toArray, .agg ds.toArray] w fun e w' => e = .returned (.bool (decide (r = q))) ∧ Step w w' := by
  obtain ⟨rfl, rfl, i1⟩ := global_open h.is
  obtain ⟨rfl, rfl, j1⟩ := global_open h'.is
  have no : ∀ {p : Prop}, (r = q → p) → ¬ p → decide (r = q) = false := fun h1 h2 => decide_eq_false_iff_not.2 (fun e => h2 (h1 e))
  clear h h'
  go_enter Tryz.func97, Tryz.ntmps97
  by_cases c0 : r.isMut = q.isMut
  rotate_left
  · have hn := no (congrArg GlobalD.isMut) c0
    replace hn := hid hn
    have e0 : (r.isMut == q.isMut) = false := beq_eq_false_iff_ne.2 c0
    replace c0 := hid c0
    go_wp2
    go_ret
    exact ⟨by rw [hn.out]; rfl, mkStep⟩
  have e0 : (r.isMut == q.isMut) = true := beq_iff_eq.2 c0
  replace c0 := hid c0
  by_cases c1 : r.init = q.init
  rotate_left
  · have hn := no (congrArg GlobalD.init) c1
    replace hn := hid hn
    go_wp2
    go_ret
    exact ⟨by rw [hn.out]; rfl, mkStep⟩
  have hy : decide (r = q) = true := decide_eq_true_iff.2 (GlobalD.ext c0.out c1)
  replace hy := hid hy
  go_wp2
  go_ret
  exact ⟨by rw [hy.out]; rfl, mkStep⟩

set_option maxHeartbeats 1000000 in
theorem toGlobal {F : List Nat} {cs : List Value} (r : GlobalD) (w : World) (_hb : globalCost r ≤ 1048576) [h : Shows w F r cs] :
    Calls Tryz.prog 73 #[.agg cs.toArray] w fun e w' => ∃  G, e = .returned (.agg #[.bool r.isMut, .int .i64 r.init]) ∧ Known w' G r [.bool r.isMut, .int .i64 r.init] ∧ NewF w G ∧ Step w w' := by
  obtain ⟨rfl, rfl, i1⟩ := global_open h.is
  clear h
  go_enter Tryz.func73, Tryz.ntmps73
  go_wp2
  refine bodyPost_ret (v := .agg #[.bool r.isMut, .int .i64 r.init]) (by simp [results, Tryz.results73, go_sem]) rfl ?_
  exact ⟨_, rfl, ⟨global_shut i1⟩, newf_nil _, mkStep⟩
set_option maxRecDepth 10000 in
theorem opens_globals : Opens Tryz.prog 25 (List GlobalD) := opens_slice Tryz.underlying25 (by kernel_rfl) (by decide) opens_global
theorem globalSum (l : List GlobalD) : (l.map globalCost).sum = 0 := by
  induction l with
  | nil => rfl
  | cons x l ih => rw [List.map_cons, List.sum_cons, ih]; rfl
theorem szGlobalS {F : List Nat} {v : Value} (l : List GlobalD) (left : Int) (w : World) (h0 : 0 ≤ left) (h1 : left ≤ 1048576) [h : Shows w F l [v]] :
    Calls Tryz.prog 21 #[v, .int .i64 left] w fun e w' => e = .returned (.int .i64 (left0 left (globalsCost l))) ∧ Step w w' := by
  obtain ⟨a, cap, cl, FF, hv, _, hvw, hr, hml⟩ := list_open h.is
  cases hv
  unfold maxLen at hml
  clear h
  have hc0 : globalsCost l = l.length := by unfold globalsCost; rw [globalSum]; rfl
  replace hc0 := hid hc0
  go_enter Tryz.func21, Tryz.ntmps21
  by_cases hl : left - l.length < 0
  · go_wp2
    go_ret
    exact ⟨by rw [hc0.out, left0_neg (by omega)]; rfl, mkStep⟩
  · go_wp2
    go_ret
    exact ⟨by rw [hc0.out, left0_pos (by omega)]; rfl, mkStep⟩
set_option maxHeartbeats 1000000 in
theorem eqGlobalS {F G : List Nat} {v u : Value} (l m : List GlobalD) (w : World) [h : Shows w F l [v]] [h' : Shows w G m [u]] :
    Calls Tryz.prog 35 #[v, u] w fun e w' => e = .returned (.bool (decide (l = m))) ∧ Step w w' := by
  obtain ⟨a, cap, cl, FF, hv, _, hvw, hr, hml⟩ := list_open h.is
  cases hv
  obtain ⟨a', cap', cl', FF', hv', _, hvw', hr', hml'⟩ := list_open h'.is
  cases hv'
  unfold maxLen at hml hml'
  clear h h'
  go_enter Tryz.func35, Tryz.ntmps35
  by_cases hl : l.length = m.length
  · go_wp2
    have l1 : l.length ≤ m.length := by omega
    have l2 : m.length ≤ l.length := by omega
    clear hl
    go_loopw [5] (fun i wr => ∃ k : Nat, k ≤ l.length ∧ i = .int .i64 k ∧ Step w wr ∧ Hid (∀ j : Nat, j < k → l[j]? = m[j]?)) (fun i _ => l.length - (intOf i).toNat)
    case atStart => exact ⟨0, by omega, rfl, mkStep, fun j hj => by omega⟩
    case round =>
      obtain ⟨k, hk, rfl, st, heq⟩ := hrel
      by_cases hlt : k < l.length
      · have hlt' : k < m.length := by omega
        obtain ⟨b, o, G, cs, rfl, hG, hI, hc, ho⟩ := hvw.row hr rfl (by decide) k hlt
        have hI0 := hI
        obtain ⟨rfl, rfl, i1⟩ := global_open hI0
        have ke : Known w _ l[k] _ := ⟨hI⟩
        have c0 := (hc 0 _ rfl).1
        replace c0 : w.cell? ⟨b, o + k * 2, none⟩ = _ := c0
        have c1 := (hc 1 _ rfl).1
        replace c1 : w.cell? ⟨b, o + k * 2 + 1, none⟩ = _ := c1
        clear hc
        obtain ⟨b', o', G', cs', rfl, hG', hI', hc', ho'⟩ := hvw'.row hr' rfl (by decide) k hlt'
        have hI0' := hI'
        obtain ⟨rfl, rfl, i1'⟩ := global_open hI0'
        have ke' : Known w _ m[k] _ := ⟨hI'⟩
        have c0' := (hc' 0 _ rfl).1
        replace c0' : w.cell? ⟨b', o' + k * 2, none⟩ = _ := c0'
        have c1' := (hc' 1 _ rfl).1
        replace c1' : w.cell? ⟨b', o' + k * 2 + 1, none⟩ = _ := c1'
        clear hc'
        have b1 : (0 : Int) ≤ (k : Int) := by omega
        have b2 : (k : Int) < (l.length : Int) := by omega
        have b3 : (k : Int) < (m.length : Int) := by omega
        by_cases he : l[k] = m[k]
        · have e1 := decide_eq_true he
          replace he := hid he
          go_wp2_with fail
          refine rg_begin0 (n := 10) (by kernel_rfl) rfl fun rg0 => ?_
          refine rg_read (i := 0) (a1 := _) rfl (by kernel_rfl) rfl (by simp) (by intro wq hwq; go_wp2; exact ⟨rfl, rfl⟩) mkStep ?_
          refine rg_read (i := 1) (a1 := _) rfl (by kernel_rfl) rfl (by simp) (by intro wq hwq; go_wp2; exact ⟨rfl, rfl⟩) mkStep ?_
          refine rg_read (i := 2) (a1 := _) rfl (by kernel_rfl) rfl (by simp) (by intro wq hwq; go_wp2; exact ⟨rfl, rfl⟩) mkStep ?_
          refine rg_read (i := 3) (a1 := _) rfl (by kernel_rfl) rfl (by simp) (by intro wq hwq; go_wp2; exact ⟨rfl, rfl⟩) mkStep ?_
          refine rg_read (i := 4) (a1 := _) rfl (by kernel_rfl) rfl (by simp) (by intro wq hwq; go_wp2; exact ⟨rfl, rfl⟩) mkStep ?_
          refine rg_read (i := 5) (a1 := _) rfl (by kernel_rfl) rfl (by simp) (by intro wq hwq; go_wp2; exact ⟨rfl, rfl⟩) mkStep ?_
          refine rg_read (i := 6) (a1 := _) rfl (by kernel_rfl) rfl (by simp) (by intro wq hwq; go_wp2; exact ⟨rfl, rfl⟩) mkStep ?_
          refine rg_read (i := 7) (a1 := _) rfl (by kernel_rfl) rfl (by simp) (by intro wq hwq; go_wp2; exact ⟨rfl, rfl⟩) mkStep ?_
          refine rg_eff (i := 8) rfl (by kernel_rfl) ?_
          simp only [List.getElem_toArray, List.getElem_cons_succ, List.getElem_cons_zero]
          go_wp2_with (first | (go_at_call 97; (with_reducible refine Calls.mono (eqGlobal ..) ?_); rintro e wk ⟨rfl, st⟩))
          refine ⟨mkStep, ?_⟩
          refine rg_read (i := 9) (a1 := _) rfl (by kernel_rfl) rfl (by simp) (by intro wq hwq; go_wp2; exact ⟨rfl, rfl⟩) mkStep ?_
          refine rg_done (by kernel_rfl) ?_
          go_wp2
          go_roundw
          case rel => exact ⟨k + 1, by omega, by go_num, mkStep, upto_step heq.out hlt (by omega) he.out⟩
          case measure => simp [intOf]; omega
        · have e1 := decide_eq_false he
          replace he := hid he
          go_wp2_with fail
          refine rg_begin0 (n := 10) (by kernel_rfl) rfl fun rg0 => ?_
          refine rg_read (i := 0) (a1 := _) rfl (by kernel_rfl) rfl (by simp) (by intro wq hwq; go_wp2; exact ⟨rfl, rfl⟩) mkStep ?_
          refine rg_read (i := 1) (a1 := _) rfl (by kernel_rfl) rfl (by simp) (by intro wq hwq; go_wp2; exact ⟨rfl, rfl⟩) mkStep ?_
          refine rg_read (i := 2) (a1 := _) rfl (by kernel_rfl) rfl (by simp) (by intro wq hwq; go_wp2; exact ⟨rfl, rfl⟩) mkStep ?_
          refine rg_read (i := 3) (a1 := _) rfl (by kernel_rfl) rfl (by simp) (by intro wq hwq; go_wp2; exact ⟨rfl, rfl⟩) mkStep ?_
          refine rg_read (i := 4) (a1 := _) rfl (by kernel_rfl) rfl (by simp) (by intro wq hwq; go_wp2; exact ⟨rfl, rfl⟩) mkStep ?_
          refine rg_read (i := 5) (a1 := _) rfl (by kernel_rfl) rfl (by simp) (by intro wq hwq; go_wp2; exact ⟨rfl, rfl⟩) mkStep ?_
          refine rg_read (i := 6) (a1 := _) rfl (by kernel_rfl) rfl (by simp) (by intro wq hwq; go_wp2; exact ⟨rfl, rfl⟩) mkStep ?_
          refine rg_read (i := 7) (a1 := _) rfl (by kernel_rfl) rfl (by simp) (by intro wq hwq; go_wp2; exact ⟨rfl, rfl⟩) mkStep ?_
          refine rg_eff (i := 8) rfl (by kernel_rfl) ?_
          simp only [List.getElem_toArray, List.getElem_cons_succ, List.getElem_cons_zero]
          go_wp2_with (first | (go_at_call 97; (with_reducible refine Calls.mono (eqGlobal ..) ?_); rintro e wk ⟨rfl, st⟩))
          refine ⟨mkStep, ?_⟩
          refine rg_read (i := 9) (a1 := _) rfl (by kernel_rfl) rfl (by simp) (by intro wq hwq; go_wp2; exact ⟨rfl, rfl⟩) mkStep ?_
          refine rg_done (by kernel_rfl) ?_
          go_wp2
          go_ret
          exact ⟨by rw [upto_ne hlt (by omega) he.out]; rfl, mkStep⟩
      · go_wp2
        go_ret
        exact ⟨by rw [upto_all (by omega) (by omega) heq.out]; rfl, mkStep⟩
  · go_wp2
    go_ret
    exact ⟨ret_bool (by simp; intro e; exact hl (by rw [e])), mkStep⟩
theorem Tryz.globals_tab : Tryz.prog.underlying 35 = some (.slice 100) ∧ (Tryz.prog.info? 100).map (fun i => (i.zero, i.size, i.bytes)) = some (some (.agg #[.bool false, .int .i64 0]), 2, 16) ∧ (.agg #[.bool false, .int .i64 0] : Value).cells.size = 2 ∧ 0 < 2 ∧ 0 < 16 :=
  ⟨by kernel_rfl, by kernel_rfl, rfl, by decide, by decide⟩
set_option maxHeartbeats 1000000 in
theorem toGlobalS {F : List Nat} {v : Value} (l : List GlobalD) (w : World) (hs : globalsCost l ≤ 1048576) [h : Shows w F l [v]] :
    Calls Tryz.prog 28 #[v] w fun e w' => ∃ a c G, e = .returned (.slice a l.length c) ∧ Known w' G l [.slice a l.length c] ∧ NewF w G ∧ Step w w' := by
  obtain ⟨a, cap, cl, FF, hv, _, hvw, hr, hml⟩ := list_open h.is
  cases hv
  unfold maxLen at hml
  clear h
  have hs1 : l.length ≤ 1048576 := by unfold globalsCost at hs; omega
  have hs2 : ∀ k (hk : k < l.length), globalCost l[k] ≤ 1048576 := fun k hk => cost_at _ hs hk
  replace hs2 := hid hs2
  clear hs
  obtain ⟨w1, Z, hrun, hown, hf1⟩ := made_any (P := Tryz.prog) w l.length _ _ _ _ _ Tryz.globals_tab (by omega)
  have s1 : Step w w1 := ⟨hf1⟩
  go_enter Tryz.func28, Tryz.ntmps28
  go_wp2
  go_loopw [4] (fun i wr => ∃ k : Nat, k ≤ l.length ∧ i = .int .i64 k ∧ Step w wr ∧ Build w wr 100 l k) (fun i _ => l.length - (intOf i).toNat)
  case atStart => exact ⟨0, by omega, rfl, mkStep, Build.start hown⟩
  case round =>
    obtain ⟨k, hk, rfl, st, hB⟩ := hrel
    by_cases hlt : k < l.length
    · have hz := hs2.out k hlt
      obtain ⟨b, o, G, cs, rfl, hG, hI, hc, ho⟩ := hvw.row hr rfl (by decide) k hlt
      have hI0 := hI
      obtain ⟨rfl, rfl, i1⟩ := global_open hI0
      have ke : Known w _ l[k] _ := ⟨hI⟩
      have c0 := (hc 0 _ rfl).1
      replace c0 : w.cell? ⟨b, o + k * 2, none⟩ = _ := c0
      have c1 := (hc 1 _ rfl).1
      replace c1 : w.cell? ⟨b, o + k * 2 + 1, none⟩ = _ := c1
      clear hc
      obtain ⟨hB1, hB2⟩ := hB.slots hlt
      have og := hB2 (by decide)
      obtain ⟨u0, d0, f0⟩ := hB1 0 (by decide)
      replace d0 : wr.cell? ⟨w.heap.size, k * 2, none⟩ = _ := d0
      replace f0 : wr.frozen? ⟨w.heap.size, k * 2, none⟩ = _ := f0
      obtain ⟨u1, d1, f1⟩ := hB1 1 (by decide)
      replace d1 : wr.cell? ⟨w.heap.size, k * 2 + 1, none⟩ = _ := d1
      replace f1 : wr.frozen? ⟨w.heap.size, k * 2 + 1, none⟩ = _ := f1
      clear hB1 hB2
      go_wp2_with fail
      with_reducible refine Calls.mono (toGlobal _ _ hz) ?_
      rintro e wk ⟨G2, rfl, kn, nw, st2⟩
      have hS := hB.step hlt (by decide) st2.fr kn.is nw.is
      rw [show sz GlobalD = 2 from rfl] at hS
      simp only [setRow] at hS
      replace hS := hid hS
      go_wp2
      go_roundw
      case rel => exact ⟨k + 1, by omega, by go_num, mkStep, hS.out⟩
      case measure => simp [intOf]; omega
    · obtain rfl : k = l.length := by omega
      obtain ⟨G2, hI, hN⟩ := hB.done (by decide)
      go_wp2
      go_ret
      exact ⟨_, _, _, rfl, ⟨hI⟩, ⟨hN⟩, mkStep⟩
end Go.Proofs.YtociekeaiigpfaaGreatDoor
