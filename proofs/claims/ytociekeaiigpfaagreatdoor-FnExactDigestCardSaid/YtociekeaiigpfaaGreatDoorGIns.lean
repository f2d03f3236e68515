/- The type Ins as plain data; contracts of the laws' own helpers for it. Written by gen.py. -/
import Derived.Test.YtociekeaiigpfaaGreatDoorRow
namespace Go.Proofs.YtociekeaiigpfaaGreatDoor
attribute [local go_sem ↓] Go.wp_at_zero Go.wp_at_succ
open Go.RowKit Go.ChangeShapes Go.WideShapes
open Rep (Is sz)

@[ext] structure InsD where
  op : Int
  a : Int
  b : Int
  deriving DecidableEq

instance : Rep InsD := Rep.via fun r => (r.op, r.a, r.b)

theorem ins_open {w : World} {F : List Nat} {r : InsD} {cs : List Value} (h : Is w F r cs) :
    cs = [.int .i64 r.op, .int .i64 r.a, .int .i64 r.b] ∧ F = [] ∧ In64 r.op ∧ In64 r.a ∧ In64 r.b := by
  obtain ⟨_, _, _, _, rfl, rfl, ⟨rfl, rfl, i0⟩, _, _, _, _, rfl, rfl, ⟨rfl, rfl, i1⟩, ⟨rfl, rfl, i2⟩⟩ := h
  exact ⟨rfl, by simp, i0, i1, i2⟩

theorem ins_shut {w : World} {r : InsD}  (i0 : In64 r.op) (i1 : In64 r.a) (i2 : In64 r.b) : Is w ([]) r [.int .i64 r.op, .int .i64 r.a, .int .i64 r.b] := by
  have h : Is w ([] ++ ([] ++ ([]))) r [.int .i64 r.op, .int .i64 r.a, .int .i64 r.b] := ⟨[], _, [_], _, rfl, rfl, ⟨rfl, rfl, i0⟩, ⟨[], _, [_], _, rfl, rfl, ⟨rfl, rfl, i1⟩, ⟨rfl, rfl, i2⟩⟩⟩
  simpa using h

set_option maxRecDepth 10000 in
theorem opens_ins : Opens Tryz.prog 197 InsD := by
  refine Opens.via _ (fun y => ⟨y.1, y.2.1, y.2.2⟩) (fun _ => rfl) ?_
  refine opens_struct Tryz.underlying197 (by kernel_rfl) ⟨_, rfl, rfl⟩ ?_
  exact fields_cons _ _ rfl rfl rfl (opens_int Tryz.underlying3 (by kernel_rfl)) (fields_cons _ _ rfl rfl rfl (opens_int Tryz.underlying3 (by kernel_rfl)) (fields_last _ rfl (opens_int Tryz.underlying3 (by kernel_rfl))))

def insCost (_ : InsD) : Nat := 0
def inssCost (l : List InsD) : Nat := l.length + (l.map insCost).sum

set_option maxHeartbeats 1000000 in
theorem eqIns {F G : List Nat} {cs ds : List Value} (r q : InsD) (w : World) [h : Shows w F r cs] [h' : Shows w G q ds] :
    Calls Tryz.prog 173 #[.agg cs.toArray, .agg ds.toArray] w fun e w' => e = .returned (.bool (decide (r = q))) ∧ Step w w' := by
  obtain ⟨rfl, rfl, i0, i1, i2⟩ := ins_open h.is
  obtain ⟨rfl, rfl, j0, j1, j2⟩ := ins_open h'.is
  have no : ∀ {p : Prop}, (r = q → p) → ¬ p → decide (r = q) = false := fun h1 h2 => decide_eq_false_iff_not.2 (fun e => h2 (h1 e))
  clear h h'
  go_enter Tryz.func173, Tryz.ntmps173
  by_cases c0 : r.op = q.op
  rotate_left
  · have hn := no (congrArg InsD.op) c0
    replace hn := hid hn
    go_wp2
    go_ret
    exact ⟨by rw [hn.out]; rfl, mkStep⟩
  by_cases c1 : r.a = q.a
  rotate_left
  · have hn := no (congrArg InsD.a) c1
    replace hn := hid hn
    go_wp2
    go_ret
    exact ⟨by rw [hn.out]; rfl, mkStep⟩
  by_cases c2 : r.b = q.b
  rotate_left
  · have hn := no (congrArg InsD.b) c2
    replace hn := hid hn
    go_wp2
    go_ret
    exact ⟨by rw [hn.out]; rfl, mkStep⟩
  have hy : decide (r = q) = true := decide_eq_true_iff.2 (InsD.ext c0 c1 c2)
  replace hy := hid hy
  go_wp2
  go_ret
  exact ⟨by rw [hy.out]; rfl, mkStep⟩

set_option maxHeartbeats 1000000 in
theorem toIns {F : List Nat} {cs : List Value} (r : InsD) (w : World) (_hb : insCost r ≤ 1048576) [h : Shows w F r cs] :
    Calls Tryz.prog 171 #[.agg cs.toArray] w fun e w' => ∃  G, e = .returned (.agg #[.int .i64 r.op, .int .i64 r.a, .int .i64 r.b]) ∧ Known w' G r [.int .i64 r.op, .int .i64 r.a, .int .i64 r.b] ∧ NewF w G ∧ Step w w' := by
  obtain ⟨rfl, rfl, i0, i1, i2⟩ := ins_open h.is
  clear h
  go_enter Tryz.func171, Tryz.ntmps171
  go_wp2
  refine bodyPost_ret (v := .agg #[.int .i64 r.op, .int .i64 r.a, .int .i64 r.b]) (by simp [results, Tryz.results171, go_sem]) rfl ?_
  exact ⟨_, rfl, ⟨ins_shut i0 i1 i2⟩, newf_nil _, mkStep⟩
set_option maxRecDepth 10000 in
theorem opens_inss : Opens Tryz.prog 110 (List InsD) := opens_slice Tryz.underlying110 (by kernel_rfl) (by decide) opens_ins
theorem insSum (l : List InsD) : (l.map insCost).sum = 0 := by
  induction l with
  | nil => rfl
  | cons x l ih => rw [List.map_cons, List.sum_cons, ih]; rfl
theorem szInsS {F : List Nat} {v : Value} (l : List InsD) (left : Int) (w : World) (h0 : 0 ≤ left) (h1 : left ≤ 1048576) [h : Shows w F l [v]] :
    Calls Tryz.prog 126 #[v, .int .i64 left] w fun e w' => e = .returned (.int .i64 (left0 left (inssCost l))) ∧ Step w w' := by
  obtain ⟨a, cap, cl, FF, hv, _, hvw, hr, hml⟩ := list_open h.is
  cases hv
  unfold maxLen at hml
  clear h
  have hc0 : inssCost l = l.length := by unfold inssCost; rw [insSum]; rfl
  replace hc0 := hid hc0
  go_enter Tryz.func126, Tryz.ntmps126
  by_cases hl : left - l.length < 0
  · go_wp2
    go_ret
    exact ⟨by rw [hc0.out, left0_neg (by omega)]; rfl, mkStep⟩
  · go_wp2
    go_ret
    exact ⟨by rw [hc0.out, left0_pos (by omega)]; rfl, mkStep⟩
set_option maxHeartbeats 1000000 in
theorem eqInsS {F G : List Nat} {v u : Value} (l m : List InsD) (w : World) [h : Shows w F l [v]] [h' : Shows w G m [u]] :
    Calls Tryz.prog 137 #[v, u] w fun e w' => e = .returned (.bool (decide (l = m))) ∧ Step w w' := by
  obtain ⟨a, cap, cl, FF, hv, _, hvw, hr, hml⟩ := list_open h.is
  cases hv
  obtain ⟨a', cap', cl', FF', hv', _, hvw', hr', hml'⟩ := list_open h'.is
  cases hv'
  unfold maxLen at hml hml'
  clear h h'
  go_enter Tryz.func137, Tryz.ntmps137
  by_cases hl : l.length = m.length
  · go_wp2
    have l1 : l.length ≤ m.length := by omega
    have l2 : m.length ≤ l.length := by omega
    clear hl
    go_loopw [5] (fun i wr => ∃ k : Nat, k ≤ l.length ∧ i = .int .i64 k ∧ Step w wr ∧ Hid (∀ j : Nat, j < k → l[j]? = m[j]?)) (fun i _ => l.length - (intOf i).toNat)
    case atStart => exact ⟨0, by omega, rfl, mkStep, fun j hj => by omega⟩
    case round =>
      obtain ⟨k, hk, rfl, st, heq⟩ := hrel
      by_cases hlt : k < l.length
      · have hlt' : k < m.length := by omega
        obtain ⟨b, o, G, cs, rfl, hG, hI, hc, ho⟩ := hvw.row hr rfl (by decide) k hlt
        have hI0 := hI
        obtain ⟨rfl, rfl, i0, i1, i2⟩ := ins_open hI0
        have ke : Known w _ l[k] _ := ⟨hI⟩
        have c0 := (hc 0 _ rfl).1
        replace c0 : w.cell? ⟨b, o + k * 3, none⟩ = _ := c0
        have c1 := (hc 1 _ rfl).1
        replace c1 : w.cell? ⟨b, o + k * 3 + 1, none⟩ = _ := c1
        have c2 := (hc 2 _ rfl).1
        replace c2 : w.cell? ⟨b, o + k * 3 + 2, none⟩ = _ := c2
        clear hc
        obtain ⟨b', o', G', cs', rfl, hG', hI', hc', ho'⟩ := hvw'.row hr' rfl (by decide) k hlt'
        have hI0' := hI'
        obtain ⟨rfl, rfl, i0', i1', i2'⟩ := ins_open hI0'
        have ke' : Known w _ m[k] _ := ⟨hI'⟩
        have c0' := (hc' 0 _ rfl).1
        replace c0' : w.cell? ⟨b', o' + k * 3, none⟩ = _ := c0'
        have c1' := (hc' 1 _ rfl).1
        replace c1' : w.cell? ⟨b', o' + k * 3 + 1, none⟩ = _ := c1'
        have c2' := (hc' 2 _ rfl).1
        replace c2' : w.cell? ⟨b', o' + k * 3 + 2, none⟩ = _ := c2'
        clear hc'
        have b1 : (0 : Int) ≤ (k : Int) := by omega
        have b2 : (k : Int) < (l.length : Int) := by omega
        have b3 : (k : Int) < (m.length : Int) := by omega
        by_cases he : l[k] = m[k]
        · have e1 := decide_eq_true he
          replace he := hid he
          go_wp2_with fail
          refine rg_begin0 (n := 10) (by kernel_rfl) rfl fun rg0 => ?_
          refine rg_read (i := 0) (a1 := _) rfl (by kernel_rfl) rfl (by simp) (by intro wq hwq; go_wp2; exact ⟨rfl, rfl⟩) mkStep ?_
          refine rg_read (i := 1) (a1 := _) rfl (by kernel_rfl) rfl (by simp) (by intro wq hwq; go_wp2; exact ⟨rfl, rfl⟩) mkStep ?_
          refine rg_read (i := 2) (a1 := _) rfl (by kernel_rfl) rfl (by simp) (by intro wq hwq; go_wp2; exact ⟨rfl, rfl⟩) mkStep ?_
          refine rg_read (i := 3) (a1 := _) rfl (by kernel_rfl) rfl (by simp) (by intro wq hwq; go_wp2; exact ⟨rfl, rfl⟩) mkStep ?_
          refine rg_read (i := 4) (a1 := _) rfl (by kernel_rfl) rfl (by simp) (by intro wq hwq; go_wp2; exact ⟨rfl, rfl⟩) mkStep ?_
          refine rg_read (i := 5) (a1 := _) rfl (by kernel_rfl) rfl (by simp) (by intro wq hwq; go_wp2; exact ⟨rfl, rfl⟩) mkStep ?_
          refine rg_read (i := 6) (a1 := _) rfl (by kernel_rfl) rfl (by simp) (by intro wq hwq; go_wp2; exact ⟨rfl, rfl⟩) mkStep ?_
          refine rg_read (i := 7) (a1 := _) rfl (by kernel_rfl) rfl (by simp) (by intro wq hwq; go_wp2; exact ⟨rfl, rfl⟩) mkStep ?_
          refine rg_eff (i := 8) rfl (by kernel_rfl) ?_
          simp only [List.getElem_toArray, List.getElem_cons_succ, List.getElem_cons_zero]
          go_wp2_with (first | (go_at_call 173; (with_reducible refine Calls.mono (eqIns ..) ?_); rintro e wk ⟨rfl, st⟩))
          refine ⟨mkStep, ?_⟩
          refine rg_read (i := 9) (a1 := _) rfl (by kernel_rfl) rfl (by simp) (by intro wq hwq; go_wp2; exact ⟨rfl, rfl⟩) mkStep ?_
          refine rg_done (by kernel_rfl) ?_
          go_wp2
          go_roundw
          case rel => exact ⟨k + 1, by omega, by go_num, mkStep, upto_step heq.out hlt (by omega) he.out⟩
          case measure => simp [intOf]; omega
        · have e1 := decide_eq_false he
          replace he := hid he
          go_wp2_with fail
          refine rg_begin0 (n := 10) (by kernel_rfl) rfl fun rg0 => ?_
          refine rg_read (i := 0) (a1 := _) rfl (by kernel_rfl) rfl (by simp) (by intro wq hwq; go_wp2; exact ⟨rfl, rfl⟩) mkStep ?_
          refine rg_read (i := 1) (a1 := _) rfl (by kernel_rfl) rfl (by simp) (by intro wq hwq; go_wp2; exact ⟨rfl, rfl⟩) mkStep ?_
          refine rg_read (i := 2) (a1 := _) rfl (by kernel_rfl) rfl (by simp) (by intro wq hwq; go_wp2; exact ⟨rfl, rfl⟩) mkStep ?_
          refine rg_read (i := 3) (a1 := _) rfl (by kernel_rfl) rfl (by simp) (by intro wq hwq; go_wp2; exact ⟨rfl, rfl⟩) mkStep ?_
          refine rg_read (i := 4) (a1 := _) rfl (by kernel_rfl) rfl (by simp) (by intro wq hwq; go_wp2; exact ⟨rfl, rfl⟩) mkStep ?_
          refine rg_read (i := 5) (a1 := _) rfl (by kernel_rfl) rfl (by simp) (by intro wq hwq; go_wp2; exact ⟨rfl, rfl⟩) mkStep ?_
          refine rg_read (i := 6) (a1 := _) rfl (by kernel_rfl) rfl (by simp) (by intro wq hwq; go_wp2; exact ⟨rfl, rfl⟩) mkStep ?_
          refine rg_read (i := 7) (a1 := _) rfl (by kernel_rfl) rfl (by simp) (by intro wq hwq; go_wp2; exact ⟨rfl, rfl⟩) mkStep ?_
          refine rg_eff (i := 8) rfl (by kernel_rfl) ?_
          simp only [List.getElem_toArray, List.getElem_cons_succ, List.getElem_cons_zero]
          go_wp2_with (first | (go_at_call 173; (with_reducible refine Calls.mono (eqIns ..) ?_); rintro e wk ⟨rfl, st⟩))
          refine ⟨mkStep, ?_⟩
          refine rg_read (i := 9) (a1 := _) rfl (by kernel_rfl) rfl (by simp) (by intro wq hwq; go_wp2; exact ⟨rfl, rfl⟩) mkStep ?_
          refine rg_done (by kernel_rfl) ?_
          go_wp2
          go_ret
          exact ⟨by rw [upto_ne hlt (by omega) he.out]; rfl, mkStep⟩
      · go_wp2
        go_ret
        exact ⟨by rw [upto_all (by omega) (by omega) heq.out]; rfl, mkStep⟩
  · go_wp2
    go_ret
    exact ⟨ret_bool (by simp; intro e; exact hl (by rw [e])), mkStep⟩
theorem Tryz.inss_tab : Tryz.prog.underlying 95 = some (.slice 159) ∧ (Tryz.prog.info? 159).map (fun i => (i.zero, i.size, i.bytes)) = some (some (.agg #[.int .i64 0, .int .i64 0, .int .i64 0]), 3, 24) ∧ (.agg #[.int .i64 0, .int .i64 0, .int .i64 0] : Value).cells.size = 3 ∧ 0 < 3 ∧ 0 < 24 :=
  ⟨by kernel_rfl, by kernel_rfl, rfl, by decide, by decide⟩
set_option maxHeartbeats 1000000 in
theorem toInsS {F : List Nat} {v : Value} (l : List InsD) (w : World) (hs : inssCost l ≤ 1048576) [h : Shows w F l [v]] :
    Calls Tryz.prog 132 #[v] w fun e w' => ∃ a c G, e = .returned (.slice a l.length c) ∧ Known w' G l [.slice a l.length c] ∧ NewF w G ∧ Step w w' := by
  obtain ⟨a, cap, cl, FF, hv, _, hvw, hr, hml⟩ := list_open h.is
  cases hv
  unfold maxLen at hml
  clear h
  have hs1 : l.length ≤ 1048576 := by unfold inssCost at hs; omega
  have hs2 : ∀ k (hk : k < l.length), insCost l[k] ≤ 1048576 := fun k hk => cost_at _ hs hk
  replace hs2 := hid hs2
  clear hs
  obtain ⟨w1, Z, hrun, hown, hf1⟩ := made_any (P := Tryz.prog) w l.length _ _ _ _ _ Tryz.inss_tab (by omega)
  have s1 : Step w w1 := ⟨hf1⟩
  go_enter Tryz.func132, Tryz.ntmps132
  go_wp2
  go_loopw [4] (fun i wr => ∃ k : Nat, k ≤ l.length ∧ i = .int .i64 k ∧ Step w wr ∧ Build w wr 159 l k) (fun i _ => l.length - (intOf i).toNat)
  case atStart => exact ⟨0, by omega, rfl, mkStep, Build.start hown⟩
  case round =>
    obtain ⟨k, hk, rfl, st, hB⟩ := hrel
    by_cases hlt : k < l.length
    · have hz := hs2.out k hlt
      obtain ⟨b, o, G, cs, rfl, hG, hI, hc, ho⟩ := hvw.row hr rfl (by decide) k hlt
      have hI0 := hI
      obtain ⟨rfl, rfl, i0, i1, i2⟩ := ins_open hI0
      have ke : Known w _ l[k] _ := ⟨hI⟩
      have c0 := (hc 0 _ rfl).1
      replace c0 : w.cell? ⟨b, o + k * 3, none⟩ = _ := c0
      have c1 := (hc 1 _ rfl).1
      replace c1 : w.cell? ⟨b, o + k * 3 + 1, none⟩ = _ := c1
      have c2 := (hc 2 _ rfl).1
      replace c2 : w.cell? ⟨b, o + k * 3 + 2, none⟩ = _ := c2
      clear hc
      obtain ⟨hB1, hB2⟩ := hB.slots hlt
      have og := hB2 (by decide)
      obtain ⟨u0, d0, f0⟩ := hB1 0 (by decide)
      replace d0 : wr.cell? ⟨w.heap.size, k * 3, none⟩ = _ := d0
      replace f0 : wr.frozen? ⟨w.heap.size, k * 3, none⟩ = _ := f0
      obtain ⟨u1, d1, f1⟩ := hB1 1 (by decide)
      replace d1 : wr.cell? ⟨w.heap.size, k * 3 + 1, none⟩ = _ := d1
      replace f1 : wr.frozen? ⟨w.heap.size, k * 3 + 1, none⟩ = _ := f1
      obtain ⟨u2, d2, f2⟩ := hB1 2 (by decide)
      replace d2 : wr.cell? ⟨w.heap.size, k * 3 + 2, none⟩ = _ := d2
      replace f2 : wr.frozen? ⟨w.heap.size, k * 3 + 2, none⟩ = _ := f2
      clear hB1 hB2
      go_wp2_with fail
      with_reducible refine Calls.mono (toIns _ _ hz) ?_
      rintro e wk ⟨G2, rfl, kn, nw, st2⟩
      have hS := hB.step hlt (by decide) st2.fr kn.is nw.is
      rw [show sz InsD = 3 from rfl] at hS
      simp only [setRow, Nat.add_assoc, Nat.reduceAdd] at hS
      replace hS := hid hS
      go_wp2
      go_roundw
      case rel => exact ⟨k + 1, by omega, by go_num, mkStep, hS.out⟩
      case measure => simp [intOf]; omega
    · obtain rfl : k = l.length := by omega
      obtain ⟨G2, hI, hN⟩ := hB.done (by decide)
      go_wp2
      go_ret
      exact ⟨_, _, _, rfl, ⟨hI⟩, ⟨hN⟩, mkStep⟩
end Go.Proofs.YtociekeaiigpfaaGreatDoor
