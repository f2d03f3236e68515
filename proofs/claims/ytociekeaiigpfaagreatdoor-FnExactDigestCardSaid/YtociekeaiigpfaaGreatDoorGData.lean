/- The type Data as plain data; contracts of the laws' own helpers for it. Written by gen.py. -/
import Derived.Test.YtociekeaiigpfaaGreatDoorRow
import Derived.Test.YtociekeaiigpfaaGreatDoorBytes
namespace Go.Proofs.YtociekeaiigpfaaGreatDoor
attribute [local go_sem ↓] Go.wp_at_zero Go.wp_at_succ
open Go.RowKit Go.ChangeShapes Go.WideShapes
open Rep (Is sz)

@[ext] structure DataD where
  pos : Int
  bytes : List UInt8
  deriving DecidableEq

instance : Rep DataD := Rep.via fun r => (r.pos, r.bytes)

theorem data_open {w : World} {F : List Nat} {r : DataD} {cs : List Value} (h : Is w F r cs) :
    ∃ a1 k1 F1, cs = [.int .i64 r.pos, .slice a1 r.bytes.length k1] ∧ F1 = F ∧ Is w F1 r.bytes [.slice a1 r.bytes.length k1] ∧ In64 r.pos := by
  obtain ⟨_, F1, _, c1, rfl, rfl, ⟨rfl, rfl, i0⟩, h1⟩ := h
  obtain ⟨a1, k1, rfl⟩ := slice_form h1
  exact ⟨a1, k1, F1, rfl, by simp, h1, i0⟩

theorem data_shut {w : World} {F1 : List Nat} {r : DataD} {s1 : Value} (h1 : Is w F1 r.bytes [s1]) (i0 : In64 r.pos) : Is w (F1) r [.int .i64 r.pos, s1] := by
  have h : Is w ([] ++ (F1)) r [.int .i64 r.pos, s1] := ⟨[], _, [_], _, rfl, rfl, ⟨rfl, rfl, i0⟩, h1⟩
  simpa using h

set_option maxRecDepth 10000 in
theorem opens_data : Opens Tryz.prog 116 DataD := by
  refine Opens.via _ (fun y => ⟨y.1, y.2⟩) (fun _ => rfl) ?_
  refine opens_struct Tryz.underlying116 (by kernel_rfl) ⟨_, rfl, rfl⟩ ?_
  exact fields_cons _ _ rfl rfl rfl (opens_int Tryz.underlying3 (by kernel_rfl)) (fields_last _ rfl opens_bytes)

def dataCost (r : DataD) : Nat := r.bytes.length
def datasCost (l : List DataD) : Nat := l.length + (l.map dataCost).sum

theorem szData {F : List Nat} {cs : List Value} (r : DataD) (left : Int) (w : World) (hl0 : 0 ≤ left) (hl1 : left ≤ 1048576) [h : Shows w F r cs] :
    Calls Tryz.prog 60 #[.agg cs.toArray, .int .i64 left] w fun e w' => e = .returned (.int .i64 (left0 left (dataCost r))) ∧ Step w w' := by
  obtain ⟨a1, k1, F1, rfl, rfl, h1, i0⟩ := data_open h.is
  have n1 : Known w F1 r.bytes [.slice a1 r.bytes.length k1] := ⟨h1⟩
  have hc : dataCost r = r.bytes.length := rfl
  replace hc := hid hc
  clear h
  go_enter Tryz.func60, Tryz.ntmps60
  by_cases c1 : left - (r.bytes.length : Nat) < 0
  · have l1 := left0_neg (left := left) (c := r.bytes.length) c1
    go_wp2_with (first | (go_at_call 127; (with_reducible refine Calls.mono (szBytes _ _ _ (by omega) (by omega)) ?_); rintro e wk ⟨rfl, st⟩))
    go_ret
    exact ⟨by rw [hc.out, left0_neg (by omega)]; rfl, mkStep⟩
  have l1 := left0_pos (left := left) (c := r.bytes.length) c1
  go_wp2_with (first | (go_at_call 127; (with_reducible refine Calls.mono (szBytes _ _ _ (by omega) (by omega)) ?_); rintro e wk ⟨rfl, st⟩))
  go_ret
  exact ⟨by rw [hc.out, left0_pos (by omega)]; exact ret_int (by omega), mkStep⟩

set_option maxHeartbeats 1000000 in
theorem eqData {F G : List Nat} {cs ds : List Value} (r q : DataD) (w : World) [h : Shows w F r cs] [h' : Shows w G q ds] :
    Calls Tryz.prog 99 #[.agg cs.toArray, .agg ds.toArray] w fun e w' => e = .returned (.bool (decide (r = q))) ∧ Step w w' := by
  obtain ⟨a1, k1, F1, rfl, rfl, h1, i0⟩ := data_open h.is
  obtain ⟨b1, m1, G1, rfl, rfl, g1, j0⟩ := data_open h'.is
  have n1 : Known w F1 r.bytes [.slice a1 r.bytes.length k1] := ⟨h1⟩
  have q1 : Known w G1 q.bytes [.slice b1 q.bytes.length m1] := ⟨g1⟩
  have no : ∀ {p : Prop}, (r = q → p) → ¬ p → decide (r = q) = false := fun h1 h2 => decide_eq_false_iff_not.2 (fun e => h2 (h1 e))
  clear h h'
  go_enter Tryz.func99, Tryz.ntmps99
  by_cases c0 : r.pos = q.pos
  rotate_left
  · have hn := no (congrArg DataD.pos) c0
    replace hn := hid hn
    go_wp2_with (first | (go_at_call 138; (with_reducible refine Calls.mono (eqBytes ..) ?_); rintro e wk ⟨rfl, st⟩))
    go_ret
    exact ⟨by rw [hn.out]; rfl, mkStep⟩
  by_cases c1 : r.bytes = q.bytes
  rotate_left
  · have hn := no (congrArg DataD.bytes) c1
    replace hn := hid hn
    have e1 := decide_eq_false c1
    replace c1 := hid c1
    go_wp2_with (first | (go_at_call 138; (with_reducible refine Calls.mono (eqBytes ..) ?_); rintro e wk ⟨rfl, st⟩))
    go_ret
    exact ⟨by rw [hn.out]; rfl, mkStep⟩
  have e1 := decide_eq_true c1
  replace c1 := hid c1
  have hy : decide (r = q) = true := decide_eq_true_iff.2 (DataD.ext c0 c1.out)
  replace hy := hid hy
  go_wp2_with (first | (go_at_call 138; (with_reducible refine Calls.mono (eqBytes ..) ?_); rintro e wk ⟨rfl, st⟩))
  go_ret
  exact ⟨by rw [hy.out]; rfl, mkStep⟩

set_option maxHeartbeats 1000000 in
theorem toData {F : List Nat} {cs : List Value} (r : DataD) (w : World) (hb : dataCost r ≤ 1048576) [h : Shows w F r cs] :
    Calls Tryz.prog 75 #[.agg cs.toArray] w fun e w' => ∃ b1 m1 G, e = .returned (.agg #[.int .i64 r.pos, .slice b1 r.bytes.length m1]) ∧ Known w' G r [.int .i64 r.pos, .slice b1 r.bytes.length m1] ∧ NewF w G ∧ Step w w' := by
  obtain ⟨a1, k1, F1, rfl, rfl, h1, i0⟩ := data_open h.is
  have n1 : Known w F1 r.bytes [.slice a1 r.bytes.length k1] := ⟨h1⟩
  have hc : dataCost r = r.bytes.length := rfl
  have z1 : r.bytes.length ≤ 1048576 := by omega
  clear h hc hb
  go_enter Tryz.func75, Tryz.ntmps75
  go_wp2_with fail
  with_reducible refine Calls.mono (toBytes _ _ z1) ?_
  rintro e w1 ⟨b1, m1, Y1, rfl, y1, nw1, st1⟩
  go_wp2
  refine bodyPost_ret (v := .agg #[.int .i64 r.pos, .slice b1 r.bytes.length m1]) (by simp [results, Tryz.results75, go_sem]) rfl ?_
  exact ⟨_, _, _, rfl, ⟨data_shut isOf i0⟩, ⟨(NewLt.one (a := w) nw1 y1).1⟩, mkStep⟩
set_option maxRecDepth 10000 in
theorem opens_datas : Opens Tryz.prog 27 (List DataD) := opens_slice Tryz.underlying27 (by kernel_rfl) (by decide) opens_data
theorem szDataS {F : List Nat} {v : Value} (l : List DataD) (left : Int) (w : World) (h0 : 0 ≤ left) (h1 : left ≤ 1048576) [h : Shows w F l [v]] :
    Calls Tryz.prog 23 #[v, .int .i64 left] w fun e w' => e = .returned (.int .i64 (left0 left (datasCost l))) ∧ Step w w' := by
  obtain ⟨a, cap, cl, FF, hv, _, hvw, hr, hml⟩ := list_open h.is
  cases hv
  unfold maxLen at hml
  clear h
  have hc0 : datasCost l = l.length + (l.map dataCost).sum := rfl
  replace hc0 := hid hc0
  go_enter Tryz.func23, Tryz.ntmps23
  by_cases hl : left - l.length < 0
  · go_wp2
    go_ret
    exact ⟨by rw [hc0.out, left0_neg (by omega)]; rfl, mkStep⟩
  · go_wp2
    go_loopw [1, 5] (fun r i wr => ∃ k : Nat, k ≤ l.length ∧ i = .int .i64 k ∧ Step w wr ∧ ∃ q : Int, 0 ≤ q ∧ r = .int .i64 q ∧ Hid (q = left - l.length - (((l.take k).map dataCost).sum : Nat))) (fun _ i _ => l.length - (intOf i).toNat)
    case atStart => exact ⟨0, by omega, rfl, mkStep, left - l.length, by omega, rfl, hid (by simp)⟩
    case round =>
      obtain ⟨k, hk, rfl, st, q, hq, rfl, heq⟩ := hrel
      by_cases hlt : k < l.length
      · have h2 := sum_take dataCost l k hlt
        have h3 := sum_take_le dataCost l (k + 1)
        replace h2 := hid h2
        have q9 : q ≤ 1048576 := by have := heq.out; omega
        obtain ⟨b, o, G, cs, rfl, hG, hI, hc, ho⟩ := hvw.row hr rfl (by decide) k hlt
        have hI0 := hI
        obtain ⟨a1, k1, F1, rfl, rfl, h1, i0⟩ := data_open hI0
        have ke : Known w _ l[k] _ := ⟨hI⟩
        have c0 := (hc 0 _ rfl).1
        replace c0 : w.cell? ⟨b, o + k * 2, none⟩ = _ := c0
        have c1 := (hc 1 _ rfl).1
        replace c1 : w.cell? ⟨b, o + k * 2 + 1, none⟩ = _ := c1
        clear hc
        by_cases hn : q - (dataCost l[k] : Nat) < 0
        · have e9 := left0_neg hn
          go_wp2_with (first | (go_at_call 60; (with_reducible refine Calls.mono (szData _ _ _ (by omega) (by omega)) ?_); rintro e wk ⟨rfl, st⟩))
          go_ret
          exact ⟨by rw [hc0.out, left0_neg (by have := h2.out; have := heq.out; omega)]; rfl, mkStep⟩
        · have e9 := left0_pos hn
          go_wp2_with (first | (go_at_call 60; (with_reducible refine Calls.mono (szData _ _ _ (by omega) (by omega)) ?_); rintro e wk ⟨rfl, st⟩))
          go_roundw
          case rel => exact ⟨k + 1, by omega, by go_num, mkStep, _, by omega, rfl, hid (by have := h2.out; have := heq.out; omega)⟩
          case measure => simp [intOf]; omega
      · obtain rfl : k = l.length := by omega
        have h2 := sum_full dataCost l
        go_wp2
        go_ret
        exact ⟨by rw [hc0.out, left0_pos (by have := heq.out; omega)]; exact ret_int (by have := heq.out; omega), mkStep⟩
set_option maxHeartbeats 1000000 in
theorem eqDataS {F G : List Nat} {v u : Value} (l m : List DataD) (w : World) [h : Shows w F l [v]] [h' : Shows w G m [u]] :
    Calls Tryz.prog 37 #[v, u] w fun e w' => e = .returned (.bool (decide (l = m))) ∧ Step w w' := by
  obtain ⟨a, cap, cl, FF, hv, _, hvw, hr, hml⟩ := list_open h.is
  cases hv
  obtain ⟨a', cap', cl', FF', hv', _, hvw', hr', hml'⟩ := list_open h'.is
  cases hv'
  unfold maxLen at hml hml'
  clear h h'
  go_enter Tryz.func37, Tryz.ntmps37
  by_cases hl : l.length = m.length
  · go_wp2
    have l1 : l.length ≤ m.length := by omega
    have l2 : m.length ≤ l.length := by omega
    clear hl
    go_loopw [5] (fun i wr => ∃ k : Nat, k ≤ l.length ∧ i = .int .i64 k ∧ Step w wr ∧ Hid (∀ j : Nat, j < k → l[j]? = m[j]?)) (fun i _ => l.length - (intOf i).toNat)
    case atStart => exact ⟨0, by omega, rfl, mkStep, fun j hj => by omega⟩
    case round =>
      obtain ⟨k, hk, rfl, st, heq⟩ := hrel
      by_cases hlt : k < l.length
      · have hlt' : k < m.length := by omega
        obtain ⟨b, o, G, cs, rfl, hG, hI, hc, ho⟩ := hvw.row hr rfl (by decide) k hlt
        have hI0 := hI
        obtain ⟨a1, k1, F1, rfl, rfl, h1, i0⟩ := data_open hI0
        have ke : Known w _ l[k] _ := ⟨hI⟩
        have c0 := (hc 0 _ rfl).1
        replace c0 : w.cell? ⟨b, o + k * 2, none⟩ = _ := c0
        have c1 := (hc 1 _ rfl).1
        replace c1 : w.cell? ⟨b, o + k * 2 + 1, none⟩ = _ := c1
        clear hc
        obtain ⟨b', o', G', cs', rfl, hG', hI', hc', ho'⟩ := hvw'.row hr' rfl (by decide) k hlt'
        have hI0' := hI'
        obtain ⟨a1', k1', F1', rfl, rfl, h1', i0'⟩ := data_open hI0'
        have ke' : Known w _ m[k] _ := ⟨hI'⟩
        have c0' := (hc' 0 _ rfl).1
        replace c0' : w.cell? ⟨b', o' + k * 2, none⟩ = _ := c0'
        have c1' := (hc' 1 _ rfl).1
        replace c1' : w.cell? ⟨b', o' + k * 2 + 1, none⟩ = _ := c1'
        clear hc'
        have b1 : (0 : Int) ≤ (k : Int) := by omega
        have b2 : (k : Int) < (l.length : Int) := by omega
        have b3 : (k : Int) < (m.length : Int) := by omega
        by_cases he : l[k] = m[k]
        · have e1 := decide_eq_true he
          replace he := hid he
          go_wp2_with fail
          refine rg_begin0 (n := 10) (by kernel_rfl) rfl fun rg0 => ?_
          refine rg_read (i := 0) (a1 := _) rfl (by kernel_rfl) rfl (by simp) (by intro wq hwq; go_wp2; exact ⟨rfl, rfl⟩) mkStep ?_
          refine rg_read (i := 1) (a1 := _) rfl (by kernel_rfl) rfl (by simp) (by intro wq hwq; go_wp2; exact ⟨rfl, rfl⟩) mkStep ?_
          refine rg_read (i := 2) (a1 := _) rfl (by kernel_rfl) rfl (by simp) (by intro wq hwq; go_wp2; exact ⟨rfl, rfl⟩) mkStep ?_
          refine rg_read (i := 3) (a1 := _) rfl (by kernel_rfl) rfl (by simp) (by intro wq hwq; go_wp2; exact ⟨rfl, rfl⟩) mkStep ?_
          refine rg_read (i := 4) (a1 := _) rfl (by kernel_rfl) rfl (by simp) (by intro wq hwq; go_wp2; exact ⟨rfl, rfl⟩) mkStep ?_
          refine rg_read (i := 5) (a1 := _) rfl (by kernel_rfl) rfl (by simp) (by intro wq hwq; go_wp2; exact ⟨rfl, rfl⟩) mkStep ?_
          refine rg_read (i := 6) (a1 := _) rfl (by kernel_rfl) rfl (by simp) (by intro wq hwq; go_wp2; exact ⟨rfl, rfl⟩) mkStep ?_
          refine rg_read (i := 7) (a1 := _) rfl (by kernel_rfl) rfl (by simp) (by intro wq hwq; go_wp2; exact ⟨rfl, rfl⟩) mkStep ?_
          refine rg_eff (i := 8) rfl (by kernel_rfl) ?_
          simp only [List.getElem_toArray, List.getElem_cons_succ, List.getElem_cons_zero]
          go_wp2_with (first | (go_at_call 99; (with_reducible refine Calls.mono (eqData ..) ?_); rintro e wk ⟨rfl, st⟩))
          refine ⟨mkStep, ?_⟩
          refine rg_read (i := 9) (a1 := _) rfl (by kernel_rfl) rfl (by simp) (by intro wq hwq; go_wp2; exact ⟨rfl, rfl⟩) mkStep ?_
          refine rg_done (by kernel_rfl) ?_
          go_wp2
          go_roundw
          case rel => exact ⟨k + 1, by omega, by go_num, mkStep, upto_step heq.out hlt (by omega) he.out⟩
          case measure => simp [intOf]; omega
        · have e1 := decide_eq_false he
          replace he := hid he
          go_wp2_with fail
          refine rg_begin0 (n := 10) (by kernel_rfl) rfl fun rg0 => ?_
          refine rg_read (i := 0) (a1 := _) rfl (by kernel_rfl) rfl (by simp) (by intro wq hwq; go_wp2; exact ⟨rfl, rfl⟩) mkStep ?_
          refine rg_read (i := 1) (a1 := _) rfl (by kernel_rfl) rfl (by simp) (by intro wq hwq; go_wp2; exact ⟨rfl, rfl⟩) mkStep ?_
          refine rg_read (i := 2) (a1 := _) rfl (by kernel_rfl) rfl (by simp) (by intro wq hwq; go_wp2; exact ⟨rfl, rfl⟩) mkStep ?_
          refine rg_read (i := 3) (a1 := _) rfl (by kernel_rfl) rfl (by simp) (by intro wq hwq; go_wp2; exact ⟨rfl, rfl⟩) mkStep ?_
          refine rg_read (i := 4) (a1 := _) rfl (by kernel_rfl) rfl (by simp) (by intro wq hwq; go_wp2; exact ⟨rfl, rfl⟩) mkStep ?_
          refine rg_read (i := 5) (a1 := _) rfl (by kernel_rfl) rfl (by simp) (by intro wq hwq; go_wp2; exact ⟨rfl, rfl⟩) mkStep ?_
          refine rg_read (i := 6) (a1 := _) rfl (by kernel_rfl) rfl (by simp) (by intro wq hwq; go_wp2; exact ⟨rfl, rfl⟩) mkStep ?_
          refine rg_read (i := 7) (a1 := _) rfl (by kernel_rfl) rfl (by simp) (by intro wq hwq; go_wp2; exact ⟨rfl, rfl⟩) mkStep ?_
          refine rg_eff (i := 8) rfl (by kernel_rfl) ?_
          simp only [List.getElem_toArray, List.getElem_cons_succ, List.getElem_cons_zero]
          go_wp2_with (first | (go_at_call 99; (with_reducible refine Calls.mono (eqData ..) ?_); rintro e wk ⟨rfl, st⟩))
          refine ⟨mkStep, ?_⟩
          refine rg_read (i := 9) (a1 := _) rfl (by kernel_rfl) rfl (by simp) (by intro wq hwq; go_wp2; exact ⟨rfl, rfl⟩) mkStep ?_
          refine rg_done (by kernel_rfl) ?_
          go_wp2
          go_ret
          exact ⟨by rw [upto_ne hlt (by omega) he.out]; rfl, mkStep⟩
      · go_wp2
        go_ret
        exact ⟨by rw [upto_all (by omega) (by omega) heq.out]; rfl, mkStep⟩
  · go_wp2
    go_ret
    exact ⟨ret_bool (by simp; intro e; exact hl (by rw [e])), mkStep⟩
theorem Tryz.datas_tab : Tryz.prog.underlying 37 = some (.slice 104) ∧ (Tryz.prog.info? 104).map (fun i => (i.zero, i.size, i.bytes)) = some (some (.agg #[.int .i64 0, .slice none 0 0]), 2, 32) ∧ (.agg #[.int .i64 0, .slice none 0 0] : Value).cells.size = 2 ∧ 0 < 2 ∧ 0 < 32 :=
  ⟨by kernel_rfl, by kernel_rfl, rfl, by decide, by decide⟩
set_option maxHeartbeats 1000000 in
theorem toDataS {F : List Nat} {v : Value} (l : List DataD) (w : World) (hs : datasCost l ≤ 1048576) [h : Shows w F l [v]] :
    Calls Tryz.prog 30 #[v] w fun e w' => ∃ a c G, e = .returned (.slice a l.length c) ∧ Known w' G l [.slice a l.length c] ∧ NewF w G ∧ Step w w' := by
  obtain ⟨a, cap, cl, FF, hv, _, hvw, hr, hml⟩ := list_open h.is
  cases hv
  unfold maxLen at hml
  clear h
  have hs1 : l.length ≤ 1048576 := by unfold datasCost at hs; omega
  have hs2 : ∀ k (hk : k < l.length), dataCost l[k] ≤ 1048576 := fun k hk => cost_at _ hs hk
  replace hs2 := hid hs2
  clear hs
  obtain ⟨w1, Z, hrun, hown, hf1⟩ := made_any (P := Tryz.prog) w l.length _ _ _ _ _ Tryz.datas_tab (by omega)
  have s1 : Step w w1 := ⟨hf1⟩
  go_enter Tryz.func30, Tryz.ntmps30
  go_wp2
  go_loopw [4] (fun i wr => ∃ k : Nat, k ≤ l.length ∧ i = .int .i64 k ∧ Step w wr ∧ Build w wr 104 l k) (fun i _ => l.length - (intOf i).toNat)
  case atStart => exact ⟨0, by omega, rfl, mkStep, Build.start hown⟩
  case round =>
    obtain ⟨k, hk, rfl, st, hB⟩ := hrel
    by_cases hlt : k < l.length
    · have hz := hs2.out k hlt
      obtain ⟨b, o, G, cs, rfl, hG, hI, hc, ho⟩ := hvw.row hr rfl (by decide) k hlt
      have hI0 := hI
      obtain ⟨a1, k1, F1, rfl, rfl, h1, i0⟩ := data_open hI0
      have ke : Known w _ l[k] _ := ⟨hI⟩
      have c0 := (hc 0 _ rfl).1
      replace c0 : w.cell? ⟨b, o + k * 2, none⟩ = _ := c0
      have c1 := (hc 1 _ rfl).1
      replace c1 : w.cell? ⟨b, o + k * 2 + 1, none⟩ = _ := c1
      clear hc
      obtain ⟨hB1, hB2⟩ := hB.slots hlt
      have og := hB2 (by decide)
      obtain ⟨u0, d0, f0⟩ := hB1 0 (by decide)
      replace d0 : wr.cell? ⟨w.heap.size, k * 2, none⟩ = _ := d0
      replace f0 : wr.frozen? ⟨w.heap.size, k * 2, none⟩ = _ := f0
      obtain ⟨u1, d1, f1⟩ := hB1 1 (by decide)
      replace d1 : wr.cell? ⟨w.heap.size, k * 2 + 1, none⟩ = _ := d1
      replace f1 : wr.frozen? ⟨w.heap.size, k * 2 + 1, none⟩ = _ := f1
      clear hB1 hB2
      go_wp2_with fail
      with_reducible refine Calls.mono (toData _ _ hz) ?_
      rintro e wk ⟨bb1, mm1, G2, rfl, kn, nw, st2⟩
      have hS := hB.step hlt (by decide) st2.fr kn.is nw.is
      rw [show sz DataD = 2 from rfl] at hS
      simp only [setRow] at hS
      replace hS := hid hS
      go_wp2
      go_roundw
      case rel => exact ⟨k + 1, by omega, by go_num, mkStep, hS.out⟩
      case measure => simp [intOf]; omega
    · obtain rfl : k = l.length := by omega
      obtain ⟨G2, hI, hN⟩ := hB.done (by decide)
      go_wp2
      go_ret
      exact ⟨_, _, _, rfl, ⟨hI⟩, ⟨hN⟩, mkStep⟩
end Go.Proofs.YtociekeaiigpfaaGreatDoor
